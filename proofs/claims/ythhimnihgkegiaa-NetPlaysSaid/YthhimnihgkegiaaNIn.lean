/-
  Nets whose blocks lie from a number on: the contracts once more, in a form that is easy to carry along; two nets apart. Conditions: bounds.
-/
import Derived.Test.YthhimnihgkegiaaNNext
namespace Go.Proofs.Ythhimnihgkegiaa
open Go Go.RowKit
set_option linter.unusedVariables false

def from_ (L : Nat) : Nat → Prop := fun k => L ≤ k
theorem Keeps.lower {w w' : World} {L M : Nat} (h : Keeps (from_ M) w w') (hl : L ≤ M) : Keeps (from_ L) w w' := h.mono fun _ _ e => Nat.le_trans hl e
/-- what bounds a net -/
structure NS.Fine (s : NS) (n : Nat) : Prop where
  len : s.w.length ≤ 8 * n
  sent : s.sent ≤ n
  scr : s.script.length ≤ 1048576
  del : ∀ t ∈ s.script, t.delay ≤ 1000000000
theorem NS.Fine.tr {s : NS} {n : Nat} (h : s.Fine n) : s.tr.delay ≤ 1000000000 := by
  by_cases h0 : s.script.length = 0
  · rw [NS.tr_nil h0]; decide
  · rw [NS.tr_get (by omega)]; exact h.del _ (List.getElem_mem _)
theorem NS.Fine.send {s : NS} {n : Nat} (h : s.Fine n) (now fr to_ : Int) (tx : List UInt8) : (s.send now fr to_ tx).Fine (n + 1) :=
  ⟨by have := length_send s now fr to_ tx; have := h.len; omega, Nat.succ_le_succ h.sent, h.scr, h.del⟩
theorem NS.Fine.next {s : NS} {n : Nat} (h : s.Fine n) : s.next.Fine n :=
  ⟨by have := h.len; simp only [NS.next, List.length_tail]; omega, h.sent, h.scr, h.del⟩
theorem NS.Fine.mono {s : NS} {n m : Nat} (h : s.Fine n) (hm : n ≤ m) : s.Fine m := ⟨by have := h.len; omega, by have := h.sent; omega, h.scr, h.del⟩
theorem NS.Fine.new (nodes : Int) (l : List Tr) (hl : l.length ≤ 1048576) (hd : ∀ t ∈ l, t.delay ≤ 1000000000) : (newS nodes l).Fine 0 := ⟨by simp [newS], by simp [newS], hl, hd⟩

def Net1 (w : World) (b L : Nat) (s : NS) : Prop := ∃ F, (∀ k, F k → L ≤ k) ∧ NetP w b F s
theorem Net1.keep {w w' : World} {b L : Nat} {s : NS} (h : Net1 w b L s) (hk : Keeps noBlock w w') : Net1 w' b L s := by
  obtain ⟨F, hF, h⟩ := h; exact ⟨F, hF, h.still hk⟩
theorem Net1.ok {w : World} {b L : Nat} {s : NS} (h : Net1 w b L s) : s.Ok := by
  obtain ⟨F, hF, h⟩ := h; exact h.ok
theorem Net1.le {w : World} {b L : Nat} {s : NS} (h : Net1 w b L s) : L ≤ b ∧ b < w.heap.size := by
  obtain ⟨F, hF, h⟩ := h; exact ⟨hF _ h.fb, h.lt _ h.fb⟩
theorem grow_from {F : Nat → Prop} {w w' : World} {L : Nat} (hF : ∀ k, F k → L ≤ k) (hl : L ≤ w.heap.size) : ∀ k, grow F w w' k → L ≤ k := fun k e => by
  rcases e with e | e
  · exact hF k e
  · omega

def New1 (s : NS) (w : World) (e : Ending) (w' : World) : Prop := ∃ b, e = .returned (.pointer (some ⟨b, 0, none⟩)) ∧ Net1 w' b w.heap.size s ∧ Keeps noBlock w w'
theorem new_in (w : World) (nodes : Int) (v : Value) (l : List Tr) (h : w.ownsRow 0 42 3 v l.length (trs l)) (hn : l.length ≤ 1048576) :
    Calls Try.prog 12 #[.int .i64 nodes, v] w (New1 (newS nodes l) w) :=
  (new_any w nodes v l h hn).mono fun e w' ⟨b, he, hp, hk⟩ => ⟨b, he, ⟨_, grow_from (fun _ e => e.elim) (Nat.le_refl _), hp⟩, hk⟩
def In1 (b L : Nat) (s : NS) (v : Value) (w : World) (e : Ending) (w' : World) : Prop := e = .returned v ∧ Net1 w' b L s ∧ Keeps (from_ L) w w'
theorem send_in (w : World) (b L : Nat) (s : NS) (n : Nat) (now fr to_ : Int) (tx : List UInt8) (h : Net1 w b L s) (hl : L ≤ w.heap.size) (hf : s.Fine n) (hn : n ≤ 100000) (hnow : -1000000000 ≤ now ∧ now ≤ 1000000000) :
    Calls Try.prog 14 #[.pointer (some ⟨b, 0, none⟩), .int .i64 now, msgVal fr to_ tx] w (In1 b L (s.send now fr to_ tx) (.tuple #[]) w) := by
  obtain ⟨F, hF, h⟩ := h
  exact (send_any w b F s now fr to_ tx h hf.scr (by have := hf.sent; omega) hnow hf.tr (by have := hf.len; omega)).mono fun e w' ⟨he, hp, hk⟩ => ⟨he, ⟨_, grow_from hF hl, hp⟩, hk.mono fun k _ e => hF k e⟩
/-- a Send that drops its message, whenever it is -/
theorem send_in_drop (w : World) (b L : Nat) (s : NS) (now fr to_ : Int) (tx : List UInt8) (h : Net1 w b L s) (hl : L ≤ w.heap.size) (hd : s.drops to_ = true) (hn : s.script.length ≤ 1048576) (hs : s.sent ≤ 100000) :
    Calls Try.prog 14 #[.pointer (some ⟨b, 0, none⟩), .int .i64 now, msgVal fr to_ tx] w (In1 b L (s.send now fr to_ tx) (.tuple #[]) w) := by
  obtain ⟨F, hF, h⟩ := h
  exact (send_drop w b F s now fr to_ tx h hd hn (by omega)).mono fun e w' ⟨he, hp, hk⟩ => ⟨he, ⟨_, grow_from hF hl, hp⟩, hk.mono fun k _ e => hF k e⟩
theorem next_in (w : World) (b L : Nat) (s : NS) (n : Nat) (h : Net1 w b L s) (hl : L ≤ w.heap.size) (hf : s.Fine n) (hn : n ≤ 100000) :
    Calls Try.prog 16 #[.pointer (some ⟨b, 0, none⟩)] w (In1 b L s.next (nextVal s.w) w) := by
  obtain ⟨F, hF, h⟩ := h
  exact (next_any w b F s h (by have := hf.len; omega)).mono fun e w' ⟨he, hp, hk⟩ => ⟨he, ⟨_, grow_from hF hl, hp⟩, hk.mono fun k _ e => hF k e⟩
theorem waiting_in (w : World) (b L : Nat) (s : NS) (h : Net1 w b L s) :
    Calls Try.prog 18 #[.pointer (some ⟨b, 0, none⟩)] w fun e w' => e = .returned (.int .i64 (s.w.length : Int)) ∧ w = w' := by
  obtain ⟨F, hF, h⟩ := h
  exact waiting_any w b F s h

/-- a net whose blocks lie in B -/
def NetB (w : World) (b : Nat) (B : Nat → Prop) (s : NS) : Prop := ∃ F, (∀ k, F k → B k) ∧ NetP w b F s
theorem NetB.keep {w w' : World} {b : Nat} {B S : Nat → Prop} {s : NS} (h : NetB w b B s) (hk : Keeps S w w') (hs : ∀ k, B k → ¬ S k) : NetB w' b B s := by
  obtain ⟨F, hF, h⟩ := h; exact ⟨F, hF, h.keep hk fun k e => hs k (hF k e)⟩
theorem NetB.hole {w w' : World} {b : Nat} {B : Nat → Prop} {s : NS} (h : NetB w b B s) (hk : Keeps noBlock w w') : NetB w' b (fun k => B k ∧ k ≠ w.heap.size) s := by
  obtain ⟨F, hF, h⟩ := h
  exact ⟨F, fun k e => ⟨hF k e, fun e2 => by have := h.lt k e; omega⟩, h.still hk⟩
theorem NetB.of {w : World} {b L : Nat} {s : NS} (h : Net1 w b L s) : NetB w b (from_ L) s := h
def InB (b : Nat) (B : Nat → Prop) (s : NS) (v : Value) (w : World) (e : Ending) (w' : World) : Prop := e = .returned v ∧ NetB w' b B s ∧ Keeps B w w'
theorem grow_in {F B : Nat → Prop} {w w' : World} (hF : ∀ k, F k → B k) (hl : ∀ k, w.heap.size ≤ k → B k) : ∀ k, grow F w w' k → B k := fun k e => by
  rcases e with e | e
  · exact hF k e
  · exact hl k e.1
theorem send_B (w : World) (b : Nat) (B : Nat → Prop) (s : NS) (n : Nat) (now fr to_ : Int) (tx : List UInt8) (h : NetB w b B s) (hl : ∀ k, w.heap.size ≤ k → B k) (hf : s.Fine n) (hn : n ≤ 100000) (hnow : -1000000000 ≤ now ∧ now ≤ 1000000000) :
    Calls Try.prog 14 #[.pointer (some ⟨b, 0, none⟩), .int .i64 now, msgVal fr to_ tx] w (InB b B (s.send now fr to_ tx) (.tuple #[]) w) := by
  obtain ⟨F, hF, h⟩ := h
  exact (send_any w b F s now fr to_ tx h hf.scr (by have := hf.sent; omega) hnow hf.tr (by have := hf.len; omega)).mono fun e w' ⟨he, hp, hk⟩ => ⟨he, ⟨_, grow_in hF hl, hp⟩, hk.mono fun k _ e => hF k e⟩
theorem next_B (w : World) (b : Nat) (B : Nat → Prop) (s : NS) (n : Nat) (h : NetB w b B s) (hl : ∀ k, w.heap.size ≤ k → B k) (hf : s.Fine n) (hn : n ≤ 100000) :
    Calls Try.prog 16 #[.pointer (some ⟨b, 0, none⟩)] w (InB b B s.next (nextVal s.w) w) := by
  obtain ⟨F, hF, h⟩ := h
  exact (next_any w b F s h (by have := hf.len; omega)).mono fun e w' ⟨he, hp, hk⟩ => ⟨he, ⟨_, grow_in hF hl, hp⟩, hk.mono fun k _ e => hF k e⟩
theorem waiting_B (w : World) (b : Nat) (B : Nat → Prop) (s : NS) (h : NetB w b B s) :
    Calls Try.prog 18 #[.pointer (some ⟨b, 0, none⟩)] w fun e w' => e = .returned (.int .i64 (s.w.length : Int)) ∧ w = w' := by
  obtain ⟨F, hF, h⟩ := h
  exact waiting_any w b F s h

/-- two nets that lie apart -/
def Net2 (w : World) (a b L : Nat) (s t : NS) : Prop := ∃ F G, (∀ k, F k → L ≤ k) ∧ (∀ k, G k → L ≤ k) ∧ (∀ k, F k → ¬ G k) ∧ NetP w a F s ∧ NetP w b G t
theorem Net2.swap {w : World} {a b L : Nat} {s t : NS} (h : Net2 w a b L s t) : Net2 w b a L t s := by
  obtain ⟨F, G, hF, hG, hd, h1, h2⟩ := h
  exact ⟨G, F, hG, hF, fun k e e2 => hd k e2 e, h2, h1⟩
theorem Net2.keep {w w' : World} {a b L : Nat} {s t : NS} (h : Net2 w a b L s t) (hk : Keeps noBlock w w') : Net2 w' a b L s t := by
  obtain ⟨F, G, hF, hG, hd, h1, h2⟩ := h
  exact ⟨F, G, hF, hG, hd, h1.still hk, h2.still hk⟩
theorem Net2.first {w : World} {a b L : Nat} {s t : NS} (h : Net2 w a b L s t) : Net1 w a L s := by
  obtain ⟨F, G, hF, hG, hd, h1, h2⟩ := h; exact ⟨F, hF, h1⟩
theorem Net2.second {w : World} {a b L : Nat} {s t : NS} (h : Net2 w a b L s t) : Net1 w b L t := h.swap.first
theorem Net2.step {w w' : World} {a b L : Nat} {s' t : NS} {F G : Nat → Prop} (hF : ∀ k, F k → L ≤ k) (hG : ∀ k, G k → L ≤ k) (hd : ∀ k, F k → ¬ G k) (h2 : NetP w b G t) (hl : L ≤ w.heap.size)
    (hp : NetP w' a (grow F w w') s') (hk : Keeps F w w') : Net2 w' a b L s' t ∧ Keeps (from_ L) w w' := by
  refine ⟨⟨_, G, grow_from hF hl, hG, fun k e e2 => ?_, hp, h2.keep hk fun k e e2 => hd k e2 e⟩, hk.mono fun k _ e => hF k e⟩
  rcases e with e | e
  · exact hd k e e2
  · have := h2.lt k e2; omega
def In2 (a b L : Nat) (s t : NS) (v : Value) (w : World) (e : Ending) (w' : World) : Prop := e = .returned v ∧ Net2 w' a b L s t ∧ Keeps (from_ L) w w'
theorem send_2 (w : World) (a b L : Nat) (s t : NS) (n : Nat) (now fr to_ : Int) (tx : List UInt8) (h : Net2 w a b L s t) (hl : L ≤ w.heap.size) (hf : s.Fine n) (hn : n ≤ 100000) (hnow : -1000000000 ≤ now ∧ now ≤ 1000000000) :
    Calls Try.prog 14 #[.pointer (some ⟨a, 0, none⟩), .int .i64 now, msgVal fr to_ tx] w (In2 a b L (s.send now fr to_ tx) t (.tuple #[]) w) := by
  obtain ⟨F, G, hF, hG, hd, h1, h2⟩ := h
  exact (send_any w a F s now fr to_ tx h1 hf.scr (by have := hf.sent; omega) hnow hf.tr (by have := hf.len; omega)).mono fun e w' ⟨he, hp, hk⟩ => ⟨he, Net2.step hF hG hd h2 hl hp hk⟩
theorem next_2 (w : World) (a b L : Nat) (s t : NS) (n : Nat) (h : Net2 w a b L s t) (hl : L ≤ w.heap.size) (hf : s.Fine n) (hn : n ≤ 100000) :
    Calls Try.prog 16 #[.pointer (some ⟨a, 0, none⟩)] w (In2 a b L s.next t (nextVal s.w) w) := by
  obtain ⟨F, G, hF, hG, hd, h1, h2⟩ := h
  exact (next_any w a F s h1 (by have := hf.len; omega)).mono fun e w' ⟨he, hp, hk⟩ => ⟨he, Net2.step hF hG hd h2 hl hp hk⟩
theorem send_2d (w : World) (a b L : Nat) (s t : NS) (now fr to_ : Int) (tx : List UInt8) (h : Net2 w a b L s t) (hl : L ≤ w.heap.size) (hd : s.drops to_ = true) (hn : s.script.length ≤ 1048576) (hs : s.sent ≤ 100000) :
    Calls Try.prog 14 #[.pointer (some ⟨a, 0, none⟩), .int .i64 now, msgVal fr to_ tx] w (In2 a b L (s.send now fr to_ tx) t (.tuple #[]) w) := by
  obtain ⟨F, G, hF, hG, hd2, h1, h2⟩ := h
  exact (send_drop w a F s now fr to_ tx h1 hd hn (by omega)).mono fun e w' ⟨he, hp, hk⟩ => ⟨he, Net2.step hF hG hd2 h2 hl hp hk⟩
theorem Net2.low {w w' : World} {a b L : Nat} {s t : NS} {S : Nat → Prop} (h : Net2 w a b L s t) (hk : Keeps S w w') (hs : ∀ k, S k → k < L) : Net2 w' a b L s t := by
  obtain ⟨F, G, hF, hG, hd, h1, h2⟩ := h
  exact ⟨F, G, hF, hG, hd, h1.keep hk fun k e e2 => by have := hF k e; have := hs k e2; omega, h2.keep hk fun k e e2 => by have := hG k e; have := hs k e2; omega⟩
def New2 (a L : Nat) (s t : NS) (w : World) (e : Ending) (w' : World) : Prop := ∃ b, e = .returned (.pointer (some ⟨b, 0, none⟩)) ∧ Net2 w' a b L s t ∧ Keeps noBlock w w'
theorem new_2 (w : World) (a L : Nat) (s : NS) (nodes : Int) (v : Value) (l : List Tr) (h1 : Net1 w a L s) (hl : L ≤ w.heap.size) (h : w.ownsRow 0 42 3 v l.length (trs l)) (hn : l.length ≤ 1048576) :
    Calls Try.prog 12 #[.int .i64 nodes, v] w (New2 a L s (newS nodes l) w) := by
  obtain ⟨F, hF, h1⟩ := h1
  exact (new_any w nodes v l h hn).mono fun e w' ⟨b, he, hp, hk⟩ => ⟨b, he, ⟨F, _, hF, grow_from (fun _ e => e.elim) hl, fun k e e2 => by
    rcases e2 with e2 | e2
    · exact e2
    · have := h1.lt k e; omega, h1.still hk, hp⟩, hk⟩

/-- two nets that lie apart, and not in block X -/
def Net2X (w : World) (a b L X : Nat) (s t : NS) : Prop := ∃ F G, (∀ k, F k → L ≤ k ∧ k ≠ X) ∧ (∀ k, G k → L ≤ k ∧ k ≠ X) ∧ (∀ k, F k → ¬ G k) ∧ NetP w a F s ∧ NetP w b G t
theorem Net2.hole {w w' : World} {a b L : Nat} {s t : NS} (h : Net2 w a b L s t) (hk : Keeps noBlock w w') : Net2X w' a b L w.heap.size s t := by
  obtain ⟨F, G, hF, hG, hd, h1, h2⟩ := h
  exact ⟨F, G, fun k e => ⟨hF k e, fun e2 => by have := h1.lt k e; omega⟩, fun k e => ⟨hG k e, fun e2 => by have := h2.lt k e; omega⟩, hd, h1.still hk, h2.still hk⟩
theorem Net2X.swap {w : World} {a b L X : Nat} {s t : NS} (h : Net2X w a b L X s t) : Net2X w b a L X t s := by
  obtain ⟨F, G, hF, hG, hd, h1, h2⟩ := h
  exact ⟨G, F, hG, hF, fun k e e2 => hd k e2 e, h2, h1⟩
theorem next_2X (w : World) (a b L X : Nat) (s t : NS) (n : Nat) (h : Net2X w a b L X s t) (hl : L ≤ w.heap.size) (hx : X < w.heap.size) (hf : s.Fine n) (hn : n ≤ 100000) :
    Calls Try.prog 16 #[.pointer (some ⟨a, 0, none⟩)] w fun e w' => e = .returned (nextVal s.w) ∧ Net2 w' a b L s.next t ∧ Keeps (fun k => L ≤ k ∧ k ≠ X) w w' := by
  obtain ⟨F, G, hF, hG, hd, h1, h2⟩ := h
  exact (next_any w a F s h1 (by have := hf.len; omega)).mono fun e w' ⟨he, hp, hk⟩ => ⟨he, (Net2.step (fun k e => (hF k e).1) (fun k e => (hG k e).1) hd h2 hl hp hk).1, hk.mono fun k _ e => hF k e⟩

/-- a literal script -/
theorem lit_row (w : World) (l : List Tr) (hl : l.length ≤ 1048576) : (w.alloc (.cells (trs l).toArray 42)).ownsRow 0 42 3 (.slice (some ⟨w.heap.size, 0, none⟩) l.length l.length) l.length (trs l) := by
  refine ⟨length_trs l, .inr ⟨w.heap.size, l.length, (trs l).toArray, rfl, Nat.zero_le _, heap_alloc_new w _, Nat.le_refl _, by simp only [maxLen]; omega, by simp [length_trs], ?_⟩⟩
  rw [List.toList_toArray, List.take_of_length_le (by rw [length_trs]; omega)]
end Go.Proofs.Ythhimnihgkegiaa
