/-
  A net of the program and one of the reference that lie apart, within a set of blocks; the contracts once more. Conditions: bounds.
-/
import Derived.Test.YthhimnihgkegiaaNIn2
import Derived.Test.YthhimnihgkegiaaNRSend3
import Derived.Test.YthhimnihgkegiaaNRNext
namespace Go.Proofs.Ythhimnihgkegiaa
open Go Go.RowKit
set_option linter.unusedVariables false

def Pair (w : World) (a b : Nat) (B : Nat → Prop) (s t : NS) : Prop := ∃ F G, (∀ k, F k → B k) ∧ (∀ k, G k → B k) ∧ (∀ k, F k → ¬ G k) ∧ NetP w a F s ∧ RefP w b G t
theorem Pair.keep {w w' : World} {a b : Nat} {B : Nat → Prop} {s t : NS} (h : Pair w a b B s t) (hk : Keeps noBlock w w') : Pair w' a b B s t := by
  obtain ⟨F, G, hF, hG, hd, h1, h2⟩ := h
  exact ⟨F, G, hF, hG, hd, h1.still hk, h2.keep hk (fun _ _ e => e)⟩
theorem Pair.hole {w w' : World} {a b : Nat} {B : Nat → Prop} {s t : NS} (h : Pair w a b B s t) (hk : Keeps noBlock w w') : Pair w' a b (fun k => B k ∧ k ≠ w.heap.size) s t := by
  obtain ⟨F, G, hF, hG, hd, h1, h2⟩ := h
  exact ⟨F, G, fun k e => ⟨hF k e, fun e2 => by have := h1.lt k e; omega⟩, fun k e => ⟨hG k e, fun e2 => by have := h2.lt k e; omega⟩, hd, h1.still hk, h2.keep hk (fun _ _ e => e)⟩
theorem Pair.mono {w : World} {a b : Nat} {B C : Nat → Prop} {s t : NS} (h : Pair w a b B s t) (hc : ∀ k, B k → C k) : Pair w a b C s t := by
  obtain ⟨F, G, hF, hG, hd, h1, h2⟩ := h
  exact ⟨F, G, fun k e => hc k (hF k e), fun k e => hc k (hG k e), hd, h1, h2⟩
def InPair (a b : Nat) (B : Nat → Prop) (s t : NS) (v : Value) (w : World) (e : Ending) (w' : World) : Prop := e = .returned v ∧ Pair w' a b B s t ∧ Keeps B w w'
theorem Pair.stepP {w w' : World} {a b : Nat} {B : Nat → Prop} {s' t : NS} {F G : Nat → Prop} (hF : ∀ k, F k → B k) (hG : ∀ k, G k → B k) (hd : ∀ k, F k → ¬ G k) (h2 : RefP w b G t) (hl : ∀ k, w.heap.size ≤ k → B k)
    (hp : NetP w' a (grow F w w') s') (hk : Keeps F w w') : Pair w' a b B s' t ∧ Keeps B w w' := by
  refine ⟨⟨_, G, grow_in hF hl, hG, fun k e e2 => ?_, hp, h2.keep hk fun k e e2 => hd k e2 e⟩, hk.mono fun k _ e => hF k e⟩
  rcases e with e | e
  · exact hd k e e2
  · have := h2.lt k e2; omega
theorem Pair.stepR {w w' : World} {a b : Nat} {B : Nat → Prop} {s t' : NS} {F G : Nat → Prop} (hF : ∀ k, F k → B k) (hG : ∀ k, G k → B k) (hd : ∀ k, F k → ¬ G k) (h1 : NetP w a F s) (hl : ∀ k, w.heap.size ≤ k → B k)
    (hp : RefP w' b (grow G w w') t') (hk : Keeps G w w') : Pair w' a b B s t' ∧ Keeps B w w' := by
  refine ⟨⟨F, _, hF, grow_in hG hl, fun k e e2 => ?_, h1.keep hk fun k e e2 => hd k e e2, hp⟩, hk.mono fun k _ e => hG k e⟩
  rcases e2 with e2 | e2
  · exact hd k e e2
  · have := h1.lt k e; omega
theorem send_pP (w : World) (a b : Nat) (B : Nat → Prop) (s t : NS) (n : Nat) (now fr to_ : Int) (tx : List UInt8) (h : Pair w a b B s t) (hl : ∀ k, w.heap.size ≤ k → B k) (hf : s.Fine n) (hn : n ≤ 100000) (hnow : -1000000000 ≤ now ∧ now ≤ 1000000000) :
    Calls Try.prog 14 #[.pointer (some ⟨a, 0, none⟩), .int .i64 now, msgVal fr to_ tx] w (InPair a b B (s.send now fr to_ tx) t (.tuple #[]) w) := by
  obtain ⟨F, G, hF, hG, hd, h1, h2⟩ := h
  exact (send_any w a F s now fr to_ tx h1 hf.scr (by have := hf.sent; omega) hnow hf.tr (by have := hf.len; omega)).mono fun e w' ⟨he, hp, hk⟩ => ⟨he, Pair.stepP hF hG hd h2 hl hp hk⟩
theorem send_pR (w : World) (a b : Nat) (B : Nat → Prop) (s t : NS) (n : Nat) (now fr to_ : Int) (tx : List UInt8) (h : Pair w a b B s t) (hl : ∀ k, w.heap.size ≤ k → B k) (hf : t.Fine n) (hn : n ≤ 100000) (hnow : -1000000000 ≤ now ∧ now ≤ 1000000000) :
    Calls Try.prog 15 #[.pointer (some ⟨b, 0, none⟩), .int .i64 now, msgVal fr to_ tx] w (InPair a b B s (t.send now fr to_ tx) (.tuple #[]) w) := by
  obtain ⟨F, G, hF, hG, hd, h1, h2⟩ := h
  exact (rsend_any w b G t now fr to_ tx h2 hf.scr (by have := hf.sent; omega) hnow hf.tr (by have := hf.len; omega)).mono fun e w' ⟨he, hp, hk⟩ => ⟨he, Pair.stepR hF hG hd h1 hl hp hk⟩
theorem next_pP (w : World) (a b : Nat) (B : Nat → Prop) (s t : NS) (n : Nat) (h : Pair w a b B s t) (hl : ∀ k, w.heap.size ≤ k → B k) (hf : s.Fine n) (hn : n ≤ 100000) :
    Calls Try.prog 16 #[.pointer (some ⟨a, 0, none⟩)] w (InPair a b B s.next t (nextVal s.w) w) := by
  obtain ⟨F, G, hF, hG, hd, h1, h2⟩ := h
  exact (next_any w a F s h1 (by have := hf.len; omega)).mono fun e w' ⟨he, hp, hk⟩ => ⟨he, Pair.stepP hF hG hd h2 hl hp hk⟩
theorem next_pR (w : World) (a b : Nat) (B : Nat → Prop) (s t : NS) (n : Nat) (h : Pair w a b B s t) (hl : ∀ k, w.heap.size ≤ k → B k) (hf : t.Fine n) (hn : n ≤ 100000) :
    Calls Try.prog 17 #[.pointer (some ⟨b, 0, none⟩)] w (InPair a b B s t.next (nextVal t.w) w) := by
  obtain ⟨F, G, hF, hG, hd, h1, h2⟩ := h
  exact (rnext_any w b G t h2 (by have := hf.len; omega)).mono fun e w' ⟨he, hp, hk⟩ => ⟨he, Pair.stepR hF hG hd h1 hl hp hk⟩
theorem wait_pP (w : World) (a b : Nat) (B : Nat → Prop) (s t : NS) (h : Pair w a b B s t) :
    Calls Try.prog 18 #[.pointer (some ⟨a, 0, none⟩)] w fun e w' => e = .returned (.int .i64 (s.w.length : Int)) ∧ w = w' := by
  obtain ⟨F, G, hF, hG, hd, h1, h2⟩ := h
  exact waiting_any w a F s h1
theorem wait_pR (w : World) (a b : Nat) (B : Nat → Prop) (s t : NS) (h : Pair w a b B s t) :
    Calls Try.prog 19 #[.pointer (some ⟨b, 0, none⟩)] w fun e w' => e = .returned (.int .i64 (t.w.length : Int)) ∧ w = w' := by
  obtain ⟨F, G, hF, hG, hd, h1, h2⟩ := h
  exact rwaiting_any w b G t h2
theorem new_pair (w : World) (a L : Nat) (s : NS) (nodes : Int) (v : Value) (l : List Tr) (h1 : Net1 w a L s) (hl : L ≤ w.heap.size) (h : w.ownsRow 0 42 3 v l.length (trs l)) (hn : l.length ≤ 1048576) :
    Calls Try.prog 13 #[.int .i64 nodes, v] w fun e w' => ∃ b, e = .returned (.pointer (some ⟨b, 0, none⟩)) ∧ Pair w' a b (from_ L) s (newS nodes l) ∧ Keeps noBlock w w' := by
  obtain ⟨F, hF, h1⟩ := h1
  refine (rnew_any w nodes v l h hn).mono fun e w' ⟨b, he, hp, hk⟩ => ⟨b, he, ⟨F, _, fun k e => hF k e, fun k e => ?_, fun k e e2 => ?_, h1.still hk, hp⟩, hk⟩
  · rcases e with e | e
    · exact e.elim
    · exact Nat.le_trans hl e.1
  · have := h1.lt k e
    rcases e2 with e2 | e2
    · exact e2.elim
    · have := e2.1; omega
end Go.Proofs.Ythhimnihgkegiaa
