/-
  How a net lies in memory; the contracts of queue, trouble, Clone, New and Waiting of the program's net. Conditions: bounds on lengths.
-/
import Derived.Test.YthhimnihgkegiaaNHeap2
namespace Go.Proofs.Ythhimnihgkegiaa
open Go Go.RowKit

set_option linter.unusedVariables false

theorem grow_lt {F : Nat → Prop} {w w' : World} (h : ∀ k, F k → k < w.heap.size) (hs : w.heap.size ≤ w'.heap.size) : ∀ k, grow F w w' k → k < w'.heap.size := by
  intro k hk
  rcases hk with hk | hk
  · have := h k hk; omega
  · exact hk.2
theorem owns_zero {w : World} {base e size n : Nat} {v : Value} {xs : List Value} (h : w.ownsRow base e size v n xs) : w.ownsRow 0 e size v n xs := by
  refine ⟨h.1, ?_⟩
  rcases h.2 with h | ⟨g, cap, cur, h0, _, r⟩
  · exact .inl h
  · exact .inr ⟨g, cap, cur, h0, Nat.zero_le _, r⟩

/-- elements of a script as cells -/
def trv (t : Tr) : List Value := [.bool t.lost, .int .i64 t.copies, .int .i64 t.delay]
def trs (l : List Tr) : List Value := l.flatMap trv
def trVal (t : Tr) : Value := .agg #[.bool t.lost, .int .i64 t.copies, .int .i64 t.delay]
theorem trs_append (a b : List Tr) : trs (a ++ b) = trs a ++ trs b := by simp [trs]
theorem length_trs (l : List Tr) : (trs l).length = l.length * 3 := by
  induction l with
  | nil => rfl
  | cons p l ih => simp [trs, trv] at ih ⊢; omega
theorem trs_get (l : List Tr) (k : Nat) (h : k < l.length) : (trs l)[k * 3]? = some (.bool l[k].lost) ∧ (trs l)[k * 3 + 1]? = some (.int .i64 l[k].copies) ∧ (trs l)[k * 3 + 2]? = some (.int .i64 l[k].delay) := by
  induction l generalizing k with
  | nil => simp at h
  | cons p l ih =>
    cases k with
    | zero => simp [trs, trv]
    | succ k =>
      have := ih k (by simpa using h)
      have e1 : (k + 1) * 3 = k * 3 + 3 := by omega
      rw [e1]
      simpa [trs, trv] using this
theorem oneCell_trs (l : List Tr) : ∀ v ∈ trs l, v.oneCell' = true := by
  intro v hv
  simp only [trs, List.mem_flatMap, trv] at hv
  obtain ⟨x, _, hv⟩ := hv
  simp only [List.mem_cons, List.not_mem_nil, or_false] at hv
  rcases hv with rfl | rfl | rfl <;> rfl
def TrAt (w : World) (g i : Nat) (t : Tr) : Prop :=
  w.cell? ⟨g, i * 3, none⟩ = some (.bool t.lost) ∧ w.cell? ⟨g, i * 3 + 1, none⟩ = some (.int .i64 t.copies) ∧ w.cell? ⟨g, i * 3 + 2, none⟩ = some (.int .i64 t.delay)
theorem owns_tr {w : World} {g n cap : Nat} {l : List Tr} (h : w.ownsRow 0 42 3 (.slice (some ⟨g, 0, none⟩) n cap) l.length (trs l)) (i : Nat) (hi : i < l.length) : TrAt w g i l[i] := by
  have hc := h.cells (g := g) rfl
  obtain ⟨x0, x1, x2⟩ := trs_get l i hi
  have e : ∀ j, (⟨g, 0, none⟩ : Addr).add j = ⟨g, j, none⟩ := fun j => by rw [addr_add, Nat.zero_add]
  exact ⟨by have := hc _ _ x0; rwa [e] at this, by have := hc _ _ x1; rwa [e] at this, by have := hc _ _ x2; rwa [e] at this⟩
theorem infoTr : (Try.prog.info? 42).map (fun i => (i.zero, i.size, i.bytes)) = some (some (.agg #[.bool false, .int .i64 0, .int .i64 0]), 3, 24) := by kernel_rfl

structure NetAt (w : World) (b : Nat) (F : Nat → Prop) (s : NS) (sv wv : Value) (H : List Pc) : Prop where
  head : w.heap[b]? = some (.cells #[.int .i64 s.nodes, sv, wv, .int .i64 (s.sent : Int)] 53 (0, 0))
  fb : F b
  scr : w.ownsRow 0 42 3 sv s.script.length (trs s.script)
  fscr : ∀ k, sv.ownBlock = some k → F k
  own : w.ownsRow 0 67 5 wv H.length (pcs H)
  fown : ∀ k, wv.ownBlock = some k → F k
  perm : H.Perm s.w
  heap : HeapTo H.length H
  ok : s.Ok
  lt : ∀ k, F k → k < w.heap.size
def NetP (w : World) (b : Nat) (F : Nat → Prop) (s : NS) : Prop := ∃ sv wv H, NetAt w b F s sv wv H
theorem NetAt.keep {w w' : World} {b : Nat} {F S : Nat → Prop} {s : NS} {sv wv : Value} {H : List Pc} (h : NetAt w b F s sv wv H) (hk : Keeps S w w') (hs : ∀ k, F k → ¬ S k) : NetAt w' b F s sv wv H where
  head := hk.heap h.head (hs _ h.fb)
  fb := h.fb
  scr := hk.owns h.scr fun k e => hs _ (h.fscr k e)
  fscr := h.fscr
  own := hk.owns h.own fun k e => hs _ (h.fown k e)
  fown := h.fown
  perm := h.perm
  heap := h.heap
  ok := h.ok
  lt := fun k hF => Nat.lt_of_lt_of_le (h.lt k hF) hk.size
theorem NetP.keep {w w' : World} {b : Nat} {F S : Nat → Prop} {s : NS} (h : NetP w b F s) (hk : Keeps S w w') (hs : ∀ k, F k → ¬ S k) : NetP w' b F s := by
  obtain ⟨sv, wv, H, h⟩ := h
  exact ⟨sv, wv, H, h.keep hk hs⟩
theorem NetP.still {w w' : World} {b : Nat} {F : Nat → Prop} {s : NS} (h : NetP w b F s) (hk : Keeps noBlock w w') : NetP w' b F s := h.keep hk fun _ _ e => e
theorem NetAt.widen {w : World} {b : Nat} {F G : Nat → Prop} {s : NS} {sv wv : Value} {H : List Pc} (h : NetAt w b F s sv wv H) (hg : ∀ k, F k → G k) (hl : ∀ k, G k → k < w.heap.size) : NetAt w b G s sv wv H :=
  { h with fb := hg _ h.fb, fscr := fun k e => hg _ (h.fscr k e), fown := fun k e => hg _ (h.fown k e), lt := hl }
theorem NetP.widen {w : World} {b : Nat} {F G : Nat → Prop} {s : NS} (h : NetP w b F s) (hg : ∀ k, F k → G k) (hl : ∀ k, G k → k < w.heap.size) : NetP w b G s := by
  obtain ⟨sv, wv, H, h⟩ := h
  exact ⟨sv, wv, H, { h with fb := hg _ h.fb, fscr := fun k e => hg _ (h.fscr k e), fown := fun k e => hg _ (h.fown k e), lt := hl }⟩
theorem NetP.lt {w : World} {b : Nat} {F : Nat → Prop} {s : NS} (h : NetP w b F s) : ∀ k, F k → k < w.heap.size := by
  obtain ⟨sv, wv, H, h⟩ := h; exact h.lt
theorem NetP.fb {w : World} {b : Nat} {F : Nat → Prop} {s : NS} (h : NetP w b F s) : F b := by
  obtain ⟨sv, wv, H, h⟩ := h; exact h.fb
theorem NetP.ok {w : World} {b : Nat} {F : Nat → Prop} {s : NS} (h : NetP w b F s) : s.Ok := by
  obtain ⟨sv, wv, H, h⟩ := h; exact h.ok
theorem NetAt.cells {w : World} {b : Nat} {F : Nat → Prop} {s : NS} {sv wv : Value} {H : List Pc} (h : NetAt w b F s sv wv H) :
    w.cell? ⟨b, 0, none⟩ = some (.int .i64 s.nodes) ∧ w.cell? ⟨b, 1, none⟩ = some sv ∧ w.cell? ⟨b, 2, none⟩ = some wv ∧ w.cell? ⟨b, 3, none⟩ = some (.int .i64 (s.sent : Int)) := by
  refine ⟨?_, ?_, ?_, ?_⟩ <;> rw [cell_of_heap h.head] <;> rfl
theorem NetAt.free {w : World} {b : Nat} {F : Nat → Prop} {s : NS} {sv wv : Value} {H : List Pc} (h : NetAt w b F s sv wv H) (i : Nat) : w.frozen? ⟨b, i, none⟩ = false := frozen_of_heap h.head i
theorem NetAt.pl {w : World} {b : Nat} {F : Nat → Prop} {s : NS} {sv wv : Value} {H : List Pc} (h : NetAt w b F s sv wv H) : PL w b 2 wv H :=
  ⟨h.cells.2.2.1, h.free 2, h.own, owns_ne_block h.own h.head (by decide)⟩

theorem queue_any (b : Nat) (w : World) :
    Calls Try.prog 23 #[.pointer (some ⟨b, 0, none⟩)] w fun e w' => e = .returned (.iface 75 (.pointer (some ⟨b, 2, none⟩))) ∧ w = w' := by
  go_enter Try.func23, Try.ntmps23
  go_wp2
  go_ret
  exact ⟨rfl, rfl⟩

theorem waiting_any (w : World) (b : Nat) (F : Nat → Prop) (s : NS) (h : NetP w b F s) :
    Calls Try.prog 18 #[.pointer (some ⟨b, 0, none⟩)] w fun e w' => e = .returned (.int .i64 (s.w.length : Int)) ∧ w = w' := by
  obtain ⟨sv, wv, H, h⟩ := h
  rw [← h.perm.length_eq]
  obtain ⟨o1, cap1, hvf, _⟩ := owns_form h.own
  subst hvf
  have hm := m_len _ _ _ h.cells.2.2.1
  clear h
  go_enter Try.func18, Try.ntmps18
  go_wp2_with fail
  refine (queue_any b w).mono ?_
  rintro e w' ⟨rfl, rfl⟩
  go_wp2_with fail
  refine (len_any _ _ _ _).mono ?_
  rintro e w' ⟨rfl, rfl⟩
  go_wp2_with fail
  go_ret
  exact ⟨rfl, rfl⟩
theorem waiting_nil (w : World) : Calls Try.prog 18 #[.pointer none] w fun e w' => e = .returned (.int .i64 0) ∧ w = w' := by
  go_enter Try.func18, Try.ntmps18
  go_wp2
  go_ret
  exact ⟨rfl, rfl⟩

def Fresh (w : World) (v : Value) (w' : World) : Prop := ∀ k, v.ownBlock = some k → w.heap.size ≤ k ∧ k < w'.heap.size
theorem clone_any (w : World) (v : Value) (l : List Tr) (h : w.ownsRow 0 42 3 v l.length (trs l)) (hn : l.length ≤ 1048576) :
    Calls Try.prog 20 #[v] w fun e w' => ∃ v', e = .returned v' ∧ w'.ownsRow 0 42 3 v' l.length (trs l) ∧ Fresh w v' w' ∧ Keeps noBlock w w' := by
  obtain ⟨i0, hi, hz0, hz1, hz2⟩ := info_parts infoTr
  have qT : ∀ (w : World) (a : Option Addr) (n c n' c' : Nat), (binOp .eql 22 (.slice a n c) (.slice none n' c')).run Try.prog w = .ok (.bool a.isNone) w := fun w a n c n' c' => Lib.run_eql_slice_nil w _ _ a n c n' c' Try.underlying22
  obtain ⟨o1, cap1, hvf, _, _, hform⟩ := owns_form h
  subst hvf
  have HO := Lib.hid h
  clear h
  cases o1 with
  | none =>
    clear hform
    go_enter Try.func20, Try.ntmps20
    go_wp2_with fail
    go_ret
    refine ⟨_, rfl, ?_, fun k e => (own_none.1 e).elim, Keeps.refl _ _⟩
    rcases HO.out.2 with ⟨h1, h2⟩ | ⟨g, cap, cur, h1, _⟩
    · have : l = [] := List.eq_nil_of_length_eq_zero h2
      subst this; exact World.ownsRow_nil _ _ _ _
    · cases h1
  | some a =>
    obtain ⟨g, cur, hg, hh, _⟩ := hform.resolve_left (by simp)
    simp only [Option.some.injEq] at hg
    subst hg
    clear hform
    have hgl := lt_of_heap hh
    have HM := Lib.hid (show (w.alloc (.cells #[] 42)).ownsRow w.heap.size 42 3 (.slice (some ⟨w.heap.size, 0, none⟩) 0 0) 0 [] from World.ownsRow_made w #[] 0 (Nat.le_refl _) (by simp [maxLen]) (by simp))
    have HC := Lib.hid (show ∀ j u, (trs l)[j]? = some u → (w.alloc (.cells #[] 42)).cell? ((⟨g, 0, none⟩ : Addr).add j) = some u from fun j u hu => by
      have := HO.out.cells (g := g) rfl j u hu
      rw [addr_add] at this ⊢
      rw [World.cell?_alloc_old _ _ _ (Nat.ne_of_lt hgl)]; exact this)
    clear hh
    go_enter Try.func20, Try.ntmps20
    go_wp2_with (at_builtin; refine wpList_append_own _ rfl _ _ 22 rfl w.heap.size 42 i0 _ 3 24 Try.underlying22 hi hz0 hz1 hz2 rfl (by decide) _ _ _ rfl HM.out ⟨g, 0, none⟩ l.length cap1 (trs l) rfl (length_trs l) HC.out (oneCell_trs l) (by simp only [maxLen]; omega) (by omega) (by simp) ?_; intro v' w1 hown1 hgrow1 _)
    obtain ⟨o2, cap2, hv2, _⟩ := owns_form hown1
    subst hv2
    have HO1 := Lib.hid hown1
    have HG1 := Lib.hid hgrow1
    clear hown1 hgrow1
    go_wp2_with fail
    go_ret
    refine ⟨_, rfl, by have := owns_zero HO1.out; simpa using this, fun k e => HO1.out.lt k e, ((Keeps.refl noBlock w).alloc _).grown HG1.out fun k e h => ?_⟩
    have := own_slice.1 e
    omega

def newS (nodes : Int) (l : List Tr) : NS := ⟨nodes, l, [], 0⟩
theorem newS_ok (nodes : Int) (l : List Tr) : (newS nodes l).Ok := ⟨List.Pairwise.nil, fun p h => by simp [newS] at h⟩
def NewPost (s : NS) (w : World) (e : Ending) (w' : World) : Prop := ∃ b, e = .returned (.pointer (some ⟨b, 0, none⟩)) ∧ NetP w' b (grow noBlock w w') s ∧ Keeps noBlock w w'
theorem new_any (w : World) (nodes : Int) (v : Value) (l : List Tr) (h : w.ownsRow 0 42 3 v l.length (trs l)) (hn : l.length ≤ 1048576) :
    Calls Try.prog 12 #[.int .i64 nodes, v] w (NewPost (newS nodes l) w) := by
  obtain ⟨o1, cap1, hvf, _⟩ := owns_form h
  subst hvf
  have HO := Lib.hid h
  clear h
  go_enter Try.func12, Try.ntmps12
  go_wp2_with fail
  refine (clone_any w _ l HO.out hn).mono ?_
  rintro e w1 ⟨v', rfl, h1, hf, k1⟩
  obtain ⟨o2, cap2, hv2, _⟩ := owns_form h1
  subst hv2
  have H1 := Lib.hid h1
  have HF := Lib.hid hf
  have HK := Lib.hid k1
  clear h1 hf k1
  go_wp2_with fail
  go_ret
  have hs := HK.out.size
  refine ⟨w1.heap.size, rfl, ⟨.slice o2 l.length cap2, .slice none 0 0, [], ?_⟩, HK.out.alloc _⟩
  exact {
    head := heap_alloc_at
    fb := .inr ⟨hs, by simp⟩
    scr := H1.out.alloc _
    fscr := fun k e => .inr ⟨(HF.out k e).1, by have := (HF.out k e).2; simp; omega⟩
    own := World.ownsRow_nil _ _ _ _
    fown := fun k e => (own_none.1 e).elim
    perm := List.Perm.refl _
    heap := fun c h0 hc => absurd hc (Nat.not_lt_zero c)
    ok := newS_ok nodes l
    lt := grow_lt (fun _ e => e.elim) (by simp; omega) }
end Go.Proofs.Ythhimnihgkegiaa
