/-
  The reference's net in memory; the contracts of its New and Waiting. Conditions: bounds on lengths.
-/
import Derived.Test.YthhimnihgkegiaaNNext
namespace Go.Proofs.Ythhimnihgkegiaa
open Go Go.RowKit
set_option linter.unusedVariables false

theorem infoCp : (Try.prog.info? 69).map (fun i => (i.zero, i.size, i.bytes)) = some (some (.agg #[.int .i64 0, .int .i64 0, .string ByteArray.empty, .int .i64 0, .int .i64 0]), 5, 48) := by kernel_rfl
theorem oneCell_pcs (l : List Pc) : ∀ v ∈ pcs l, v.oneCell' = true := by
  intro v hv
  simp only [pcs, List.mem_flatMap, pcv] at hv
  obtain ⟨x, _, hv⟩ := hv
  simp only [List.mem_cons, List.not_mem_nil, or_false] at hv
  rcases hv with rfl | rfl | rfl | rfl | rfl <;> rfl
structure RefAt (w : World) (b : Nat) (F : Nat → Prop) (s : NS) (sv lv : Value) (R : List Pc) : Prop where
  head : w.heap[b]? = some (.cells #[.int .i64 s.nodes, sv, lv, .int .i64 (s.sent : Int)] 60 (0, 0))
  fb : F b
  scr : w.ownsRow 0 42 3 sv s.script.length (trs s.script)
  fscr : ∀ k, sv.ownBlock = some k → F k
  own : w.ownsRow 0 69 5 lv R.length (pcs R)
  fown : ∀ k, lv.ownBlock = some k → F k
  perm : R.Perm s.w
  ok : s.Ok
  lt : ∀ k, F k → k < w.heap.size
def RefP (w : World) (b : Nat) (F : Nat → Prop) (s : NS) : Prop := ∃ sv lv R, RefAt w b F s sv lv R
theorem RefAt.keep {w w' : World} {b : Nat} {F S : Nat → Prop} {s : NS} {sv lv : Value} {R : List Pc} (h : RefAt w b F s sv lv R) (hk : Keeps S w w') (hs : ∀ k, F k → ¬ S k) : RefAt w' b F s sv lv R where
  head := hk.heap h.head (hs _ h.fb)
  fb := h.fb
  scr := hk.owns h.scr fun k e => hs _ (h.fscr k e)
  fscr := h.fscr
  own := hk.owns h.own fun k e => hs _ (h.fown k e)
  fown := h.fown
  perm := h.perm
  ok := h.ok
  lt := fun k hF => Nat.lt_of_lt_of_le (h.lt k hF) hk.size
theorem RefP.keep {w w' : World} {b : Nat} {F S : Nat → Prop} {s : NS} (h : RefP w b F s) (hk : Keeps S w w') (hs : ∀ k, F k → ¬ S k) : RefP w' b F s := by
  obtain ⟨sv, lv, R, h⟩ := h
  exact ⟨sv, lv, R, h.keep hk hs⟩
theorem RefAt.widen {w : World} {b : Nat} {F G : Nat → Prop} {s : NS} {sv lv : Value} {R : List Pc} (h : RefAt w b F s sv lv R) (hg : ∀ k, F k → G k) (hl : ∀ k, G k → k < w.heap.size) : RefAt w b G s sv lv R :=
  { h with fb := hg _ h.fb, fscr := fun k e => hg _ (h.fscr k e), fown := fun k e => hg _ (h.fown k e), lt := hl }
theorem RefP.widen {w : World} {b : Nat} {F G : Nat → Prop} {s : NS} (h : RefP w b F s) (hg : ∀ k, F k → G k) (hl : ∀ k, G k → k < w.heap.size) : RefP w b G s := by
  obtain ⟨sv, lv, R, h⟩ := h
  exact ⟨sv, lv, R, h.widen hg hl⟩
theorem RefP.lt {w : World} {b : Nat} {F : Nat → Prop} {s : NS} (h : RefP w b F s) : ∀ k, F k → k < w.heap.size := by
  obtain ⟨sv, lv, R, h⟩ := h; exact h.lt
theorem RefAt.cells {w : World} {b : Nat} {F : Nat → Prop} {s : NS} {sv lv : Value} {R : List Pc} (h : RefAt w b F s sv lv R) :
    w.cell? ⟨b, 0, none⟩ = some (.int .i64 s.nodes) ∧ w.cell? ⟨b, 1, none⟩ = some sv ∧ w.cell? ⟨b, 2, none⟩ = some lv ∧ w.cell? ⟨b, 3, none⟩ = some (.int .i64 (s.sent : Int)) := by
  refine ⟨?_, ?_, ?_, ?_⟩ <;> rw [cell_of_heap h.head] <;> rfl
theorem RefAt.free {w : World} {b : Nat} {F : Nat → Prop} {s : NS} {sv lv : Value} {R : List Pc} (h : RefAt w b F s sv lv R) (i : Nat) : w.frozen? ⟨b, i, none⟩ = false := frozen_of_heap h.head i

theorem rwaiting_any (w : World) (b : Nat) (F : Nat → Prop) (s : NS) (h : RefP w b F s) :
    Calls Try.prog 19 #[.pointer (some ⟨b, 0, none⟩)] w fun e w' => e = .returned (.int .i64 (s.w.length : Int)) ∧ w = w' := by
  obtain ⟨sv, lv, R, h⟩ := h
  rw [← h.perm.length_eq]
  obtain ⟨o1, cap1, hvf, _⟩ := owns_form h.own
  subst hvf
  obtain ⟨_, _, c2, _⟩ := h.cells
  clear h
  go_enter Try.func19, Try.ntmps19
  go_wp2_with fail
  go_ret
  exact ⟨rfl, rfl⟩

def RNewPost (s : NS) (w : World) (e : Ending) (w' : World) : Prop := ∃ b, e = .returned (.pointer (some ⟨b, 0, none⟩)) ∧ RefP w' b (grow noBlock w w') s ∧ Keeps noBlock w w'
theorem rnew_end {w w1 w2 : World} {nodes : Int} {l : List Tr} {v : Value} (k1 : Keeps noBlock w w1) (h1 : w1.ownsRow w.heap.size 42 3 v l.length (trs l))
    (h2 : w2 = w1.alloc (.cells #[.int .i64 nodes, v, .slice none 0 0, .int .i64 0] 60)) : RNewPost (newS nodes l) w (.returned (.pointer (some ⟨w1.heap.size, 0, none⟩))) w2 := by
  have hs := k1.size
  subst h2
  refine ⟨w1.heap.size, rfl, ⟨v, .slice none 0 0, [], ?_⟩, k1.alloc _⟩
  exact {
    head := heap_alloc_at
    fb := .inr ⟨hs, by simp⟩
    scr := (owns_zero h1).alloc _
    fscr := fun k e => .inr ⟨(h1.lt k e).1, by have := (h1.lt k e).2; simp; omega⟩
    own := World.ownsRow_nil _ _ _ _
    fown := fun k e => (own_none.1 e).elim
    perm := List.Perm.refl _
    ok := newS_ok nodes l
    lt := grow_lt (fun _ e => e.elim) (by simp; omega) }
theorem rnew_any (w : World) (nodes : Int) (v : Value) (l : List Tr) (h : w.ownsRow 0 42 3 v l.length (trs l)) (hn : l.length ≤ 1048576) :
    Calls Try.prog 13 #[.int .i64 nodes, v] w (RNewPost (newS nodes l) w) := by
  obtain ⟨i0, hi, hz0, hz1, hz2⟩ := info_parts infoTr
  obtain ⟨o1, cap1, hvf, _, _, hform⟩ := owns_form h
  subst hvf
  have HO := Lib.hid h
  have HM := Lib.hid (show (w.alloc (.cells #[] 42)).ownsRow w.heap.size 42 3 (.slice (some ⟨w.heap.size, 0, none⟩) 0 0) 0 [] from World.ownsRow_made w #[] 0 (Nat.le_refl _) (by simp [maxLen]) (by simp))
  clear h
  rcases hform with ⟨rfl, hn0, rfl⟩ | ⟨g, cur, hg, hh, _⟩
  · have hs0 : l = [] := List.eq_nil_of_length_eq_zero hn0
    subst hs0
    clear hn0
    go_enter Try.func13, Try.ntmps13
    go_wp2_with fail
    go_ret
    have h := rnew_end (w := w) (nodes := nodes) (l := []) ((Keeps.refl noBlock w).alloc (.cells #[] 42)) HM.out rfl
    simpa using h
  · subst hg
    have hgl := lt_of_heap hh
    have HC := Lib.hid (show ∀ j u, (trs l)[j]? = some u → (w.alloc (.cells #[] 42)).cell? ((⟨g, 0, none⟩ : Addr).add j) = some u from fun j u hu => by
      have := HO.out.cells (g := g) rfl j u hu
      rw [addr_add] at this ⊢
      rw [World.cell?_alloc_old _ _ _ (Nat.ne_of_lt hgl)]; exact this)
    clear hh
    go_enter Try.func13, Try.ntmps13
    go_wp2_with (at_builtin; refine wpList_append_own _ rfl _ _ 22 rfl w.heap.size 42 i0 _ 3 24 Try.underlying22 hi hz0 hz1 hz2 rfl (by decide) _ _ _ rfl HM.out ⟨g, 0, none⟩ l.length cap1 (trs l) rfl (length_trs l) HC.out (oneCell_trs l) (by simp only [maxLen]; omega) (by omega) (by simp) ?_; intro v' w1 hown1 hgrow1 _; obtain ⟨o2, cap2, hv2, _⟩ := owns_form hown1; subst hv2; have HO1 := Lib.hid hown1; have HG1 := Lib.hid hgrow1; clear hown1 hgrow1)
    go_ret
    refine rnew_end (w1 := w1) (((Keeps.refl noBlock w).alloc _).grown HG1.out fun k e h => ?_) (by have := HO1.out; simpa using this) rfl
    have := own_slice.1 e
    omega
end Go.Proofs.Ythhimnihgkegiaa
