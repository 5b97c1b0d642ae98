/-
  The contract of the law's script: the first twelve troubles, their delays cut. No condition.
-/
import Derived.Test.YthhimnihgkegiaaNArgs
namespace Go.Proofs.Ythhimnihgkegiaa
open Go Go.RowKit Go.ChangeShapes Go.WideShapes Go.ChangeAt
set_option linter.unusedVariables false

def cutTr (t : Tr) : Tr := ⟨t.lost, t.copies, t.delay.tmod 100000⟩
def scriptL (l : List Tr) : List Tr := (l.take 12).map cutTr
theorem length_scriptL (l : List Tr) : (scriptL l).length ≤ 12 := by simp [scriptL]; omega
theorem scriptL_del (l : List Tr) : ∀ t ∈ scriptL l, t.delay ≤ 1000000000 := by
  intro t ht
  simp only [scriptL, List.mem_map] at ht
  obtain ⟨x, _, rfl⟩ := ht
  have := Int.tmod_lt_of_pos x.delay (show (0 : Int) < 100000 by decide)
  show x.delay.tmod 100000 ≤ _
  omega
theorem script_fine (nodes : Int) (l : List Tr) : (newS nodes (scriptL l)).Fine 0 := NS.Fine.new _ _ (by have := length_scriptL l; omega) (scriptL_del l)

/-- the slice in the loop of script -/
def ScRel (w : World) (l : List Tr) (out i : Value) (wr : World) : Prop :=
  ∃ k : Nat, i = .int .i64 (k : Int) ∧ k ≤ l.length ∧ k ≤ 12 ∧ wr.ownsRow w.heap.size 42 3 out k (trs ((l.take k).map cutTr)) ∧ Keeps noBlock w wr
def ScPost (w : World) (l : List Tr) (e : Ending) (w' : World) : Prop :=
  ∃ v, e = .returned v ∧ w'.ownsRow w.heap.size 42 3 v (scriptL l).length (trs (scriptL l)) ∧ Keeps noBlock w w'
theorem sc_end {w wr : World} {l : List Tr} {v : Value} {k : Nat} (hk : k ≤ l.length) (h12 : k ≤ 12) (hend : ¬ (k < l.length ∧ k < 12)) (h : wr.ownsRow w.heap.size 42 3 v k (trs ((l.take k).map cutTr))) (hk2 : Keeps noBlock w wr) : ScPost w l (.returned v) wr := by
  refine ⟨v, rfl, ?_, hk2⟩
  have e : l.take 12 = l.take k := by
    by_cases h1 : k < l.length
    · have : k = 12 := by omega
      rw [this]
    · rw [List.take_of_length_le (by omega), List.take_of_length_le (by omega)]
  have e2 : (scriptL l).length = k := by rw [scriptL, e]; simp; omega
  rw [e2, scriptL, e]; exact h

set_option maxHeartbeats 1000000 in
theorem script_any (w : World) (v : Value) (l : List Tr) (h : Trs w v l) : Calls Try.prog 11 #[v] w (ScPost w l) := by
  obtain ⟨i0, hi, hz0, hz1, hz2⟩ := info_parts infoTr
  obtain ⟨o, cap, rfl, hlc, hcm, hcells, hfit⟩ := h
  have HC := Lib.hid hcells
  have HFT := Lib.hid hfit
  clear hcells hfit
  go_enter Try.func11, Try.ntmps11
  go_wp2_with fail
  go_loopw [3, 4] (ScRel w l) (fun _ i _ => l.length - (intOf i).toNat)
  case atStart => exact ⟨0, rfl, Nat.zero_le _, by omega, World.ownsRow_nil _ _ _ _, Keeps.refl _ _⟩
  case round =>
    obtain ⟨k, rfl, hkl, hk12, hown, hkr⟩ := hrel
    obtain ⟨o2, cap2, hvf, _⟩ := owns_form hown
    subst hvf
    have HO := Lib.hid hown
    have HK := Lib.hid hkr
    have zr := hkr.size
    clear hown hkr
    by_cases hlt : k < l.length ∧ k < 12
    · obtain ⟨hlt, hlt12⟩ := hlt
      obtain ⟨b, off, rfl, hb, hc⟩ := HC.out (by omega)
      have hc := hc k hlt
      obtain ⟨t, ht⟩ : ∃ t, t = l[k] := ⟨_, rfl⟩
      rw [← ht] at hc
      have c0 : wr.cell? ⟨b, off + k * 3, none⟩ = some (.bool t.lost) := HK.out.cell (hc 0 _ rfl) (fun e => e)
      have c1 : wr.cell? ⟨b, off + k * 3 + 1, none⟩ = some (.int .i64 t.copies) := HK.out.cell (hc 1 _ rfl) (fun e => e)
      have c2 : wr.cell? ⟨b, off + k * 3 + 2, none⟩ = some (.int .i64 t.delay) := HK.out.cell (hc 2 _ rfl) (fun e => e)
      have hi0 : (0 : Int) ≤ (k : Int) := by omega
      have hi1 : (k : Int) < (l.length : Int) := by omega
      have hi2 : (k : Int) < 12 := by omega
      have hd0 := Int.lt_tmod_of_pos t.delay (show (0 : Int) < 100000 by decide)
      have hd1 := Int.tmod_lt_of_pos t.delay (show (0 : Int) < 100000 by decide)
      have hbl : b < wr.heap.size := by omega
      have HT := Lib.hid ht
      have HN := Lib.hid (show ∀ (X : Obj), (∀ j u, (trv (cutTr t))[j]? = some u → X = .cells (trv (cutTr t)).toArray 42 → ((wr.alloc X).alloc X).cell? ((⟨wr.heap.size + 1, 0, none⟩ : Addr).add j) = some u) from fun X j u hu hX => by
        have hh : ((wr.alloc X).alloc X).heap[wr.heap.size + 1]? = some X := by have := heap_alloc_new (wr.alloc X) X; simpa using this
        rw [hX] at hh ⊢
        exact World.news_of_block hh j u hu)
      clear ht hc
      go_wp2_with (at_builtin; refine wpList_append_own _ rfl _ _ 22 rfl w.heap.size 42 i0 _ 3 24 Try.underlying22 hi hz0 hz1 hz2 rfl (by decide) (.slice o2 k cap2) k _ rfl ((HO.out.alloc _).alloc _) ⟨wr.heap.size + 1, 0, none⟩ 1 1 (trv (cutTr t)) rfl rfl (fun j u hu => HN.out _ j u hu rfl) (by simp [trv, Value.oneCell']) (by simp only [maxLen]; omega) (by omega) (by simp; omega) ?_; intro v2 w2 hown2 hgrow2 _; obtain ⟨o3, cap3, hv3, _⟩ := owns_form hown2; subst hv3; have HO2 := Lib.hid hown2; have HG2 := Lib.hid hgrow2; clear hown2 hgrow2)
      go_roundw
      case rel =>
        refine ⟨k + 1, by simp, by omega, by omega, ?_, ((HK.out.alloc _).alloc _).grown HG2.out fun j e hj => ?_⟩
        · have h := HO2.out
          rw [List.take_succ_eq_append_getElem hlt, List.map_append, trs_append, ← HT.out]
          simpa [trs] using h
        · have := (HO.out.lt j e).1; omega
      case measure => simp [intOf]; omega
    · have hend : ¬ (k : Int) < l.length ∨ ¬ (k : Int) < 12 := by omega
      have HE := Lib.hid hlt
      clear hlt
      by_cases hkl2 : (k : Int) < l.length
      · have hk2 : ¬ (k : Int) < 12 := hend.resolve_left (fun h => h hkl2)
        clear hend
        go_wp2_with fail
        go_ret
        exact sc_end hkl hk12 HE.out HO.out HK.out
      · clear hend
        go_wp2_with fail
        go_ret
        exact sc_end hkl hk12 HE.out HO.out HK.out
end Go.Proofs.Ythhimnihgkegiaa
