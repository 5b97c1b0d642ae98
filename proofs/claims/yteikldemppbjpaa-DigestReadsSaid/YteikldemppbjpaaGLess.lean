/-
  The contracts of Less and of the reference's Less. No condition but on lengths.
-/
import Derived.Test.YteikldemppbjpaaGHash
import Derived.Deep.RegionHeld3
namespace Go.Proofs.Yteikldemppbjpaa
open Go Go.RowKit
set_option linter.unusedVariables false

/-- the order of two texts of bytes -/
def lessL : List UInt8 → List UInt8 → Bool
  | a :: l, b :: m => if a.toNat < b.toNat then true else if b.toNat < a.toNat then false else lessL l m
  | _, _ => false

theorem lessL_lt (a b : UInt8) (l m : List UInt8) (h : a.toNat < b.toNat) : lessL (a :: l) (b :: m) = true := by rw [lessL, if_pos h]
theorem lessL_gt (a b : UInt8) (l m : List UInt8) (h : b.toNat < a.toNat) : lessL (a :: l) (b :: m) = false := by rw [lessL, if_neg (by omega), if_pos h]
theorem lessL_eq (a b : UInt8) (l m : List UInt8) (h : a.toNat = b.toNat) : lessL (a :: l) (b :: m) = lessL l m := by rw [lessL, if_neg (by omega), if_neg (by omega)]
theorem drop_getD (l : List UInt8) (k : Nat) (h : k < l.length) : l.drop k = l.getD k 0 :: l.drop (k + 1) := by
  rw [List.drop_eq_getElem_cons h, List.getD_eq_getElem?_getD, List.getElem?_eq_getElem h]
  rfl
def RLessRel (w : World) (a b : List UInt8) (i : Value) (wr : World) : Prop :=
  ∃ k : Nat, i = .int .i64 (k : Int) ∧ k ≤ 32 ∧ lessL a b = lessL (a.drop k) (b.drop k) ∧ Keeps noBlock w wr
theorem hash_cell {w : World} {g : Nat} {l : List UInt8} {t : TypeId} (h : w.heap[g]? = some (.cells (bvs l).toArray t (0, 0))) (k : Nat) (hk : k < l.length) : w.cell? ⟨g, k, none⟩ = some (.int .u8 ((l.getD k 0).toNat : Int)) := by
  rw [cell_of_heap h, ← Array.getElem?_toList]
  simp only [bvs, List.getElem?_map]
  rw [List.getD_eq_getElem?_getD, List.getElem?_eq_getElem hk]
  rfl

set_option maxRecDepth 100000 in
set_option maxHeartbeats 1000000 in
theorem rless_any (a b : List UInt8) (w : World) (ha : a.length = 32) (hb : b.length = 32) : Calls Try.prog 21 #[.agg (bvs a).toArray, .agg (bvs b).toArray] w fun e w' => e = .returned (.bool (lessL a b)) ∧ Keeps noBlock w w' := by
  have h1 : ((w.alloc (.cells (bvs a).toArray 24)).alloc (.cells (bvs b).toArray 24)).heap[w.heap.size]? = some (.cells (bvs a).toArray 24 (0, 0)) := heap_alloc_at0
  have h2 : ((w.alloc (.cells (bvs a).toArray 24)).alloc (.cells (bvs b).toArray 24)).heap[w.heap.size + 1]? = some (.cells (bvs b).toArray 24 (0, 0)) := heap_alloc_at1
  obtain ⟨w2, hw2⟩ : ∃ w2, w2 = (w.alloc (.cells (bvs a).toArray 24)).alloc (.cells (bvs b).toArray 24) := ⟨_, rfl⟩
  rw [← hw2] at h1 h2
  have k2 : Keeps noBlock w w2 := by rw [hw2]; exact ((Keeps.refl _ _).alloc _).alloc _
  have HW2 := Lib.hid hw2; have H1 := Lib.hid h1; have H2 := Lib.hid h2; have K2 := Lib.hid k2; have HA := Lib.hid ha; have HB := Lib.hid hb
  clear hw2 h1 h2 k2 ha hb
  go_enter Try.func21, Try.ntmps21
  go_wp2_with fail
  rw [← HW2.out]
  go_loopw [5] (RLessRel w2 a b) (fun i _ => 32 - (intOf i).toNat)
  case atStart => exact ⟨0, rfl, by omega, rfl, Keeps.refl _ _⟩
  case round =>
    obtain ⟨k, rfl, hk, hl, hkr⟩ := hrel
    by_cases hlt : k < 32
    · have hca := hash_cell (hkr.heap H1.out (fun e => e)) k (by rw [HA.out]; exact hlt)
      have hcb := hash_cell (hkr.heap H2.out (fun e => e)) k (by rw [HB.out]; exact hlt)
      rw [drop_getD a k (by rw [HA.out]; exact hlt), drop_getD b k (by rw [HB.out]; exact hlt)] at hl
      obtain ⟨x, hx⟩ : ∃ x, x = a.getD k 0 := ⟨_, rfl⟩
      obtain ⟨y, hy⟩ : ∃ x, x = b.getD k 0 := ⟨_, rfl⟩
      rw [← hx] at hca hl
      rw [← hy] at hcb hl
      have hk0 : (0 : Int) ≤ (k : Int) := by omega
      have hk1 : (k : Int) < 32 := by omega
      have HKR := Lib.hid hkr
      clear hx hy hkr
      rcases Nat.lt_trichotomy x.toNat y.toNat with hc | hc | hc
      · rw [lessL_lt x y _ _ hc] at hl
        have c1 : ¬ x.toNat = y.toNat := by omega
        have HL := Lib.hid hl
        clear hl
        go_wp2_with fail
        apply wp_oneEnd
        · go_region
          all_goals exact ⟨rfl, rfl⟩
        go_wp2_with fail
        apply wp_oneEnd
        · go_region
          all_goals exact ⟨rfl, rfl⟩
        go_wp2_with fail
        go_ret
        exact ⟨by rw [HL.out]; rfl, (K2.out.trans HKR.out).drew.drew⟩
      · rw [lessL_eq x y _ _ hc] at hl
        have HL := Lib.hid hl
        clear hl
        go_wp2_with fail
        apply wp_oneEnd
        · go_region
          all_goals exact ⟨rfl, rfl⟩
        go_wp2_with fail
        go_roundw
        case rel => exact ⟨k + 1, by simp, hlt, HL.out, HKR.out.drew⟩
        case measure => simp [intOf]; omega
      · rw [lessL_gt x y _ _ hc] at hl
        have c1 : ¬ x.toNat = y.toNat := by omega
        have c2 : ¬ x.toNat < y.toNat := by omega
        have c3 : y.toNat ≤ x.toNat := by omega
        have HL := Lib.hid hl
        clear hl
        go_wp2_with fail
        apply wp_oneEnd
        · go_region
          all_goals exact ⟨rfl, rfl⟩
        go_wp2_with fail
        apply wp_oneEnd
        · go_region
          all_goals exact ⟨rfl, rfl⟩
        go_wp2_with fail
        go_ret
        exact ⟨by rw [HL.out]; rfl, (K2.out.trans HKR.out).drew.drew⟩
    · obtain rfl : k = 32 := by omega
      have HL := Lib.hid hl
      clear hl
      have hk1 : ¬ ((32 : Nat) : Int) < 32 := by omega
      go_wp2_with fail
      go_ret
      refine ⟨?_, K2.out.trans hkr⟩
      rw [HL.out, List.drop_eq_nil_of_le (by rw [HA.out]; exact Nat.le_refl _)]
      rfl
end Go.Proofs.Yteikldemppbjpaa
