/-
  DigestJoined: the law's walk: it returns true, and writes nothing that was there. No condition.
-/
import Derived.Test.YteikldemppbjpaaGHelp
import Derived.Deep.RegionHeld3
namespace Go.Proofs.Yteikldemppbjpaa
open Go Go.RowKit
set_option linter.unusedVariables false

set_option maxHeartbeats 4000000 in
theorem joined_walk (s : ByteArray) (at_ : Int) (w : World) (ws : s.size ≤ maxLen) (hm : (Lit.int .i64 at_).wf = true) : Calls Try.prog 8 #[.string s, .int .i64 at_] w fun e w' => e = .returned (.bool true) ∧ Below w.heap.size w w' := by
  unfold maxLen at ws
  clear hm
  obtain ⟨l, rfl⟩ : ∃ l, s = str l := ⟨s.data.toList, (str_data s).symm⟩
  rw [size_str] at ws
  obtain ⟨K, hK⟩ : ∃ K : Nat, K = min l.length 300 := ⟨_, rfl⟩
  have hm : min (l.length : Int) 300 = (K : Int) := by omega
  have hsz : (str l).size = l.length := size_str l
  obtain ⟨x, hx⟩ : ∃ x, x = l.take K := ⟨_, rfl⟩
  have hex : (str l).extract 0 K = str x := by rw [hx, extract_str, List.drop_zero, Nat.sub_zero]
  have hxl : x.length ≤ 300 := by rw [hx, List.length_take]; omega
  obtain ⟨n, hn⟩ : ∃ n, n = l.length := ⟨_, rfl⟩
  rw [← hn] at hsz hm ws
  obtain ⟨m, hmx⟩ : ∃ m, m = x.length := ⟨_, rfl⟩
  have hszx : (str x).size = m := by rw [hmx]; exact size_str x
  obtain ⟨k, hk⟩ : ∃ k : Nat, at_ % ((m : Int) + 1) = (k : Int) := ⟨(at_ % ((m : Int) + 1)).toNat, by have := Int.emod_nonneg at_ (show (m : Int) + 1 ≠ 0 by omega); omega⟩
  have hkm : k ≤ m := by
    have := Int.emod_lt_of_pos at_ (show (0 : Int) < (m : Int) + 1 by omega)
    omega
  obtain ⟨p, hp⟩ : ∃ p, p = x.take k := ⟨_, rfl⟩
  obtain ⟨q, hq⟩ : ∃ q, q = x.drop k := ⟨_, rfl⟩
  have hpq : p ++ q = x := by rw [hp, hq]; exact List.take_append_drop k x
  have hpl : p.length ≤ 300 := by rw [hp, List.length_take]; omega
  have hql : q.length ≤ 300 := by rw [hq, List.length_drop]; omega
  have d1 := run_slice_str_to (P := Try.prog) 9 Try.underlying9 x .i64 k (by omega)
  have d2 := run_slice_str_from (P := Try.prog) 9 Try.underlying9 x .i64 k (by omega)
  rw [← hp] at d1; rw [← hq] at d2
  have hm300 : m ≤ 300 := by omega
  have HK := Lib.hid hk; have HPQ := Lib.hid hpq; have D1 := Lib.hid d1; have D2 := Lib.hid d2
  clear hx hK hn hk hmx hp hq hpq d1 d2
  go_enter Try.func8, Try.ntmps8
  go_wp2_with fail
  refine (sanity_any w).mono ?_
  rintro e w1 ⟨rfl, k1⟩
  have K1 := Lib.hid k1; clear k1
  go_wp2_with fail
  refine (mod_any at_ ((m : Int) + 1) w1 (by omega) (by omega)).mono ?_
  rintro e w' ⟨rfl, rfl⟩
  rw [HK.out]
  have d1 := D1.out; have d2 := D2.out
  have hk0 : (0 : Int) ≤ (k : Int) := by omega
  have hk1 : (k : Int) ≤ (m : Int) := by omega
  go_wp2_with fail
  apply wp_oneEnd
  · go_region
    all_goals exact ⟨rfl, rfl⟩
  obtain ⟨w5, hw5⟩ : ∃ w5, w5 = (w1.alloc (Obj.cells #[.string (str p), .string (str q)] 34)).drew := ⟨_, rfl⟩
  have h5 : w5.heap[w1.heap.size]? = some (.cells #[.string (str p), .string (str q)] 34 (0, 0)) := by rw [hw5]; exact heap_alloc_at
  have c0 : w5.cell? ⟨w1.heap.size, 0, none⟩ = some (.string (str p)) := by rw [cell_of_heap h5]; rfl
  have c1 : w5.cell? ⟨w1.heap.size, 1, none⟩ = some (.string (str q)) := by rw [cell_of_heap h5]; rfl
  have k5 : Keeps noBlock w1 w5 := by rw [hw5]; exact ((Keeps.refl _ _).alloc _).drew
  have K5 := Lib.hid k5
  have hsx : str p ++ str q = str x := by rw [str_append, HPQ.out]
  have hsp : (str p).size ≤ 300 := by rw [size_str]; exact hpl
  have hsq : (str q).size ≤ 300 := by rw [size_str]; exact hql
  have hno : ¬ 9223372036854775807 < (str p).size + (str q).size := by omega
  have heq := eq_hash (sha x) (sha x) (sha_length x) (sha_length x)
  have heq2 := eq_hash (sha q) (sha q) (sha_length q) (sha_length q)
  rw [beq_self_eq_true] at heq heq2
  obtain ⟨R, hR⟩ : ∃ R, R = (bvs (sha x)).toArray := ⟨_, rfl⟩
  obtain ⟨T, hT⟩ : ∃ R, R = (bvs (sha q)).toArray := ⟨_, rfl⟩
  rw [← hR] at heq; rw [← hT] at heq2
  have hs1 : ∀ W, Calls Try.prog 12 #[.string (str x)] W fun e w' => e = .returned (.agg R) ∧ Keeps noBlock W w' := fun W => by rw [hR]; exact sum_str x W (by omega)
  have hs2 : ∀ W, Calls Try.prog 13 #[.string (str x)] W fun e w' => e = .returned (.agg R) ∧ Keeps noBlock W w' := fun W => by rw [hR]; exact rsum_str x W (by omega)
  have hs3 : ∀ W, Calls Try.prog 12 #[.string (str q)] W fun e w' => e = .returned (.agg T) ∧ Keeps noBlock W w' := fun W => by rw [hT]; exact sum_str q W (by omega)
  have hs4 : ∀ W, Calls Try.prog 13 #[.string (str q)] W fun e w' => e = .returned (.agg T) ∧ Keeps noBlock W w' := fun W => by rw [hT]; exact rsum_str q W (by omega)
  have hs0 : ∀ W, Calls Try.prog 12 #[.string (str p ++ str q)] W fun e w' => e = .returned (.agg R) ∧ Keeps noBlock W w' := fun W => by rw [hsx]; exact hs1 W
  have HS0 := Lib.hid hs0; have HS1 := Lib.hid hs1; have HS2 := Lib.hid hs2; have HS3 := Lib.hid hs3; have HS4 := Lib.hid hs4
  clear hR hT hs0 hs1 hs2 hs3 hs4 k5 h5 d1 d2 hk0 hk1 hkm hex hm hsz
  rw [← hw5]
  clear hw5
  go_wp2_with fail
  go_region_held3 (fun w' => w'.cell? ⟨w1.heap.size, 0, none⟩ = some (.string (str p)) ∧ w'.cell? ⟨w1.heap.size, 1, none⟩ = some (.string (str q)) ∧ Keeps noBlock w5 w')
    (first
      | exact ⟨c0, c1, Keeps.refl _ _⟩
      | exact ⟨c0, c1, (Keeps.refl _ _).drew⟩
      | (go_split_ands; exact ⟨k2.cell (by assumption) (fun e => e), k2.cell (by assumption) (fun e => e), by first | exact Keeps.trans (by assumption) k2 | exact Keeps.trans (Keeps.drew (by assumption)) k2⟩)
      | (go_split_ands; exact ⟨by assumption, by assumption, Keeps.drew (by assumption)⟩))
    (first
      | (go_at_call_of 12 (str x); refine (HS1.out _).mono ?_; rintro e w2 ⟨rfl, k2⟩)
      | (go_at_call_of 12 (str p ++ str q); refine (HS0.out _).mono ?_; rintro e w2 ⟨rfl, k2⟩)
      | (go_at_call_of 12 (str q); refine (HS3.out _).mono ?_; rintro e w2 ⟨rfl, k2⟩)
      | (go_at_call_of 13 (str x); refine (HS2.out _).mono ?_; rintro e w2 ⟨rfl, k2⟩)
      | (go_at_call_of 13 (str q); refine (HS4.out _).mono ?_; rintro e w2 ⟨rfl, k2⟩))
  all_goals
    go_split_ands
    have kl := Lib.hid (Keeps.trans (K1.out.trans K5.out) (by assumption))
    clear c0 c1
    go_wp2_with fail
    go_ret
    exact ⟨rfl, keeps_below kl.out⟩
end Go.Proofs.Yteikldemppbjpaa
