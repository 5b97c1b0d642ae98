/-
  DigestSums: the law's walk: it returns true, and writes nothing that was there. No condition.
-/
import Derived.Test.YteikldemppbjpaaGEq
namespace Go.Proofs.Yteikldemppbjpaa
open Go Go.RowKit
set_option linter.unusedVariables false

set_option maxHeartbeats 1000000 in
theorem sums_walk (s : ByteArray) (w : World) (ws : s.size ≤ maxLen) : Calls Try.prog 3 #[.string s] w fun e w' => e = .returned (.bool true) ∧ Below w.heap.size w w' := by
  unfold maxLen at ws
  obtain ⟨l, rfl⟩ : ∃ l, s = str l := ⟨s.data.toList, (str_data s).symm⟩
  rw [size_str] at ws
  obtain ⟨K, hK⟩ : ∃ K : Nat, K = min l.length 500 := ⟨_, rfl⟩
  have hm : min (l.length : Int) 500 = (K : Int) := by omega
  have hsz : (str l).size = l.length := size_str l
  obtain ⟨x, hx⟩ : ∃ x, x = l.take K := ⟨_, rfl⟩
  have hex : (str l).extract 0 K = str x := by rw [hx, extract_str, List.drop_zero, Nat.sub_zero]
  have hxl : x.length ≤ 1099511627776 := by rw [hx, List.length_take]; omega
  obtain ⟨n, hn⟩ : ∃ n, n = l.length := ⟨_, rfl⟩
  rw [← hn] at hsz hm ws
  have HX := Lib.hid hx
  clear hx hK hn
  go_enter Try.func3, Try.ntmps3
  go_wp2_with fail
  refine (sanity_any w).mono ?_
  rintro e w1 ⟨rfl, k1⟩
  have K1 := Lib.hid k1; clear k1
  go_wp2_with fail
  refine (sum_str x w1 hxl).mono ?_
  rintro e w2 ⟨rfl, k2⟩
  have K2 := Lib.hid k2; clear k2
  go_wp2_with fail
  refine (rsum_str x w2 hxl).mono ?_
  rintro e w3 ⟨rfl, k3⟩
  have K3 := Lib.hid k3; clear k3
  have heq := eq_hash (sha x) (sha x) (sha_length x) (sha_length x)
  rw [beq_self_eq_true] at heq
  obtain ⟨R, hR⟩ : ∃ R, R = (bvs (sha x)).toArray := ⟨_, rfl⟩
  rw [← hR] at heq
  rw [← hR]
  clear hR
  go_wp2_with fail
  go_ret
  exact ⟨rfl, keeps_below ((K1.out.trans K2.out).trans K3.out)⟩
end Go.Proofs.Yteikldemppbjpaa
