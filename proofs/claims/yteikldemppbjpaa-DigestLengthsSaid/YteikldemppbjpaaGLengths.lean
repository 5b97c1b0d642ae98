/-
  DigestLengths: the law's walk: it returns true, and writes nothing that was there. No condition.
-/
import Derived.Test.YteikldemppbjpaaGHelp
namespace Go.Proofs.Yteikldemppbjpaa
open Go Go.RowKit
set_option linter.unusedVariables false

set_option maxHeartbeats 1000000 in
theorem lengths_walk (c n far : Int) (w : World) (hc : (Lit.int .u8 c).wf = true) (hn : (Lit.int .i64 n).wf = true) (hf : (Lit.int .i64 far).wf = true) :
    Calls Try.prog 4 #[.int .u8 c, .int .i64 n, .int .i64 far] w fun e w' => e = .returned (.bool true) ∧ Below w.heap.size w w' := by
  obtain ⟨b, rfl⟩ : ∃ b : UInt8, c = (b.toNat : Int) := by
    have h : 0 ≤ c ∧ c ≤ 255 := by simpa [Lit.wf, IntKind.min, IntKind.max, IntKind.signed, IntKind.bits] using hc
    exact ⟨UInt8.ofNat c.toNat, by rw [UInt8.toNat_ofNat']; omega⟩
  clear hc hn hf
  obtain ⟨i, hi⟩ : ∃ i : Nat, n % 300 = (i : Int) := ⟨(n % 300).toNat, by omega⟩
  obtain ⟨j, hj⟩ : ∃ j : Nat, n % 4 = (j : Int) := ⟨(n % 4).toNat, by omega⟩
  obtain ⟨k, hk⟩ : ∃ k : Nat, far % 20 = (k : Int) := ⟨(far % 20).toNat, by omega⟩
  have hi3 : i < 300 := by omega
  have hj4 : j < 4 := by omega
  have hk2 : k < 20 := by omega
  obtain ⟨m, hm⟩ : ∃ m : Nat, m = 64 * j + 50 + k := ⟨_, rfl⟩
  have hm1 : m < 400 := by omega
  have hmm : 64 * (j : Int) + 50 + (k : Int) = (m : Int) := by omega
  have hj0 : (0 : Int) ≤ (j : Int) ∧ (j : Int) < 4 := by omega
  have hk0 : (0 : Int) ≤ (k : Int) ∧ (k : Int) < 20 := by omega
  have HI := Lib.hid hi; have HJ := Lib.hid hj; have HK := Lib.hid hk
  clear hi hj hk hm
  go_enter Try.func4, Try.ntmps4
  go_wp2_with fail
  refine (sanity_any w).mono ?_
  rintro e w1 ⟨rfl, k1⟩
  have K1 := Lib.hid k1; clear k1
  go_wp2_with fail
  refine (mod_any n 300 w1 (by decide) (by decide)).mono ?_
  rintro e w' ⟨rfl, rfl⟩
  rw [HI.out]
  go_wp2_with fail
  refine (repeated_any b i w1 (by omega)).mono ?_
  rintro e w2 ⟨rfl, k2⟩
  have K2 := Lib.hid k2; clear k2
  go_wp2_with fail
  refine (mod_any n 4 w2 (by decide) (by decide)).mono ?_
  rintro e w' ⟨rfl, rfl⟩
  rw [HJ.out]
  go_wp2_with fail
  refine (mod_any far 20 w2 (by decide) (by decide)).mono ?_
  rintro e w' ⟨rfl, rfl⟩
  rw [HK.out]
  go_wp2_with fail
  refine (repeated_any b m w2 (by omega)).mono ?_
  rintro e w3 ⟨rfl, k3⟩
  have K3 := Lib.hid k3; clear k3
  obtain ⟨x, hx⟩ : ∃ x, x = repL b i := ⟨_, rfl⟩
  obtain ⟨y, hy⟩ : ∃ y, y = repL b m := ⟨_, rfl⟩
  have hxl : x.length ≤ 1099511627776 := by rw [hx, repL_length]; omega
  have hyl : y.length ≤ 1099511627776 := by rw [hy, repL_length]; omega
  rw [← hx, ← hy]
  clear hx hy
  have heq := eq_hash (sha x) (sha x) (sha_length x) (sha_length x)
  have heq2 := eq_hash (sha y) (sha y) (sha_length y) (sha_length y)
  rw [beq_self_eq_true] at heq heq2
  obtain ⟨R, hR⟩ : ∃ R, R = (bvs (sha x)).toArray := ⟨_, rfl⟩
  obtain ⟨T, hT⟩ : ∃ R, R = (bvs (sha y)).toArray := ⟨_, rfl⟩
  rw [← hR] at heq; rw [← hT] at heq2
  have hs1 : ∀ W, Calls Try.prog 12 #[.string (str x)] W fun e w' => e = .returned (.agg R) ∧ Keeps noBlock W w' := fun W => by rw [hR]; exact sum_str x W hxl
  have hs2 : ∀ W, Calls Try.prog 13 #[.string (str x)] W fun e w' => e = .returned (.agg R) ∧ Keeps noBlock W w' := fun W => by rw [hR]; exact rsum_str x W hxl
  have hs3 : ∀ W, Calls Try.prog 12 #[.string (str y)] W fun e w' => e = .returned (.agg T) ∧ Keeps noBlock W w' := fun W => by rw [hT]; exact sum_str y W hyl
  have hs4 : ∀ W, Calls Try.prog 13 #[.string (str y)] W fun e w' => e = .returned (.agg T) ∧ Keeps noBlock W w' := fun W => by rw [hT]; exact rsum_str y W hyl
  have HS1 := Lib.hid hs1; have HS2 := Lib.hid hs2; have HS3 := Lib.hid hs3; have HS4 := Lib.hid hs4
  clear hR hT hs1 hs2 hs3 hs4 hmm hj0 hk0
  go_wp2_with fail
  refine (HS1.out _).mono ?_
  rintro e w4 ⟨rfl, k4⟩
  have K4 := Lib.hid k4; clear k4
  go_wp2_with fail
  refine (HS2.out _).mono ?_
  rintro e w5 ⟨rfl, k5⟩
  have K5 := Lib.hid k5; clear k5
  go_wp2_with fail
  refine (HS3.out _).mono ?_
  rintro e w6 ⟨rfl, k6⟩
  have K6 := Lib.hid k6; clear k6
  go_wp2_with fail
  refine (HS4.out _).mono ?_
  rintro e w7 ⟨rfl, k7⟩
  have K7 := Lib.hid k7; clear k7
  go_wp2_with fail
  go_ret
  exact ⟨rfl, keeps_below ((((((K1.out.trans K2.out).trans K3.out).trans K4.out).trans K5.out).trans K6.out).trans K7.out)⟩
end Go.Proofs.Yteikldemppbjpaa
