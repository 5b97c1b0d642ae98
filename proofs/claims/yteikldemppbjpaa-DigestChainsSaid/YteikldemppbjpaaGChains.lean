/-
  DigestChains: the law's walk: it returns true, and writes nothing that was there. No condition.
-/
import Derived.Test.YteikldemppbjpaaGHelp
namespace Go.Proofs.Yteikldemppbjpaa
open Go Go.RowKit
set_option linter.unusedVariables false

/-- the k-th text of the chain -/
def chainL (x : List UInt8) : Nat → List UInt8
  | 0 => x
  | k + 1 => textL (sha (chainL x k))
theorem chainL_length (x : List UInt8) (h : x.length ≤ 100) : ∀ k, (chainL x k).length ≤ 100
  | 0 => h
  | k + 1 => by rw [chainL, textL_length, sha_length]; omega
def ChainRel (w : World) (x : List UInt8) (n : Nat) (a b i : Value) (wr : World) : Prop :=
  ∃ k : Nat, i = .int .i64 (k : Int) ∧ k ≤ n ∧ a = .string (str (chainL x k)) ∧ b = .string (str (chainL x k)) ∧ Keeps noBlock w wr

set_option maxHeartbeats 1000000 in
theorem chains_walk (s : ByteArray) (many : Int) (w : World) (ws : s.size ≤ maxLen) (hm : (Lit.int .i64 many).wf = true) : Calls Try.prog 5 #[.string s, .int .i64 many] w fun e w' => e = .returned (.bool true) ∧ Below w.heap.size w w' := by
  unfold maxLen at ws
  clear hm
  obtain ⟨l, rfl⟩ : ∃ l, s = str l := ⟨s.data.toList, (str_data s).symm⟩
  rw [size_str] at ws
  obtain ⟨K, hK⟩ : ∃ K : Nat, K = min l.length 100 := ⟨_, rfl⟩
  have hm : min (l.length : Int) 100 = (K : Int) := by omega
  have hsz : (str l).size = l.length := size_str l
  obtain ⟨x, hx⟩ : ∃ x, x = l.take K := ⟨_, rfl⟩
  have hex : (str l).extract 0 K = str x := by rw [hx, extract_str, List.drop_zero, Nat.sub_zero]
  have hxl : x.length ≤ 100 := by rw [hx, List.length_take]; omega
  obtain ⟨n, hn⟩ : ∃ n, n = l.length := ⟨_, rfl⟩
  rw [← hn] at hsz hm ws
  obtain ⟨N, hN⟩ : ∃ N : Nat, many % 20 = (N : Int) := ⟨(many % 20).toNat, by omega⟩
  have hN20 : N < 20 := by omega
  have HN := Lib.hid hN
  clear hx hK hn hN
  go_enter Try.func5, Try.ntmps5
  go_wp2_with fail
  refine (sanity_any w).mono ?_
  rintro e w1 ⟨rfl, k1⟩
  have K1 := Lib.hid k1; clear k1
  go_wp2_with fail
  go_loopw [6, 7, 8] (ChainRel w1 x N) (fun _ _ i _ => N - (intOf i).toNat)
  case atStart => exact ⟨0, rfl, by omega, rfl, rfl, Keeps.refl _ _⟩
  case round =>
    obtain ⟨k, rfl, hk, rfl, rfl, hkr⟩ := hrel
    have hcl := chainL_length x hxl k
    obtain ⟨c, hc⟩ : ∃ c, c = chainL x k := ⟨_, rfl⟩
    rw [← hc]
    rw [← hc] at hcl
    have HC := Lib.hid hc; have HKR := Lib.hid hkr
    clear hc hkr
    have hk0 : (0 : Int) ≤ (k : Int) := by omega
    by_cases hlt : k < N
    · have hk1 : (k : Int) < (N : Int) := by omega
      go_wp2_with fail
      refine (mod_any many 20 _ (by decide) (by decide)).mono ?_
      rintro e w' ⟨rfl, rfl⟩
      rw [HN.out]
      go_wp2_with fail
      refine (sum_str c wr (by omega)).mono ?_
      rintro e w2 ⟨rfl, k2⟩
      have K2 := Lib.hid k2; clear k2
      go_wp2_with fail
      refine (text_any (sha c) w2 (sha_length c)).mono ?_
      rintro e w3 ⟨rfl, k3⟩
      have K3 := Lib.hid k3; clear k3
      go_wp2_with fail
      refine (rsum_str c w3 (by omega)).mono ?_
      rintro e w4 ⟨rfl, k4⟩
      have K4 := Lib.hid k4; clear k4
      go_wp2_with fail
      refine (rtext_any (sha c) w4 (sha_length c)).mono ?_
      rintro e w5 ⟨rfl, k5⟩
      have K5 := Lib.hid k5; clear k5
      go_wp2_with fail
      go_roundw
      case rel => exact ⟨k + 1, by simp, hlt, by rw [HC.out]; rfl, by rw [HC.out]; rfl, (((HKR.out.trans K2.out).trans K3.out).trans K4.out).trans K5.out⟩
      case measure => simp [intOf]; omega
    · have hk1 : ¬ (k : Int) < (N : Int) := by omega
      go_wp2_with fail
      refine (mod_any many 20 _ (by decide) (by decide)).mono ?_
      rintro e w' ⟨rfl, rfl⟩
      rw [HN.out]
      go_wp2_with fail
      go_ret
      exact ⟨rfl, keeps_below (K1.out.trans HKR.out)⟩
end Go.Proofs.Yteikldemppbjpaa
