/-
  DiskOwn: the law's walk: it returns true, and writes nothing that was there. No condition.
-/
import Derived.Test.YtmigbpfeobjhkaaDPlays
import Derived.Test.YtmigbpfeobjhkaaDLaws2
namespace Go.Proofs.Ytmigbpfeobjhkaa
open Go Go.RowKit Go.ChangeShapes Go.WideShapes Go.ChangeAt
attribute [local go_sem ↓] Go.wp_at_zero Go.wp_at_succ
set_option linter.unusedVariables false

set_option maxHeartbeats 1000000 in
theorem own_walk (s0 : ByteArray) (l1 : List Int) (v1 : Value) (q0 q1 : Int) (w : World) (hs0 : s0.size ≤ maxLen) (hl1 : Ints w v1 l1) (hq0 : inI64 q0) (hq1 : inI64 q1) :
    Calls Try.prog 8 #[.string s0, v1, .agg #[.int .i64 q0, .int .i64 q1]] w fun e w' => e = .returned (.bool true) ∧ Below w.heap.size w w' := by
  obtain ⟨t0, rfl⟩ : ∃ t, s0 = str t := ⟨_, (str_data s0).symm⟩
  have hsz := size_str t0
  rw [size_str] at hs0
  have hs0 : t0.length ≤ 9223372036854775807 := hs0
  have HQ1 := Lib.hid hl1
  clear hl1
  go_enter Try.func8, Try.ntmps8
  go_wp2_with fail
  obtain ⟨w0, hw0⟩ : ∃ w0, w0 = w.alloc (.cells #[.int .i64 q0, .int .i64 q1] 42) := ⟨_, rfl⟩
  obtain ⟨hp, k0, z0⟩ := box_two w w0 q0 q1 _ hw0
  rw [← hw0]
  have HP := Lib.hid hp
  have K0 := Lib.hid k0
  clear hp k0 hw0
  refine (sanity_any w0).mono ?_
  rintro e w1 ⟨rfl, k1⟩
  have K1 := Lib.hid k1; have z1 := k1.size; clear k1
  go_wp2_with fail
  refine (new_in w1).mono ?_
  rintro e w2 ⟨rfl, d2, k2⟩
  have K2 := Lib.hid k2; have D2 := Lib.hid d2; have z2 := k2.size; clear k2 d2
  obtain ⟨a, hal, he1, he2⟩ : ∃ a : List UInt8, a.length ≤ 153 ∧ (150 < t0.length → (str t0).extract 0 150 ++ ⟨#[101, 110, 100]⟩ = str a) ∧ (¬ 150 < t0.length → (str t0).extract 0 t0.length ++ ⟨#[101, 110, 100]⟩ = str a) := by
    refine ⟨t0.take 150 ++ [101, 110, 100], by simp; omega, fun h => ?_, fun h => ?_⟩
    · rw [extract_str]; exact str_append _ [101, 110, 100]
    · rw [extract_str, List.take_of_length_le (show t0.length ≤ 150 by omega)]
      have : List.take (t0.length - 0) (List.drop 0 t0) = t0 := by simp
      rw [this]; exact str_append _ [101, 110, 100]
  have HE1 := Lib.hid he1
  have HE2 := Lib.hid he2
  have hf0 := DS.Fine.zero
  have a1 := writeR_ok DS.zero 0 a rfl (fits_of _ _ (by decide) (by omega))
  have a2 := syncR_ok (DS.zero.write 0 a) a1.2.1
  have a3 := writeR_ok (DS.zero.write 0 a).sync (q0 % 100) [110, 101, 119] a2.2.1 (fits_of _ _ (by omega) (by simp; omega))
  have f1 : (DS.zero.write 0 a).Fine 1000 := (hf0.write 0 a).mono (by omega)
  have f2 := f1.sync
  have f3 := f2.write (q0 % 100) [110, 101, 119]
  have fc := f3.crash l1
  have a4 := writeR_ok (((DS.zero.write 0 a).sync.write (q0 % 100) [110, 101, 119]).crash l1) (q1 % 100) [99, 114, 97, 115, 104] rfl (fits_of _ _ (by omega) (by simp; omega))
  have fc4 := fc.write (q1 % 100) [99, 114, 97, 115, 104]
  have a5 := writeR_ok ((DS.zero.write 0 a).sync.write (q0 % 100) [110, 101, 119]) 0 [99, 104, 97, 110, 103, 101, 100, 32, 97, 103, 97, 105, 110] a3.2.1 (by decide)
  have A1 := Lib.hid a1; have A2 := Lib.hid a2; have A3 := Lib.hid a3; have A4 := Lib.hid a4; have A5 := Lib.hid a5
  have A6 := Lib.hid (show (((((DS.zero.write 0 a).sync.write (q0 % 100) [110, 101, 119]).crash l1).write (q1 % 100) [99, 114, 97, 115, 104]).calls : Int) = 1 by rw [a4.2.2.1]; rfl)
  have F1 := Lib.hid f1; have F2 := Lib.hid f2; have F3 := Lib.hid f3; have FC := Lib.hid fc
  have F3n := Lib.hid f3.now; have FC4n := Lib.hid fc4.now
  clear he1 he2 a1 a2 a3 a4 a5 f1 f2 f3 fc fc4 hf0
  by_cases h150 : 150 < t0.length
  · go_wp2_with fail
    rw [HE1.out h150]
    refine (write_far w2 w1.heap.size w1.heap.size _ DS.zero 0 0 a D2.out DS.Fine.zero (by decide) (by decide) (by omega) z2).mono ?_
    rintro e w3 ⟨rfl, d3, k3⟩
    rw [A1.out.1]
    have z3 := k3.size
    have D3 := Lib.hid d3; have K3 := Lib.hid k3; clear d3 k3
    go_wp2_with fail
    refine (sync_in w3 w1.heap.size _ _ _ _ D3.out F1.out (by decide) (Nat.le_trans z2 z3)).mono ?_
    rintro e w4 ⟨rfl, d4, k4⟩
    rw [A2.out.1]
    have z4 := k4.size
    have D4 := Lib.hid d4; have K4 := Lib.hid k4
    obtain ⟨p0, p1⟩ := HP.out w4 ((((K1.out.any _).trans ((K2.out.lower z1))).trans (K3.out.up z1)).trans (k4.lower z1))
    clear d4 k4
    go_wp2_with fail
    refine (mod_any q0 100 w4 (by decide) (by decide)).mono ?_
    rintro e w' ⟨rfl, rfl⟩
    go_wp2_with fail
    refine (write_far w4 w1.heap.size w1.heap.size _ _ _ (q0 % 100) [110, 101, 119] D4.out F2.out (by decide) (by omega) (by decide) (Nat.le_trans (Nat.le_trans z2 z3) z4)).mono ?_
    rintro e w5 ⟨rfl, d5, k5⟩
    rw [A3.out.1]
    have z5 := k5.size
    have D5 := Lib.hid d5; have K5 := Lib.hid k5
    have kk5 := (((((K1.out.any _).trans ((K2.out.lower z1))).trans (K3.out.up z1)).trans (K4.out.lower z1)).trans (k5.up z1))
    have hq5 : Ints w5 v1 l1 := ((HQ1.out.keep K0.out).from_ kk5)
    have HQ5 := Lib.hid hq5
    have KK5 := Lib.hid kk5
    clear d5 k5 p0 p1 hq5 kk5
    go_wp2_with fail
    refine (crash_in w5 _ w1.heap.size _ _ _ v1 l1 D5.out F3.out (by decide) HQ5.out).mono ?_
    rintro e w6 ⟨c, rfl, d6, k6⟩
    have z6 := k6.size
    have C6 := Lib.hid d6; have D6 := Lib.hid (D5.out.still k6); have K6 := Lib.hid k6; clear d6 k6
    go_wp2_with fail
    refine (read_in w6 w1.heap.size _ _ _ 0 500 D6.out F3n.out (by decide)).mono ?_
    rintro e w7 ⟨rfl, k7⟩
    have z7 := k7.size
    have C7 := Lib.hid (C6.out.still k7); have D7 := Lib.hid (D6.out.still k7); have K7 := Lib.hid k7
    obtain ⟨p0, p1⟩ := HP.out w7 ((KK5.out.trans (K6.out.any _)).trans (k7.any _))
    clear k7
    go_wp2_with fail
    refine (mod_any q1 100 w7 (by decide) (by decide)).mono ?_
    rintro e w' ⟨rfl, rfl⟩
    go_wp2_with fail
    refine (write_far w7 c w5.heap.size _ _ _ (q1 % 100) [99, 114, 97, 115, 104] C7.out FC.out (by decide) (by omega) (by decide) (Nat.le_trans z6 z7)).mono ?_
    rintro e w8 ⟨rfl, d8, k8⟩
    rw [A4.out.1]
    have z8 := k8.size
    have C8 := Lib.hid d8; have D8 := Lib.hid (D7.out.keep (k8.mono fun _ _ e => e.1) (Nat.le_refl _)); have K8 := Lib.hid k8; clear d8 k8 p0 p1
    go_wp2_with fail
    refine (read_in w8 c _ _ _ 0 500 C8.out FC4n.out (by decide)).mono ?_
    rintro e w9 ⟨rfl, k9⟩
    have z9 := k9.size
    have C9 := Lib.hid (C8.out.still k9); have D9 := Lib.hid (D8.out.still k9); have K9 := Lib.hid k9; clear k9
    go_wp2_with fail
    refine (read_in w9 w1.heap.size _ _ _ 0 500 D9.out F3n.out (by decide)).mono ?_
    rintro e w10 ⟨rfl, k10⟩
    have z10 := k10.size
    have C10 := Lib.hid (C9.out.still k10); have D10 := Lib.hid (D9.out.still k10); have K10 := Lib.hid k10; clear k10
    go_wp2_with fail
    have zz : w1.heap.size ≤ w10.heap.size := by omega
    refine (write_far w10 w1.heap.size _ _ _ _ 0 [99, 104, 97, 110, 103, 101, 100, 32, 97, 103, 97, 105, 110] D10.out F3.out (by decide) (by decide) (by decide) zz).mono ?_
    rintro e w11 ⟨rfl, d11, k11⟩
    rw [A5.out.1]
    have C11 := Lib.hid (C10.out.far k11 (Nat.le_refl _)); have K11 := Lib.hid k11; clear d11 k11
    go_wp2_with fail
    refine (read_in w11 c _ _ _ 0 500 C11.out FC4n.out (by decide)).mono ?_
    rintro e w12 ⟨rfl, k12⟩
    have C12 := Lib.hid (C11.out.still k12); have K12 := Lib.hid k12; clear k12
    go_wp2_with fail
    refine (calls_in w12 c _ _ _ C12.out).mono ?_
    rintro e w' ⟨rfl, rfl⟩
    rw [A6.out]
    go_wp2_with fail
    go_ret
    have kk := (((((((KK5.out.trans (K6.out.any _)).trans (K7.out.any _)).trans (K8.out.up (by omega))).trans (K9.out.any _)).trans (K10.out.any _)).trans (K11.out.up z1)).trans (K12.out.any _))
    exact ⟨rfl, ((K0.out.any (from_ w.heap.size)).trans (kk.lower (Nat.le_of_lt z0))).below (Nat.le_refl _) (fun k hk e => by have : w.heap.size ≤ k := e; omega)⟩
  · go_wp2_with fail
    rw [HE2.out h150]
    refine (write_far w2 w1.heap.size w1.heap.size _ DS.zero 0 0 a D2.out DS.Fine.zero (by decide) (by decide) (by omega) z2).mono ?_
    rintro e w3 ⟨rfl, d3, k3⟩
    rw [A1.out.1]
    have z3 := k3.size
    have D3 := Lib.hid d3; have K3 := Lib.hid k3; clear d3 k3
    go_wp2_with fail
    refine (sync_in w3 w1.heap.size _ _ _ _ D3.out F1.out (by decide) (Nat.le_trans z2 z3)).mono ?_
    rintro e w4 ⟨rfl, d4, k4⟩
    rw [A2.out.1]
    have z4 := k4.size
    have D4 := Lib.hid d4; have K4 := Lib.hid k4
    obtain ⟨p0, p1⟩ := HP.out w4 ((((K1.out.any _).trans ((K2.out.lower z1))).trans (K3.out.up z1)).trans (k4.lower z1))
    clear d4 k4
    go_wp2_with fail
    refine (mod_any q0 100 w4 (by decide) (by decide)).mono ?_
    rintro e w' ⟨rfl, rfl⟩
    go_wp2_with fail
    refine (write_far w4 w1.heap.size w1.heap.size _ _ _ (q0 % 100) [110, 101, 119] D4.out F2.out (by decide) (by omega) (by decide) (Nat.le_trans (Nat.le_trans z2 z3) z4)).mono ?_
    rintro e w5 ⟨rfl, d5, k5⟩
    rw [A3.out.1]
    have z5 := k5.size
    have D5 := Lib.hid d5; have K5 := Lib.hid k5
    have kk5 := (((((K1.out.any _).trans ((K2.out.lower z1))).trans (K3.out.up z1)).trans (K4.out.lower z1)).trans (k5.up z1))
    have hq5 : Ints w5 v1 l1 := ((HQ1.out.keep K0.out).from_ kk5)
    have HQ5 := Lib.hid hq5
    have KK5 := Lib.hid kk5
    clear d5 k5 p0 p1 hq5 kk5
    go_wp2_with fail
    refine (crash_in w5 _ w1.heap.size _ _ _ v1 l1 D5.out F3.out (by decide) HQ5.out).mono ?_
    rintro e w6 ⟨c, rfl, d6, k6⟩
    have z6 := k6.size
    have C6 := Lib.hid d6; have D6 := Lib.hid (D5.out.still k6); have K6 := Lib.hid k6; clear d6 k6
    go_wp2_with fail
    refine (read_in w6 w1.heap.size _ _ _ 0 500 D6.out F3n.out (by decide)).mono ?_
    rintro e w7 ⟨rfl, k7⟩
    have z7 := k7.size
    have C7 := Lib.hid (C6.out.still k7); have D7 := Lib.hid (D6.out.still k7); have K7 := Lib.hid k7
    obtain ⟨p0, p1⟩ := HP.out w7 ((KK5.out.trans (K6.out.any _)).trans (k7.any _))
    clear k7
    go_wp2_with fail
    refine (mod_any q1 100 w7 (by decide) (by decide)).mono ?_
    rintro e w' ⟨rfl, rfl⟩
    go_wp2_with fail
    refine (write_far w7 c w5.heap.size _ _ _ (q1 % 100) [99, 114, 97, 115, 104] C7.out FC.out (by decide) (by omega) (by decide) (Nat.le_trans z6 z7)).mono ?_
    rintro e w8 ⟨rfl, d8, k8⟩
    rw [A4.out.1]
    have z8 := k8.size
    have C8 := Lib.hid d8; have D8 := Lib.hid (D7.out.keep (k8.mono fun _ _ e => e.1) (Nat.le_refl _)); have K8 := Lib.hid k8; clear d8 k8 p0 p1
    go_wp2_with fail
    refine (read_in w8 c _ _ _ 0 500 C8.out FC4n.out (by decide)).mono ?_
    rintro e w9 ⟨rfl, k9⟩
    have z9 := k9.size
    have C9 := Lib.hid (C8.out.still k9); have D9 := Lib.hid (D8.out.still k9); have K9 := Lib.hid k9; clear k9
    go_wp2_with fail
    refine (read_in w9 w1.heap.size _ _ _ 0 500 D9.out F3n.out (by decide)).mono ?_
    rintro e w10 ⟨rfl, k10⟩
    have z10 := k10.size
    have C10 := Lib.hid (C9.out.still k10); have D10 := Lib.hid (D9.out.still k10); have K10 := Lib.hid k10; clear k10
    go_wp2_with fail
    have zz : w1.heap.size ≤ w10.heap.size := by omega
    refine (write_far w10 w1.heap.size _ _ _ _ 0 [99, 104, 97, 110, 103, 101, 100, 32, 97, 103, 97, 105, 110] D10.out F3.out (by decide) (by decide) (by decide) zz).mono ?_
    rintro e w11 ⟨rfl, d11, k11⟩
    rw [A5.out.1]
    have C11 := Lib.hid (C10.out.far k11 (Nat.le_refl _)); have K11 := Lib.hid k11; clear d11 k11
    go_wp2_with fail
    refine (read_in w11 c _ _ _ 0 500 C11.out FC4n.out (by decide)).mono ?_
    rintro e w12 ⟨rfl, k12⟩
    have C12 := Lib.hid (C11.out.still k12); have K12 := Lib.hid k12; clear k12
    go_wp2_with fail
    refine (calls_in w12 c _ _ _ C12.out).mono ?_
    rintro e w' ⟨rfl, rfl⟩
    rw [A6.out]
    go_wp2_with fail
    go_ret
    have kk := (((((((KK5.out.trans (K6.out.any _)).trans (K7.out.any _)).trans (K8.out.up (by omega))).trans (K9.out.any _)).trans (K10.out.any _)).trans (K11.out.up z1)).trans (K12.out.any _))
    exact ⟨rfl, ((K0.out.any (from_ w.heap.size)).trans (kk.lower (Nat.le_of_lt z0))).below (Nat.le_refl _) (fun k hk e => by have : w.heap.size ≤ k := e; omega)⟩
#print axioms own_walk
end Go.Proofs.Ytmigbpfeobjhkaa
