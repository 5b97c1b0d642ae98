/-
  DiskFails: the law's walk: it returns true, and writes nothing that was there. No condition.
-/
import Derived.Test.YtmigbpfeobjhkaaDPlays
import Derived.Test.YtmigbpfeobjhkaaDLaws2
namespace Go.Proofs.Ytmigbpfeobjhkaa
open Go Go.RowKit Go.ChangeShapes Go.WideShapes Go.ChangeAt
attribute [local go_sem ↓] Go.wp_at_zero Go.wp_at_succ
set_option linter.unusedVariables false

/-- the disk after k calls, when the power lasts for mn -/
def FailSt (mn k : Nat) (s : DS) : Prop := s.calls = min k mn ∧ s.lim = some (mn - min k mn) ∧ s.now.length ≤ min k mn ∧ s.Fine (2 * k)
theorem fail_start (mn : Nat) (h : mn < 30) : FailSt mn 0 (DS.zero.fail mn) := by
  refine ⟨by simp [DS.fail, DS.zero], ?_, by simp [DS.fail, DS.zero], DS.Fine.zero.fail _ (by omega)⟩
  simp only [DS.fail]
  rw [if_neg (by omega)]
  simp
theorem fail_sync (mn k : Nat) (s : DS) (h : FailSt mn k s) : s.syncR = (if k < mn then 0 else 70) ∧ FailSt mn (k + 1) s.sync := by
  obtain ⟨h1, h2, h3, h4⟩ := h
  by_cases hk : k < mn
  · have ho : s.off = false := by rw [DS.off, h2]; simp; omega
    refine ⟨by rw [DS.syncR, ho, if_pos hk]; rfl, ?_⟩
    rw [show s.sync = s.synced by rw [DS.sync, ho]; rfl]
    refine ⟨?_, ?_, ?_, h4.synced.mono (by omega)⟩
    · simp only [DS.synced, DS.counted, h1]; omega
    · simp only [DS.synced, DS.counted, h2, Option.map_some]; congr 1; omega
    · simp only [DS.synced, DS.counted]; omega
  · have ho : s.off = true := by rw [DS.off, h2]; simp; omega
    refine ⟨by rw [DS.syncR, ho, if_neg hk]; rfl, ?_⟩
    rw [show s.sync = s by rw [DS.sync, ho]; rfl]
    exact ⟨by rw [h1]; omega, by rw [h2]; congr 1; omega, by omega, h4.mono (by omega)⟩
theorem fail_write (mn k : Nat) (s : DS) (h : FailSt mn k s) (hk0 : k ≤ 1000) : s.writeR k [122] = (if k < mn then 0 else 70) ∧ FailSt mn (k + 1) (s.write k [122]) := by
  obtain ⟨h1, h2, h3, h4⟩ := h
  have hfit : fits k [122] = true := fits_of _ _ (by omega) (by simp; omega)
  by_cases hk : k < mn
  · have ho : s.off = false := by rw [DS.off, h2]; simp; omega
    refine ⟨by simp [DS.writeR, hfit, ho, hk], ?_⟩
    rw [show s.write k [122] = s.wrote k [122] by simp [DS.write, hfit, ho]]
    refine ⟨?_, ?_, ?_, (h4.wrote k [122] hfit).mono (by simp; omega)⟩
    · simp only [DS.wrote, DS.counted, h1]; omega
    · simp only [DS.wrote, DS.counted, h2, Option.map_some]; exact congrArg some (by omega)
    · simp only [DS.wrote, length_putL, List.length_cons, List.length_nil, Int.toNat_natCast]; omega
  · have ho : s.off = true := by rw [DS.off, h2]; simp; omega
    refine ⟨by simp [DS.writeR, hfit, ho, hk], ?_⟩
    rw [show s.write k [122] = s by simp [DS.write, hfit, ho]]
    exact ⟨by rw [h1]; omega, by rw [h2]; exact congrArg some (by omega), by omega, h4.mono (by omega)⟩
/-- the loop of DiskFails -/
def FailRel (w : World) (b L mn T : Nat) (i : Value) (wr : World) : Prop :=
  ∃ (k : Nat) (s : DS), i = .int .i64 k ∧ k ≤ T ∧ FailSt mn k s ∧ DiskIn wr b L wr.heap.size s ∧ Keeps (from_ w.heap.size) w wr

set_option maxHeartbeats 1000000 in
theorem fails_walk (n0 n1 n2 : Int) (w : World) (hn0 : (Lit.int .u8 n0).wf = true) (hn1 : (Lit.int .u32 n1).wf = true) (hn2 : (Lit.int .u8 n2).wf = true) :
    Calls Try.prog 7 #[.int .u8 n0, .int .u32 n1, .int .u8 n2] w fun e w' => e = .returned (.bool true) ∧ Below w.heap.size w w' := by
  have hb0 : 0 ≤ n0 ∧ n0 ≤ 255 := by simpa [Lit.wf, IntKind.min, IntKind.max, IntKind.signed, IntKind.bits] using hn0
  have hb2 : 0 ≤ n2 ∧ n2 ≤ 255 := by simpa [Lit.wf, IntKind.min, IntKind.max, IntKind.signed, IntKind.bits] using hn2
  have hb1 : 0 ≤ n1 ∧ n1 ≤ 4294967295 := by simpa [Lit.wf, IntKind.min, IntKind.max, IntKind.signed, IntKind.bits] using hn1
  clear hn0 hn1 hn2
  obtain ⟨mn, hmn⟩ : ∃ mn : Nat, n0.tmod 30 = mn := ⟨(n0.tmod 30).toNat, by rw [Int.tmod_eq_emod_of_nonneg hb0.1]; omega⟩
  have hmn30 : mn < 30 := by rw [Int.tmod_eq_emod_of_nonneg hb0.1] at hmn; omega
  obtain ⟨mo, hmo⟩ : ∃ mo : Nat, n2.tmod 5 = mo := ⟨(n2.tmod 5).toNat, by rw [Int.tmod_eq_emod_of_nonneg hb2.1]; omega⟩
  have hmo5 : mo < 5 := by rw [Int.tmod_eq_emod_of_nonneg hb2.1] at hmo; omega
  go_enter Try.func7, Try.ntmps7
  go_wp2_with fail
  refine (sanity_any w).mono ?_
  rintro e w1 ⟨rfl, k1⟩
  have K1 := Lib.hid k1; have z1 := k1.size; clear k1
  go_wp2_with fail
  refine (new_in w1).mono ?_
  rintro e w2 ⟨rfl, d2, k2⟩
  have K2 := Lib.hid k2; have D2 := Lib.hid d2; have z2 := k2.size; clear k2 d2
  go_wp2_with fail
  refine (fail_in w2 _ w1.heap.size _ DS.zero mn D2.out z2).mono ?_
  rintro e w3 ⟨rfl, d3, k3⟩
  have hst := fail_start mn hmn30
  have K3 := Lib.hid k3; have D3 := Lib.hid d3; have z3 := k3.size; have HST := Lib.hid hst; clear k3 d3 hst
  obtain ⟨T, hT⟩ : ∃ T : Nat, T = mn + mo + 1 := ⟨_, rfl⟩
  have hw1 : IntKind.i64.wrap ((mn : Int) + (mo : Int)) = (mn : Int) + (mo : Int) := IntWalk.i64_in _ (by omega)
  have hw2 : IntKind.i64.wrap ((mn : Int) + (mo : Int) + 1) = (T : Int) := by rw [hT]; exact IntWalk.i64_in _ (by omega)
  have HT := Lib.hid hT
  have hT35 : T < 36 := by omega
  clear hT
  go_wp2_with fail
  go_loopw [10] (FailRel w w1.heap.size w1.heap.size mn T) (fun i _ => T - (intOf i).toNat)
  case atStart => exact ⟨0, _, rfl, Nat.zero_le _, HST.out, D3.out, ((K1.out.any _).trans (K2.out.lower z1)).trans (K3.out.lower z1)⟩
  case round =>
    obtain ⟨k, s, rfl, hkT, hs, hd, hkr⟩ := hrel
    have HS := Lib.hid hs; have HD := Lib.hid hd; have HKR := Lib.hid hkr; have zr := hkr.size
    have hzr : w1.heap.size ≤ wr.heap.size := Nat.le_trans hd.lt.1 (Nat.le_of_lt hd.lt.2)
    clear hs hd hkr
    by_cases hlt : k < T
    · by_cases hkm : k < mn
      · go_wp2_with fail
        · have hf := fail_sync mn k s HS.out
          rw [if_pos hkm] at hf
          have HF := Lib.hid hf
          clear hf
          refine (sync_in wr _ w1.heap.size _ s _ HD.out HS.out.2.2.2 (by omega) hzr).mono ?_
          rintro e w4 ⟨rfl, d4, k4⟩
          rw [HF.out.1]
          have D4 := Lib.hid d4; have K4 := Lib.hid k4; clear d4 k4
          go_wp2_with fail
          go_roundw
          case rel => exact ⟨k + 1, _, by simp, by omega, HF.out.2, D4.out, HKR.out.trans (K4.out.lower z1)⟩
          case measure => simp [intOf]; omega
        · have hf := fail_write mn k s HS.out (by omega)
          rw [if_pos hkm] at hf
          have HF := Lib.hid hf
          clear hf
          refine (write_in wr _ w1.heap.size _ s _ k [122] HD.out HS.out.2.2.2 (by omega) (by omega) (by decide) hzr).mono ?_
          rintro e w4 ⟨rfl, d4, k4⟩
          rw [HF.out.1]
          have D4 := Lib.hid d4; have K4 := Lib.hid k4; clear d4 k4
          go_wp2_with fail
          go_roundw
          case rel => exact ⟨k + 1, _, by simp, by omega, HF.out.2, D4.out, HKR.out.trans (K4.out.lower z1)⟩
          case measure => simp [intOf]; omega
      · go_wp2_with fail
        · have hf := fail_sync mn k s HS.out
          rw [if_neg hkm] at hf
          have HF := Lib.hid hf
          clear hf
          refine (sync_in wr _ w1.heap.size _ s _ HD.out HS.out.2.2.2 (by omega) hzr).mono ?_
          rintro e w4 ⟨rfl, d4, k4⟩
          rw [HF.out.1]
          have D4 := Lib.hid d4; have K4 := Lib.hid k4; clear d4 k4
          go_wp2_with fail
          go_roundw
          case rel => exact ⟨k + 1, _, by simp, by omega, HF.out.2, D4.out, HKR.out.trans (K4.out.lower z1)⟩
          case measure => simp [intOf]; omega
        · have hf := fail_write mn k s HS.out (by omega)
          rw [if_neg hkm] at hf
          have HF := Lib.hid hf
          clear hf
          refine (write_in wr _ w1.heap.size _ s _ k [122] HD.out HS.out.2.2.2 (by omega) (by omega) (by decide) hzr).mono ?_
          rintro e w4 ⟨rfl, d4, k4⟩
          rw [HF.out.1]
          have D4 := Lib.hid d4; have K4 := Lib.hid k4; clear d4 k4
          go_wp2_with fail
          go_roundw
          case rel => exact ⟨k + 1, _, by simp, by omega, HF.out.2, D4.out, HKR.out.trans (K4.out.lower z1)⟩
          case measure => simp [intOf]; omega
    · obtain rfl : k = T := by omega
      have hfin : s.calls = mn ∧ s.now.length ≤ mn := by
        have := HS.out.1; have := HS.out.2.2.1; have := HT.out; omega
      have hca : (s.calls : Int) = mn := by rw [hfin.1]
      have hsz : s.now.length ≤ mn := hfin.2
      clear hfin
      go_wp2_with fail
      refine (calls_in wr _ _ _ s HD.out).mono ?_
      rintro e w' ⟨rfl, rfl⟩
      rw [hca]
      go_wp2_with fail
      refine (size_in wr _ _ _ s HD.out).mono ?_
      rintro e w' ⟨rfl, rfl⟩
      obtain ⟨sz, hsz2⟩ : ∃ sz, s.now.length = sz := ⟨_, rfl⟩
      rw [hsz2] at hsz
      rw [hsz2]
      go_wp2_with fail
      refine (fail_in wr _ w1.heap.size _ s (-1) HD.out hzr).mono ?_
      rintro e w4 ⟨rfl, d4, k4⟩
      have z4 := k4.size
      have D4 := Lib.hid d4; have K4 := Lib.hid k4; clear d4 k4
      have a4 := writeR_ok (s.fail (-1)) 0 [97, 103, 97, 105, 110] (by simp [DS.fail]) (by decide)
      have a5 : (((s.fail (-1)).write 0 [97, 103, 97, 105, 110]).calls : Int) = (mn : Int) + 1 := by
        rw [a4.2.2.1]
        have : (s.fail (-1)).calls = s.calls := rfl
        rw [this]; push_cast; rw [hca]
      have A4 := Lib.hid a4.1; have A5 := Lib.hid a5
      clear a4 a5
      have hw5 : IntKind.i64.wrap ((mn : Int) + 1) = (mn : Int) + 1 := IntWalk.i64_in _ (by omega)
      go_wp2_with fail
      refine (write_in w4 _ w1.heap.size _ (s.fail (-1)) _ 0 [97, 103, 97, 105, 110] D4.out (HS.out.2.2.2.fail _ (by decide)) (by omega) (by decide) (by decide) (Nat.le_trans hzr z4)).mono ?_
      rintro e w5 ⟨rfl, d5, k5⟩
      rw [A4.out]
      have D5 := Lib.hid d5; have K5 := Lib.hid k5; clear d5 k5
      go_wp2_with fail
      refine (calls_in w5 _ _ _ _ D5.out).mono ?_
      rintro e w' ⟨rfl, rfl⟩
      rw [A5.out]
      go_wp2_with fail
      go_ret
      have kk := (HKR.out.trans (K4.out.lower z1)).trans (K5.out.lower z1)
      exact ⟨rfl, (kk).below (Nat.le_refl _) (fun k hk e => by have : w.heap.size ≤ k := e; omega)⟩
#print axioms fails_walk
end Go.Proofs.Ytmigbpfeobjhkaa
