/-
  DiskAgain: the law's walk: it returns true, and writes nothing that was there. No condition.
-/
import Derived.Test.YtmigbpfeobjhkaaDPlays
import Derived.Test.YtmigbpfeobjhkaaDLawsPlain
namespace Go.Proofs.Ytmigbpfeobjhkaa
open Go Go.RowKit Go.ChangeShapes Go.WideShapes Go.ChangeAt
attribute [local go_sem ↓] Go.wp_at_zero Go.wp_at_succ
set_option linter.unusedVariables false

set_option maxHeartbeats 1000000 in
theorem again_walk (l0 : List ActD) (v0 : Value) (l1 : List Int) (v1 : Value) (l2 : List Int) (v2 : Value) (w : World) (hl0 : Acts w v0 l0) (hl1 : Ints w v1 l1) (hl2 : Ints w v2 l2) :
    Calls Try.prog 9 #[v0, v1, v2] w fun e w' => e = .returned (.bool true) ∧ Below w.heap.size w w' := by
  obtain ⟨o0, cap0, rfl, hlc0, hcm0, hcells0, hfit0⟩ := hl0
  have HC0 := Lib.hid hcells0
  have HFT0 := Lib.hid hfit0
  clear hcells0 hfit0
  have HQ1 := Lib.hid hl1
  have HQ2 := Lib.hid hl2
  clear hl1 hl2
  go_enter Try.func9, Try.ntmps9
  go_wp2_with fail
  refine (sanity_any w).mono ?_
  rintro e w1 ⟨rfl, k1⟩
  have K1 := Lib.hid k1; have z1 := k1.size; clear k1
  go_wp2_with fail
  refine (new_in w1).mono ?_
  rintro e w2 ⟨rfl, d2, k2⟩
  have K2 := Lib.hid k2; have D2 := Lib.hid d2; have z2 := k2.size; clear k2 d2
  go_wp2_with fail
  refine (rnew_any w2).mono ?_
  rintro e w3 ⟨rfl, r3, k3⟩
  have K3 := Lib.hid k3; have R3 := Lib.hid r3; have z3 := k3.size; clear k3 r3
  obtain ⟨w4, hw4⟩ : ∃ w4, w4 = w3.alloc (.cells #[.pointer (some ⟨w1.heap.size, 0, none⟩), .pointer (some ⟨w2.heap.size, 0, none⟩)] 30) := ⟨_, rfl⟩
  obtain ⟨x, hx⟩ : ∃ x, x = w3.heap.size := ⟨_, rfl⟩
  have hd4 := desk_made w1 w2 w3 w4 w1.heap.size w2.heap.size DS.zero D2.out K2.out R3.out K3.out hw4
  have k14 : Keeps (from_ w.heap.size) w w4 := (K1.out.any _).trans (hd4.2.lower z1)
  have d4 : DeskIn w4 x w.heap.size w4.heap.size DS.zero := by
    rw [hx]
    obtain ⟨F, hF, h⟩ := hd4.1
    exact ⟨F, fun k e => ⟨Nat.le_trans z1 (hF k e).1, (hF k e).2⟩, h⟩
  have z4 := k14.size
  have K4 := Lib.hid k14
  have D4 := Lib.hid d4
  have HW4 := Lib.hid hw4
  have HX := Lib.hid hx
  clear hd4 hw4 k14 d4 hx
  go_wp2_with fail
  rw [← HW4.out, ← HX.out]
  clear K2 D2 z2 K3 R3 z3
  go_loopw [9] (PlayRel w x l0) (fun i _ => l0.length - (intOf i).toNat)
  case atStart => exact ⟨0, rfl, Nat.zero_le _, by omega, by have := D4.out; simpa [acts] using this, K4.out⟩
  case round =>
    obtain ⟨k, rfl, hkl, hk40, hd, hkr⟩ := hrel
    have HD := Lib.hid hd
    have HKR := Lib.hid hkr
    have zr := hkr.size
    clear hd hkr
    by_cases hlt : k < l0.length ∧ k < 15
    · obtain ⟨hlt, hlt15⟩ := hlt
      obtain ⟨b0, off0, hb0, hcell⟩ := HC0.out (by omega)
      subst hb0
      have hbw : b0 < w.heap.size := World.block_lt_of_cell? w _ (hcell k hlt).1
      obtain ⟨c0, c1, c2, c3⟩ := hcell k hlt
      have hnb : ¬ from_ w.heap.size b0 := fun e => by have : w.heap.size ≤ b0 := e; omega
      have c0 := HKR.out.cell c0 hnb
      have c1 := HKR.out.cell c1 hnb
      have c2 := HKR.out.cell c2 hnb
      have c3 := HKR.out.cell c3 hnb
      have hf := HFT0.out l0[k] (List.getElem_mem hlt)
      obtain ⟨ad, had⟩ : ∃ ad, l0[k] = ad := ⟨_, rfl⟩
      have HAD := Lib.hid had
      rw [had] at c0 c1 c2 c3 hf
      obtain ⟨ak, ao, an, at_⟩ := ad
      obtain ⟨⟨hk0, hk1⟩, ⟨ho0, ho1⟩, ⟨hn0, hn1⟩, ht⟩ := hf
      simp only at c0 c1 c2 c3 hk0 hk1 ho0 ho1 hn0 hn1 ht
      have hi1 : (k : Int) < (l0.length : Int) := by omega
      clear had hnb hcell
      have hsn : acts DS.zero (l0.take (k + 1)) = (acts DS.zero (l0.take k)).act ak ao an at_ := by rw [List.take_succ_eq_append_getElem hlt, acts_snoc, HAD.out]
      have HS := Lib.hid hsn
      have hi2 : (k : Int) < 15 := by omega
      clear hsn
      go_wp2_with fail
      refine (do_in wr x w.heap.size _ _ _ ak ao an at_ HD.out (fine_acts l0 k) (by omega) zr ho1 hn0 hn1 ht).mono ?_
      rintro e w5 ⟨rfl, d5, k5⟩
      rw [← HS.out] at d5
      have D5 := Lib.hid d5
      have K5 := Lib.hid k5
      clear d5 k5
      go_wp2_with fail
      go_roundw
      case rel => exact ⟨k + 1, by simp, by omega, by omega, D5.out, HKR.out.trans K5.out⟩
      case measure => simp [intOf]; omega
    · have hend : ¬ (k : Int) < l0.length ∨ ¬ (k : Int) < 15 := by omega
      have hS := fine_acts l0 k
      obtain ⟨s, hs⟩ : ∃ s, s = acts DS.zero (l0.take k) := ⟨_, rfl⟩
      rw [← hs] at hS
      have HD := Lib.hid (show DeskIn wr x w.heap.size wr.heap.size s by rw [hs]; exact HD.out)
      have HSF := Lib.hid (hS.mono (show 201 * k ≤ 100000 by omega))
      clear hlt hS hs
      obtain ⟨bd, bm, Fd, Fm, e0, e1, hdd, hrr⟩ := DeskIn.open HD.out
      have HDD := Lib.hid hdd
      have hq1 : Ints wr v1 l1 := HQ1.out.from_ HKR.out
      have hq2 : Ints wr v2 l2 := HQ2.out.from_ HKR.out
      have HQ1 := Lib.hid hq1
      have HQ2 := Lib.hid hq2
      clear hdd hrr hq1 hq2 e1
      by_cases hkl2 : (k : Int) < l0.length
      · have hk2 : ¬ (k : Int) < 15 := hend.resolve_left (fun h => h hkl2)
        clear hend
        go_wp2_with fail
        refine (crash_any wr bd Fd s 100000 v1 l1 HDD.out HSF.out (by decide) HQ1.out).mono ?_
        rintro e w5 ⟨c5, rfl, h5, k5⟩
        have D5 := Lib.hid h5
        have K5 := Lib.hid k5
        have HQ5 := Lib.hid (HQ2.out.keep k5)
        have HF5 := Lib.hid (HSF.out.crash l1)
        clear h5 k5
        go_wp2_with fail
        refine (crash_any w5 c5 _ (s.crash l1) 100000 v2 l2 D5.out HF5.out (by decide) HQ5.out).mono ?_
        rintro e w6 ⟨c6, rfl, h6, k6⟩
        rw [crash_again] at h6
        have D6 := Lib.hid h6
        have K6 := Lib.hid k6
        have HF6 := Lib.hid HF5.out.now
        have hc5 := D5.out.keep k6 (fun _ _ e => e)
        have HDc := Lib.hid hc5
        have hcalls : ((s.crash l1).calls : Int) = 0 := rfl
        clear h6 k6 hc5
        go_wp2_with fail
        refine (size_any w6 c6 _ _ D6.out).mono ?_
        rintro e w' ⟨rfl, rfl⟩
        go_wp2_with fail
        refine (size_any w6 c5 _ _ HDc.out).mono ?_
        rintro e w' ⟨rfl, rfl⟩
        go_wp2_with fail
        refine (read_k w6 c6 _ _ 0 33554432 D6.out HF6.out (by decide)).mono ?_
        rintro e w7 ⟨rfl, k7⟩
        have HDd := Lib.hid (D6.out.keep k7 (fun _ _ e => e))
        have HDe := Lib.hid (HDc.out.keep k7 (fun _ _ e => e))
        have K7 := Lib.hid k7
        clear k7
        go_wp2_with fail
        refine (read_k w7 c5 _ _ 0 33554432 HDe.out HF6.out (by decide)).mono ?_
        rintro e w8 ⟨rfl, k8⟩
        have HDg := Lib.hid (HDd.out.keep k8 (fun _ _ e => e))
        have K8 := Lib.hid k8
        clear k8
        go_wp2_with fail
        refine (calls_any w8 c6 _ _ HDg.out).mono ?_
        rintro e w' ⟨rfl, rfl⟩
        rw [hcalls]
        go_wp2_with fail
        go_ret
        have kk := (((HKR.out.trans (K5.out.any _)).trans (K6.out.any _)).trans (K7.out.any _)).trans (K8.out.any _)
        exact ⟨rfl, (kk).below (Nat.le_refl _) (fun k hk e => by have : w.heap.size ≤ k := e; omega)⟩
      · clear hend
        go_wp2_with fail
        refine (crash_any wr bd Fd s 100000 v1 l1 HDD.out HSF.out (by decide) HQ1.out).mono ?_
        rintro e w5 ⟨c5, rfl, h5, k5⟩
        have D5 := Lib.hid h5
        have K5 := Lib.hid k5
        have HQ5 := Lib.hid (HQ2.out.keep k5)
        have HF5 := Lib.hid (HSF.out.crash l1)
        clear h5 k5
        go_wp2_with fail
        refine (crash_any w5 c5 _ (s.crash l1) 100000 v2 l2 D5.out HF5.out (by decide) HQ5.out).mono ?_
        rintro e w6 ⟨c6, rfl, h6, k6⟩
        rw [crash_again] at h6
        have D6 := Lib.hid h6
        have K6 := Lib.hid k6
        have HF6 := Lib.hid HF5.out.now
        have hc5 := D5.out.keep k6 (fun _ _ e => e)
        have HDc := Lib.hid hc5
        have hcalls : ((s.crash l1).calls : Int) = 0 := rfl
        clear h6 k6 hc5
        go_wp2_with fail
        refine (size_any w6 c6 _ _ D6.out).mono ?_
        rintro e w' ⟨rfl, rfl⟩
        go_wp2_with fail
        refine (size_any w6 c5 _ _ HDc.out).mono ?_
        rintro e w' ⟨rfl, rfl⟩
        go_wp2_with fail
        refine (read_k w6 c6 _ _ 0 33554432 D6.out HF6.out (by decide)).mono ?_
        rintro e w7 ⟨rfl, k7⟩
        have HDd := Lib.hid (D6.out.keep k7 (fun _ _ e => e))
        have HDe := Lib.hid (HDc.out.keep k7 (fun _ _ e => e))
        have K7 := Lib.hid k7
        clear k7
        go_wp2_with fail
        refine (read_k w7 c5 _ _ 0 33554432 HDe.out HF6.out (by decide)).mono ?_
        rintro e w8 ⟨rfl, k8⟩
        have HDg := Lib.hid (HDd.out.keep k8 (fun _ _ e => e))
        have K8 := Lib.hid k8
        clear k8
        go_wp2_with fail
        refine (calls_any w8 c6 _ _ HDg.out).mono ?_
        rintro e w' ⟨rfl, rfl⟩
        rw [hcalls]
        go_wp2_with fail
        go_ret
        have kk := (((HKR.out.trans (K5.out.any _)).trans (K6.out.any _)).trans (K7.out.any _)).trans (K8.out.any _)
        exact ⟨rfl, (kk).below (Nat.le_refl _) (fun k hk e => by have : w.heap.size ≤ k := e; omega)⟩
#print axioms again_walk
end Go.Proofs.Ytmigbpfeobjhkaa
