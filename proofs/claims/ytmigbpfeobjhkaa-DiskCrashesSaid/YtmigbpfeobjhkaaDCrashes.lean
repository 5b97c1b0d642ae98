/-
  DiskCrashes: the law's walk: it returns true, and writes nothing that was there. No condition.
-/
import Derived.Test.YtmigbpfeobjhkaaDPlays
import Derived.Test.YtmigbpfeobjhkaaDLaws2
namespace Go.Proofs.Ytmigbpfeobjhkaa
open Go Go.RowKit Go.ChangeShapes Go.WideShapes Go.ChangeAt
attribute [local go_sem ↓] Go.wp_at_zero Go.wp_at_succ
set_option linter.unusedVariables false

/-- the loop of DiskCrashes -/
def CrRel (w : World) (x : Nat) (l : List ActD) (i : Value) (wr : World) : Prop :=
  ∃ (k : Nat) (s : DS), i = .int .i64 k ∧ k ≤ l.length ∧ k ≤ 20 ∧ s.Fine (201 * k) ∧ DeskIn wr x w.heap.size wr.heap.size s ∧ Keeps (from_ w.heap.size) w wr
theorem DiskIn.wide {w : World} {b L U U2 : Nat} {s : DS} (h : DiskIn w b L U s) (hu : U ≤ U2) : DiskIn w b L U2 s := by
  obtain ⟨F, hF, h⟩ := h
  exact ⟨F, fun k e => ⟨(hF k e).1, Nat.lt_of_lt_of_le (hF k e).2 hu⟩, h⟩

set_option maxHeartbeats 1000000 in
theorem crashes_walk (l0 : List ActD) (v0 : Value) (l1 : List Int) (v1 : Value) (n2 : Int) (w : World) (hl0 : Acts w v0 l0) (hl1 : Ints w v1 l1) (hn2 : (Lit.int .i64 n2).wf = true) :
    Calls Try.prog 4 #[v0, v1, .int .i64 n2] w fun e w' => e = .returned (.bool true) ∧ Below w.heap.size w w' := by
  obtain ⟨o0, cap0, rfl, hlc0, hcm0, hcells0, hfit0⟩ := hl0
  have HC0 := Lib.hid hcells0
  have HFT0 := Lib.hid hfit0
  clear hcells0 hfit0
  have HQ1 := Lib.hid hl1
  obtain ⟨hn20, hn21⟩ := inI64_of hn2
  clear hl1 hn2
  go_enter Try.func4, Try.ntmps4
  go_wp2_with fail
  refine (sanity_any w).mono ?_
  rintro e w1 ⟨rfl, k1⟩
  have K1 := Lib.hid k1; have z1 := k1.size; clear k1
  go_wp2_with fail
  refine (new_in w1).mono ?_
  rintro e w2 ⟨rfl, d2, k2⟩
  have K2 := Lib.hid k2; have D2 := Lib.hid d2; have z2 := k2.size; clear k2 d2
  go_wp2_with fail
  refine (rnew_any w2).mono ?_
  rintro e w3 ⟨rfl, r3, k3⟩
  have K3 := Lib.hid k3; have R3 := Lib.hid r3; have z3 := k3.size; clear k3 r3
  obtain ⟨w4, hw4⟩ : ∃ w4, w4 = w3.alloc (.cells #[.pointer (some ⟨w1.heap.size, 0, none⟩), .pointer (some ⟨w2.heap.size, 0, none⟩)] 30) := ⟨_, rfl⟩
  obtain ⟨x, hx⟩ : ∃ x, x = w3.heap.size := ⟨_, rfl⟩
  have hd4 := desk_made w1 w2 w3 w4 w1.heap.size w2.heap.size DS.zero D2.out K2.out R3.out K3.out hw4
  have k14 : Keeps (from_ w.heap.size) w w4 := (K1.out.any _).trans (hd4.2.lower z1)
  have d4 : DeskIn w4 x w.heap.size w4.heap.size DS.zero := by
    rw [hx]
    obtain ⟨F, hF, h⟩ := hd4.1
    exact ⟨F, fun k e => ⟨Nat.le_trans z1 (hF k e).1, (hF k e).2⟩, h⟩
  have z4 := k14.size
  have K4 := Lib.hid k14
  have D4 := Lib.hid d4
  have HW4 := Lib.hid hw4
  have HX := Lib.hid hx
  clear hd4 hw4 k14 d4 hx
  go_wp2_with fail
  rw [← HW4.out, ← HX.out]
  clear K2 D2 z2 K3 R3 z3
  go_loopw [9] (CrRel w x l0) (fun i _ => l0.length - (intOf i).toNat)
  case atStart => exact ⟨0, DS.zero, rfl, Nat.zero_le _, by omega, DS.Fine.zero, D4.out, K4.out⟩
  case round =>
    obtain ⟨k, s, rfl, hkl, hk40, hss, hd, hkr⟩ := hrel
    have HD := Lib.hid hd
    have HKR := Lib.hid hkr
    have HSS := Lib.hid hss
    have zr := hkr.size
    clear hd hkr hss
    by_cases hlt : k < l0.length ∧ k < 20
    · obtain ⟨hlt, hlt15⟩ := hlt
      obtain ⟨b0, off0, hb0, hcell⟩ := HC0.out (by omega)
      subst hb0
      have hbw : b0 < w.heap.size := World.block_lt_of_cell? w _ (hcell k hlt).1
      obtain ⟨c0, c1, c2, c3⟩ := hcell k hlt
      have hnb : ¬ from_ w.heap.size b0 := fun e => by have : w.heap.size ≤ b0 := e; omega
      have c0 := HKR.out.cell c0 hnb
      have c1 := HKR.out.cell c1 hnb
      have c2 := HKR.out.cell c2 hnb
      have c3 := HKR.out.cell c3 hnb
      have hf := HFT0.out l0[k] (List.getElem_mem hlt)
      obtain ⟨ad, had⟩ : ∃ ad, l0[k] = ad := ⟨_, rfl⟩
      have HAD := Lib.hid had
      rw [had] at c0 c1 c2 c3 hf
      obtain ⟨ak, ao, an, at_⟩ := ad
      obtain ⟨⟨hk0, hk1⟩, ⟨ho0, ho1⟩, ⟨hn0, hn1⟩, ht⟩ := hf
      simp only at c0 c1 c2 c3 hk0 hk1 ho0 ho1 hn0 hn1 ht
      have hi1 : (k : Int) < (l0.length : Int) := by omega
      clear had hnb hcell
      have hi2 : (k : Int) < 20 := by omega
      go_wp2_with fail
      obtain ⟨wa, hwa⟩ : ∃ wa : World, wa = wr.alloc (.cells #[.int .i64 ak, .int .i64 ao, .int .i64 an, .string (str at_)] 33) := ⟨_, rfl⟩
      have ka : Keeps noBlock wr wa := by rw [hwa]; exact (Keeps.refl _ _).alloc _
      have hha : wa.heap[wr.heap.size]? = some (.cells #[.int .i64 ak, .int .i64 ao, .int .i64 an, .string (str at_)] 33 (0, 0)) := by rw [hwa]; exact heap_alloc_at
      have hza : wa.heap.size = wr.heap.size + 1 := by rw [hwa]; simp
      rw [← hwa]
      clear hwa
      refine (mod_any ak 5 wa (by decide) (by decide)).mono ?_
      rintro e w' ⟨rfl, rfl⟩
      have x0 : wa.cell? ⟨wr.heap.size, 0, none⟩ = some (.int .i64 ak) := by rw [cell_of_heap hha]; rfl
      have x1 : wa.cell? ⟨wr.heap.size, 1, none⟩ = some (.int .i64 ao) := by rw [cell_of_heap hha]; rfl
      have x2 : wa.cell? ⟨wr.heap.size, 2, none⟩ = some (.int .i64 an) := by rw [cell_of_heap hha]; rfl
      have x3 : wa.cell? ⟨wr.heap.size, 3, none⟩ = some (.string (str at_)) := by rw [cell_of_heap hha]; rfl
      have xf := frozen_of_heap hha 0
      obtain ⟨wb, hwb⟩ : ∃ wb, wb = wa.setCell ⟨wr.heap.size, 0, none⟩ (.int .i64 (ak % 5)) := ⟨_, rfl⟩
      have hhb : wb.heap[wr.heap.size]? = some (.cells #[.int .i64 (ak % 5), .int .i64 ao, .int .i64 an, .string (str at_)] 33 (0, 0)) := by rw [hwb]; exact heap_set hha
      have kb : Keeps noBlock wr wb := by rw [hwb]; exact ka.setCell (fun e => absurd e (Nat.lt_irrefl _)) _
      have HWB := Lib.hid hwb.symm
      have DB := Lib.hid (HD.out.still kb)
      have KB := Lib.hid kb
      have zb := kb.size
      clear hwb hhb hha ka kb
      go_wp2_with fail
      rw [HWB.out]
      refine (do_in wb x w.heap.size _ s _ (ak % 5) ao an at_ DB.out HSS.out (by omega) (Nat.le_trans zr zb) ho1 hn0 hn1 ht).mono ?_
      rintro e w5 ⟨rfl, d5, k5⟩
      have D5 := Lib.hid d5
      have K5 := Lib.hid k5
      clear d5 k5
      go_wp2_with fail
      go_roundw
      case rel => exact ⟨k + 1, _, by simp, by omega, by omega, (HSS.out.act _ _ _ _).mono (by omega), D5.out, (HKR.out.trans (KB.out.any _)).trans K5.out⟩
      case measure => simp [intOf]; omega
    · have hend : ¬ (k : Int) < l0.length ∨ ¬ (k : Int) < 20 := by omega
      obtain ⟨bd, bm, Fd, Fm, e0, e1, hdd, hrr, hFd, hFm, hdis, hxd, hxm, hx0, hx1⟩ := DeskIn.open2 HD.out
      have HDD := Lib.hid (hdd.keep (Keeps.refl noBlock wr).drew (fun _ _ e => e)); have HRR := Lib.hid (hrr.keep (Keeps.refl noBlock wr).drew (fun _ _ e => e))
      have HSF := Lib.hid (HSS.out.mono (show 201 * k ≤ 100000 by omega))
      have HDD0 := Lib.hid hdd; have HRR0 := Lib.hid hrr
      have hq1 : Ints wr.drew v1 l1 := (HQ1.out.from_ HKR.out).keep (Keeps.refl noBlock wr).drew
      have HQ1 := Lib.hid hq1
      clear hdd hrr hFd hFm hdis hxd hxm hlt hq1
      by_cases hkl2 : (k : Int) < l0.length
      · have hk2 : ¬ (k : Int) < 20 := hend.resolve_left (fun h => h hkl2)
        clear hend
        go_wp2_with fail
        have tok1 : True := trivial
        have tok2 : True := trivial
        go_region_held3 (fun w' => w'.cell? ⟨x, 0, none⟩ = some (.pointer (some ⟨bd, 0, none⟩)) ∧ w'.cell? ⟨x, 1, none⟩ = some (.pointer (some ⟨bm, 0, none⟩)))
          (first
            | go_keep
            | (go_split_ands; exact ⟨k6.cell (by assumption) (fun h => h), k6.cell (by assumption) (fun h => h)⟩)
            | (go_split_ands; exact ⟨k5.cell (by assumption) (fun h => h), k5.cell (by assumption) (fun h => h)⟩))
          (first
            | (go_at_call 23; refine (crash_any _ bd Fd s 100000 v1 l1 HDD.out HSF.out (by decide) HQ1.out).mono ?_; rintro e w5 ⟨c5, rfl, h5, k5⟩)
            | (go_at_call 24; refine (rcrash_any _ bm Fm s 100000 v1 l1 (HRR.out.keep k5 (fun _ _ e => e)) HSF.out (by decide) (HQ1.out.keep k5)).mono ?_; rintro e w6 ⟨c6, rfl, h6, k6⟩))
        obtain ⟨w7, hw7⟩ : ∃ w7, w7 = w6.alloc (.cells #[.pointer (some ⟨c5, 0, none⟩), .pointer (some ⟨c6, 0, none⟩)] 30) := ⟨_, rfl⟩
        have hd7 := desk_made wr.drew w5 w6 w7 c5 c6 (s.crash l1) (DiskIn.of_grow h5) (k5.any _) h6 k6 hw7
        have D7 := Lib.hid hd7.1
        have kr7 : Keeps noBlock wr w7 := (((Keeps.refl noBlock wr).drew.trans' k5 (fun _ _ h => h)).trans' k6 (fun _ _ h => h)).trans' (T := noBlock) (by rw [hw7]; exact (Keeps.refl _ _).alloc _) (fun _ _ h => h)
        have K7 := Lib.hid kr7
        have X7 := Lib.hid (HD.out.still kr7)
        have e0 := kr7.cell e0 (fun h => h)
        have e1 := kr7.cell e1 (fun h => h)
        have HDD := Lib.hid (HDD0.out.keep kr7 (fun _ _ e => e))
        have HRR := Lib.hid (HRR0.out.keep kr7 (fun _ _ e => e))
        have HW7 := Lib.hid hw7
        clear hd7 hw7 kr7 h5 k5 h6 k6
        go_wp2_with fail
        rw [← HW7.out]
        have HDD := Lib.hid (HDD.out.keep (Keeps.refl noBlock w7).drew (fun _ _ e => e)); have HRR := Lib.hid (HRR.out.keep (Keeps.refl noBlock w7).drew (fun _ _ e => e))
        go_region_held3 (fun w' => w'.cell? ⟨x, 0, none⟩ = some (.pointer (some ⟨bd, 0, none⟩)) ∧ w'.cell? ⟨x, 1, none⟩ = some (.pointer (some ⟨bm, 0, none⟩)))
          (first
            | go_keep
            | (go_split_ands; exact ⟨ky4.cell (by assumption) (fun h => h), ky4.cell (by assumption) (fun h => h)⟩)
            | (go_split_ands; exact ⟨ky3.cell (by assumption) (fun h => h), ky3.cell (by assumption) (fun h => h)⟩)
            | (go_split_ands; exact ⟨ky2.cell (by assumption) (fun h => h), ky2.cell (by assumption) (fun h => h)⟩)
            | (go_split_ands; exact ⟨ky1.cell (by assumption) (fun h => h), ky1.cell (by assumption) (fun h => h)⟩))
          (first
            | (go_at_call 25; have _t := tok1; refine (survive_any n2 _ hn20 hn21).mono ?_; clear _t tok1; rintro e y1 ⟨sv1, rfl, sq1, ky1⟩)
            | (go_at_call 23; refine (crash_any _ bd Fd s 100000 sv1 (surviveL n2) (HDD.out.keep ky1 (fun _ _ e => e)) HSF.out (by decide) sq1).mono ?_; rintro e y2 ⟨d5, rfl, h5, ky2⟩)
            | (go_at_call 25; refine (survive_any n2 _ hn20 hn21).mono ?_; rintro e y3 ⟨sv2, rfl, sq2, ky3⟩)
            | (go_at_call 24; refine (rcrash_any _ bm Fm s 100000 sv2 (surviveL n2) (((HRR.out.keep ky1 (fun _ _ e => e)).keep ky2 (fun _ _ e => e)).keep ky3 (fun _ _ e => e)) HSF.out (by decide) sq2).mono ?_; rintro e y4 ⟨d6, rfl, h6, ky4⟩))
        obtain ⟨w8, hw8⟩ : ∃ w8, w8 = y4.alloc (.cells #[.pointer (some ⟨d5, 0, none⟩), .pointer (some ⟨d6, 0, none⟩)] 30) := ⟨_, rfl⟩
        have hd5 : DiskIn y3 d5 y1.heap.size y3.heap.size (s.crash (surviveL n2)) := ((DiskIn.of_grow h5).still ky3).wide ky3.size
        have hd8 := desk_made y1 y3 y4 w8 d5 d6 (s.crash (surviveL n2)) hd5 ((ky2.trans ky3).any _) h6 ky4 hw8
        have k8 : Keeps noBlock w7 w8 := (((((Keeps.refl noBlock w7).drew).trans ky1).trans ky2).trans ky3).trans (ky4.trans (by rw [hw8]; exact (Keeps.refl _ _).alloc _))
        have D8 := Lib.hid hd8.1
        have E8 := Lib.hid (D7.out.still k8)
        have X8 := Lib.hid (X7.out.still k8)
        have K8 := Lib.hid (K7.out.trans k8)
        have HW8 := Lib.hid hw8
        have HF1 := Lib.hid (HSF.out.crash l1)
        have HF2 := Lib.hid (HSF.out.crash (surviveL n2))
        clear hd5 hd8 k8 hw8 h5 h6 ky1 ky2 ky3 ky4 sq1 sq2 e0 e1
        go_wp2_with fail
        rw [← HW8.out]
        refine (same_in w8 w6.heap.size _ _ _ _ E8.out HF1.out).mono ?_
        rintro e z1 ⟨rfl, kz1⟩
        have D8 := Lib.hid (D8.out.still kz1)
        have X8 := Lib.hid (X8.out.still kz1)
        have K8 := Lib.hid (K8.out.trans kz1)
        clear kz1
        go_wp2_with fail
        refine (same_in z1 y4.heap.size _ _ _ _ D8.out HF2.out).mono ?_
        rintro e z2 ⟨rfl, kz2⟩
        have X8 := Lib.hid (X8.out.still kz2)
        have K8 := Lib.hid (K8.out.trans kz2)
        clear kz2
        go_wp2_with fail
        refine (same_in z2 x _ _ _ _ X8.out HSF.out).mono ?_
        rintro e z3 ⟨rfl, kz3⟩
        have K8 := Lib.hid (K8.out.trans kz3)
        clear kz3
        go_wp2_with fail
        go_ret
        exact ⟨rfl, (HKR.out.trans (K8.out.any _)).below (Nat.le_refl _) (fun k hk e => by have : w.heap.size ≤ k := e; omega)⟩
      · clear hend
        go_wp2_with fail
        have tok1 : True := trivial
        have tok2 : True := trivial
        go_region_held3 (fun w' => w'.cell? ⟨x, 0, none⟩ = some (.pointer (some ⟨bd, 0, none⟩)) ∧ w'.cell? ⟨x, 1, none⟩ = some (.pointer (some ⟨bm, 0, none⟩)))
          (first
            | go_keep
            | (go_split_ands; exact ⟨k6.cell (by assumption) (fun h => h), k6.cell (by assumption) (fun h => h)⟩)
            | (go_split_ands; exact ⟨k5.cell (by assumption) (fun h => h), k5.cell (by assumption) (fun h => h)⟩))
          (first
            | (go_at_call 23; refine (crash_any _ bd Fd s 100000 v1 l1 HDD.out HSF.out (by decide) HQ1.out).mono ?_; rintro e w5 ⟨c5, rfl, h5, k5⟩)
            | (go_at_call 24; refine (rcrash_any _ bm Fm s 100000 v1 l1 (HRR.out.keep k5 (fun _ _ e => e)) HSF.out (by decide) (HQ1.out.keep k5)).mono ?_; rintro e w6 ⟨c6, rfl, h6, k6⟩))
        obtain ⟨w7, hw7⟩ : ∃ w7, w7 = w6.alloc (.cells #[.pointer (some ⟨c5, 0, none⟩), .pointer (some ⟨c6, 0, none⟩)] 30) := ⟨_, rfl⟩
        have hd7 := desk_made wr.drew w5 w6 w7 c5 c6 (s.crash l1) (DiskIn.of_grow h5) (k5.any _) h6 k6 hw7
        have D7 := Lib.hid hd7.1
        have kr7 : Keeps noBlock wr w7 := (((Keeps.refl noBlock wr).drew.trans' k5 (fun _ _ h => h)).trans' k6 (fun _ _ h => h)).trans' (T := noBlock) (by rw [hw7]; exact (Keeps.refl _ _).alloc _) (fun _ _ h => h)
        have K7 := Lib.hid kr7
        have X7 := Lib.hid (HD.out.still kr7)
        have e0 := kr7.cell e0 (fun h => h)
        have e1 := kr7.cell e1 (fun h => h)
        have HDD := Lib.hid (HDD0.out.keep kr7 (fun _ _ e => e))
        have HRR := Lib.hid (HRR0.out.keep kr7 (fun _ _ e => e))
        have HW7 := Lib.hid hw7
        clear hd7 hw7 kr7 h5 k5 h6 k6
        go_wp2_with fail
        rw [← HW7.out]
        have HDD := Lib.hid (HDD.out.keep (Keeps.refl noBlock w7).drew (fun _ _ e => e)); have HRR := Lib.hid (HRR.out.keep (Keeps.refl noBlock w7).drew (fun _ _ e => e))
        go_region_held3 (fun w' => w'.cell? ⟨x, 0, none⟩ = some (.pointer (some ⟨bd, 0, none⟩)) ∧ w'.cell? ⟨x, 1, none⟩ = some (.pointer (some ⟨bm, 0, none⟩)))
          (first
            | go_keep
            | (go_split_ands; exact ⟨ky4.cell (by assumption) (fun h => h), ky4.cell (by assumption) (fun h => h)⟩)
            | (go_split_ands; exact ⟨ky3.cell (by assumption) (fun h => h), ky3.cell (by assumption) (fun h => h)⟩)
            | (go_split_ands; exact ⟨ky2.cell (by assumption) (fun h => h), ky2.cell (by assumption) (fun h => h)⟩)
            | (go_split_ands; exact ⟨ky1.cell (by assumption) (fun h => h), ky1.cell (by assumption) (fun h => h)⟩))
          (first
            | (go_at_call 25; have _t := tok1; refine (survive_any n2 _ hn20 hn21).mono ?_; clear _t tok1; rintro e y1 ⟨sv1, rfl, sq1, ky1⟩)
            | (go_at_call 23; refine (crash_any _ bd Fd s 100000 sv1 (surviveL n2) (HDD.out.keep ky1 (fun _ _ e => e)) HSF.out (by decide) sq1).mono ?_; rintro e y2 ⟨d5, rfl, h5, ky2⟩)
            | (go_at_call 25; refine (survive_any n2 _ hn20 hn21).mono ?_; rintro e y3 ⟨sv2, rfl, sq2, ky3⟩)
            | (go_at_call 24; refine (rcrash_any _ bm Fm s 100000 sv2 (surviveL n2) (((HRR.out.keep ky1 (fun _ _ e => e)).keep ky2 (fun _ _ e => e)).keep ky3 (fun _ _ e => e)) HSF.out (by decide) sq2).mono ?_; rintro e y4 ⟨d6, rfl, h6, ky4⟩))
        obtain ⟨w8, hw8⟩ : ∃ w8, w8 = y4.alloc (.cells #[.pointer (some ⟨d5, 0, none⟩), .pointer (some ⟨d6, 0, none⟩)] 30) := ⟨_, rfl⟩
        have hd5 : DiskIn y3 d5 y1.heap.size y3.heap.size (s.crash (surviveL n2)) := ((DiskIn.of_grow h5).still ky3).wide ky3.size
        have hd8 := desk_made y1 y3 y4 w8 d5 d6 (s.crash (surviveL n2)) hd5 ((ky2.trans ky3).any _) h6 ky4 hw8
        have k8 : Keeps noBlock w7 w8 := (((((Keeps.refl noBlock w7).drew).trans ky1).trans ky2).trans ky3).trans (ky4.trans (by rw [hw8]; exact (Keeps.refl _ _).alloc _))
        have D8 := Lib.hid hd8.1
        have E8 := Lib.hid (D7.out.still k8)
        have X8 := Lib.hid (X7.out.still k8)
        have K8 := Lib.hid (K7.out.trans k8)
        have HW8 := Lib.hid hw8
        have HF1 := Lib.hid (HSF.out.crash l1)
        have HF2 := Lib.hid (HSF.out.crash (surviveL n2))
        clear hd5 hd8 k8 hw8 h5 h6 ky1 ky2 ky3 ky4 sq1 sq2 e0 e1
        go_wp2_with fail
        rw [← HW8.out]
        refine (same_in w8 w6.heap.size _ _ _ _ E8.out HF1.out).mono ?_
        rintro e z1 ⟨rfl, kz1⟩
        have D8 := Lib.hid (D8.out.still kz1)
        have X8 := Lib.hid (X8.out.still kz1)
        have K8 := Lib.hid (K8.out.trans kz1)
        clear kz1
        go_wp2_with fail
        refine (same_in z1 y4.heap.size _ _ _ _ D8.out HF2.out).mono ?_
        rintro e z2 ⟨rfl, kz2⟩
        have X8 := Lib.hid (X8.out.still kz2)
        have K8 := Lib.hid (K8.out.trans kz2)
        clear kz2
        go_wp2_with fail
        refine (same_in z2 x _ _ _ _ X8.out HSF.out).mono ?_
        rintro e z3 ⟨rfl, kz3⟩
        have K8 := Lib.hid (K8.out.trans kz3)
        clear kz3
        go_wp2_with fail
        go_ret
        exact ⟨rfl, (HKR.out.trans (K8.out.any _)).below (Nat.le_refl _) (fun k hk e => by have : w.heap.size ≤ k := e; omega)⟩
#print axioms crashes_walk
end Go.Proofs.Ytmigbpfeobjhkaa
