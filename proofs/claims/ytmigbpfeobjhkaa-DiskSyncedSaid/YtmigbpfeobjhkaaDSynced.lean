/-
  DiskSynced: the law's walk: it returns true, and writes nothing that was there. No condition.
-/
import Derived.Test.YtmigbpfeobjhkaaDPlays
import Derived.Test.YtmigbpfeobjhkaaDLaws2
namespace Go.Proofs.Ytmigbpfeobjhkaa
open Go Go.RowKit Go.ChangeShapes Go.WideShapes Go.ChangeAt
attribute [local go_sem ↓] Go.wp_at_zero Go.wp_at_succ
set_option linter.unusedVariables false

/-- the state in the loop of DiskSynced -/
def SyncSt (k : Nat) (s : DS) : Prop := s.lim = none ∧ s.now.length ≤ 203 ∧ s.Fine (201 * k)
theorem sync_start : SyncSt 0 DS.zero := ⟨rfl, by simp [DS.zero], DS.Fine.zero⟩
theorem sync_act (k : Nat) (s : DS) (o n : Int) (t : List UInt8) (h : SyncSt k s) : SyncSt (k + 1) (s.act 0 (o.tmod 4) n t) := by
  obtain ⟨h1, h2, h3⟩ := h
  have ho0 := Int.lt_tmod_of_pos o (show (0 : Int) < 4 by decide)
  have ho1 := Int.tmod_lt_of_pos o (show (0 : Int) < 4 by decide)
  refine ⟨?_, ?_, (h3.act _ _ _ _).mono (by omega)⟩
  · simp only [DS.act, Int.zero_emod, Int.reduceEq, if_false]
    unfold DS.write
    split
    · simp [DS.wrote, DS.counted, h1]
    · exact h1
  · simp only [DS.act, Int.zero_emod, Int.reduceEq, if_false]
    unfold DS.write
    split
    · rename_i hf
      simp only [Bool.and_eq_true, fits, decide_eq_true_eq] at hf
      have hw : whereL (o.tmod 4) ≤ 3 := by unfold whereL; split <;> omega
      have := length_longL n t
      simp only [DS.wrote, length_putL]
      omega
    · exact h2
/-- the loop of DiskSynced -/
def SyncRel (w0 : World) (x : Nat) (l : List ActD) (i : Value) (wr : World) : Prop :=
  ∃ (k : Nat) (s : DS), i = .int .i64 k ∧ k ≤ l.length ∧ k ≤ 10 ∧ SyncSt k s ∧ DeskIn wr x w0.heap.size wr.heap.size s ∧ Keeps (from_ w0.heap.size) w0 wr

set_option maxHeartbeats 1000000 in
theorem synced_walk (l0 : List ActD) (v0 : Value) (q0 q1 : Int) (l2 : List Int) (v2 : Value) (w : World) (hl0 : Acts w v0 l0) (hq0 : inI64 q0) (hq1 : inI64 q1) (hl2 : Ints w v2 l2) :
    Calls Try.prog 6 #[v0, .agg #[.int .i64 q0, .int .i64 q1], v2] w fun e w' => e = .returned (.bool true) ∧ Below w.heap.size w w' := by
  obtain ⟨o0, cap0, rfl, hlc0, hcm0, hcells0, hfit0⟩ := hl0
  have HC0 := Lib.hid hcells0
  have HFT0 := Lib.hid hfit0
  clear hcells0 hfit0
  have HQ2 := Lib.hid hl2
  clear hl2
  go_enter Try.func6, Try.ntmps6
  go_wp2_with fail
  obtain ⟨w0, hw0⟩ : ∃ w0, w0 = w.alloc (.cells #[.int .i64 q0, .int .i64 q1] 42) := ⟨_, rfl⟩
  obtain ⟨hp, k0, z0⟩ := box_two w w0 q0 q1 _ hw0
  rw [← hw0]
  have HP := Lib.hid hp
  have K0 := Lib.hid k0
  clear hp k0 hw0
  refine (sanity_any w0).mono ?_
  rintro e w1 ⟨rfl, k1⟩
  have K1 := Lib.hid k1; have z1 := k1.size; clear k1
  go_wp2_with fail
  refine (new_in w1).mono ?_
  rintro e w2 ⟨rfl, d2, k2⟩
  have K2 := Lib.hid k2; have D2 := Lib.hid d2; have z2 := k2.size; clear k2 d2
  go_wp2_with fail
  refine (rnew_any w2).mono ?_
  rintro e w3 ⟨rfl, r3, k3⟩
  have K3 := Lib.hid k3; have R3 := Lib.hid r3; have z3 := k3.size; clear k3 r3
  obtain ⟨w4, hw4⟩ : ∃ w4, w4 = w3.alloc (.cells #[.pointer (some ⟨w1.heap.size, 0, none⟩), .pointer (some ⟨w2.heap.size, 0, none⟩)] 30) := ⟨_, rfl⟩
  obtain ⟨x, hx⟩ : ∃ x, x = w3.heap.size := ⟨_, rfl⟩
  have hd4 := desk_made w1 w2 w3 w4 w1.heap.size w2.heap.size DS.zero D2.out K2.out R3.out K3.out hw4
  have k14 : Keeps (from_ w0.heap.size) w0 w4 := (K1.out.any _).trans (hd4.2.lower z1)
  have d4 : DeskIn w4 x w0.heap.size w4.heap.size DS.zero := by
    rw [hx]
    obtain ⟨F, hF, h⟩ := hd4.1
    exact ⟨F, fun k e => ⟨Nat.le_trans z1 (hF k e).1, (hF k e).2⟩, h⟩
  have z4 := k14.size
  have K4 := Lib.hid k14
  have D4 := Lib.hid d4
  have HW4 := Lib.hid hw4
  have HX := Lib.hid hx
  clear hd4 hw4 k14 d4 hx
  go_wp2_with fail
  rw [← HW4.out, ← HX.out]
  clear K2 D2 z2 K3 R3 z3
  go_loopw [9] (SyncRel w0 x l0) (fun i _ => l0.length - (intOf i).toNat)
  case atStart => exact ⟨0, DS.zero, rfl, Nat.zero_le _, by omega, sync_start, D4.out, K4.out⟩
  case round =>
    obtain ⟨k, s, rfl, hkl, hk40, hss, hd, hkr⟩ := hrel
    have HD := Lib.hid hd
    have HKR := Lib.hid hkr
    have HSS := Lib.hid hss
    have zr := hkr.size
    have HKW := Lib.hid ((K0.out.any (from_ w.heap.size)).trans (hkr.lower (Nat.le_of_lt z0)))
    clear hd hkr hss
    by_cases hlt : k < l0.length ∧ k < 10
    · obtain ⟨hlt, hlt15⟩ := hlt
      obtain ⟨b0, off0, hb0, hcell⟩ := HC0.out (by omega)
      subst hb0
      have hbw : b0 < w.heap.size := World.block_lt_of_cell? w _ (hcell k hlt).1
      obtain ⟨c0, c1, c2, c3⟩ := hcell k hlt
      have hnb : ¬ from_ w.heap.size b0 := fun e => by have : w.heap.size ≤ b0 := e; omega
      have c0 := HKW.out.cell c0 hnb
      have c1 := HKW.out.cell c1 hnb
      have c2 := HKW.out.cell c2 hnb
      have c3 := HKW.out.cell c3 hnb
      have hf := HFT0.out l0[k] (List.getElem_mem hlt)
      obtain ⟨ad, had⟩ : ∃ ad, l0[k] = ad := ⟨_, rfl⟩
      have HAD := Lib.hid had
      rw [had] at c0 c1 c2 c3 hf
      obtain ⟨ak, ao, an, at_⟩ := ad
      obtain ⟨⟨hk0, hk1⟩, ⟨ho0, ho1⟩, ⟨hn0, hn1⟩, ht⟩ := hf
      simp only at c0 c1 c2 c3 hk0 hk1 ho0 ho1 hn0 hn1 ht
      have hi1 : (k : Int) < (l0.length : Int) := by omega
      clear had hnb hcell
      have hto0 := Int.lt_tmod_of_pos ao (show (0 : Int) < 4 by decide)
      have hto1 := Int.tmod_lt_of_pos ao (show (0 : Int) < 4 by decide)
      obtain ⟨yo, hyo⟩ : ∃ yo, ao.tmod 4 = yo := ⟨_, rfl⟩
      have HYO := Lib.hid hyo
      rw [hyo] at hto0 hto1
      have hi2 : (k : Int) < 10 := by omega
      clear hyo
      have HNB0 := Lib.hid (show ¬ from_ w0.heap.size b0 from fun e => by have : w0.heap.size ≤ b0 := e; omega)
      have HDR := Lib.hid (show DeskIn wr.drew x w0.heap.size wr.heap.size s from HD.out.still (Keeps.refl noBlock wr).drew)
      go_wp2_with fail
      go_region_held3 (fun w' => w'.cell? ⟨b0, off0 + k * 4 + 1, none⟩ = some (.int .i64 ao) ∧ w'.cell? ⟨b0, off0 + k * 4 + 2, none⟩ = some (.int .i64 an) ∧ w'.cell? ⟨b0, off0 + k * 4 + 3, none⟩ = some (.string (str at_)))
        (first
          | go_keep
          | (go_split_ands; exact ⟨k5.cell (by assumption) HNB0.out, k5.cell (by assumption) HNB0.out, k5.cell (by assumption) HNB0.out⟩))
        (first
          | (go_at_call 16; (try rw [HYO.out]); refine (do_in _ x w0.heap.size _ s _ 0 yo an at_ HDR.out HSS.out.2.2 (by omega) zr (by omega) hn0 hn1 ht).mono ?_; rintro e w5 ⟨rfl, d5, k5⟩))
      have k5 : Keeps (from_ w0.heap.size) wr w5 := (((Keeps.refl noBlock wr).drew).any _).trans k5
      have hs5 := sync_act k s ao an at_ HSS.out
      rw [HYO.out] at hs5
      have D5 := Lib.hid d5
      have K5 := Lib.hid k5
      have HS5 := Lib.hid hs5
      clear d5 k5 hs5
      go_wp2_with fail
      go_roundw
      case rel => exact ⟨k + 1, _, by simp, by omega, by omega, HS5.out, D5.out, HKR.out.trans K5.out⟩
      case measure => simp [intOf]; omega
    · have hend : ¬ (k : Int) < l0.length ∨ ¬ (k : Int) < 10 := by omega
      obtain ⟨bd, bm, Fd, Fm, e0, e1, hdd, hrr, hFd, hFm, hdis, hxd, hxm, hx0, hx1⟩ := DeskIn.open2 HD.out
      have HDD := Lib.hid hdd; have HFd := Lib.hid hFd; have HXD := Lib.hid hxd
      have A1 := Lib.hid (syncR_ok s HSS.out.1)
      obtain ⟨nn, hnn⟩ : ∃ nn, s.now.length = nn := ⟨_, rfl⟩
      have HNN := Lib.hid hnn
      have hnl : nn ≤ 203 := by rw [← hnn]; exact HSS.out.2.1
      obtain ⟨r0, hr0⟩ : ∃ r : Nat, q0 % 100 = r := ⟨(q0 % 100).toNat, by omega⟩
      have hr100 : r0 < 100 := by omega
      obtain ⟨j, hj⟩ : ∃ r : Nat, q1 % 150 = r := ⟨(q1 % 150).toNat, by omega⟩
      have hj150 : j < 150 := by omega
      have HR0 := Lib.hid hr0
      have HR1 := Lib.hid hj
      obtain ⟨o, ho⟩ : ∃ o : Int, o = nn + r0 := ⟨_, rfl⟩
      have ho1 : o ≤ 9223372036854775807 := by omega
      have hwo : IntKind.i64.wrap ((nn : Int) + (r0 : Int)) = o := by rw [ho]; exact IntWalk.i64_in _ (by omega)
      have HO := Lib.hid ho
      have hll : (List.replicate j (121 : UInt8)).length ≤ 4611686018427387904 := by simp; omega
      have HNB := Lib.hid (show ¬ grow Fd wr wr w.heap.size from fun e => by
        rcases e with e | e
        · have := (hFd _ e).1; omega
        · have := e.1; omega)
      clear hdd hrr hFd hFm hdis hxd hxm hnn hr0 hj ho hlt e1
      by_cases hkl2 : (k : Int) < l0.length
      · have hk2 : ¬ (k : Int) < 10 := hend.resolve_left (fun h => h hkl2)
        clear hend
        go_wp2_with fail
        refine (sync_any wr bd Fd s _ HDD.out HSS.out.2.2 (by omega)).mono ?_
        rintro e w5 ⟨rfl, h5, k5⟩
        rw [A1.out.1]
        have e0 := k5.cell e0 HXD.out
        have hx5 : ¬ grow Fd wr w5 x := fun e => by
          rcases e with e | e
          · exact HXD.out e
          · have : wr.heap.size ≤ x := e.1; omega
        have kk5 : Keeps (from_ w0.heap.size) w0 w5 := HKR.out.trans (k5.mono fun k _ e => (HFd.out k e).1)
        have hF5 : ∀ k, grow Fd wr w5 k → w0.heap.size ≤ k := fun k e => by
          rcases e with e | e
          · exact (HFd.out k e).1
          · have : wr.heap.size ≤ k := e.1; omega
        have HNB := Lib.hid (show ¬ grow Fd wr w5 w.heap.size from fun e => by have := hF5 _ e; omega)
        have D5 := Lib.hid h5; have K5 := Lib.hid kk5; have HX5 := Lib.hid hx5; have HF5 := Lib.hid hF5
        have z5 := k5.size
        clear h5 k5 kk5 hx5 hF5
        go_wp2_with fail
        refine (size_any w5 bd _ _ D5.out).mono ?_
        rintro e w' ⟨rfl, rfl⟩
        rw [A1.out.2.2.2, HNN.out]
        go_wp2_with fail
        refine (read_k w5 bd _ _ 0 nn D5.out (by rw [A1.out.2.2.2, HNN.out]; omega) (by omega)).mono ?_
        rintro e w6 ⟨rfl, k6⟩
        rw [A1.out.2.2.2]
        obtain ⟨bef, hbef⟩ : ∃ bef, bef = readL s.now 0 nn := ⟨_, rfl⟩
        rw [← hbef]
        have HBEF := Lib.hid hbef
        have e0 := k6.cell e0 (fun h => h)
        obtain ⟨p0, p1⟩ := HP.out w6 (K5.out.trans (k6.any _))
        have D6 := Lib.hid ((D5.out.keep k6 (fun _ _ e => e)).keep ((Keeps.refl noBlock w6).drew) (fun _ _ e => e)); have K6 := Lib.hid (K5.out.trans (k6.any _)); have z6 := k6.size
        clear k6 hbef
        have F6 := Lib.hid (HSS.out.2.2.sync)
        go_wp2_with fail
        go_region_held3 (fun w' => w'.cell? ⟨x, 0, none⟩ = some (.pointer (some ⟨bd, 0, none⟩)) ∧ w'.cell? ⟨w.heap.size, 0, none⟩ = some (.int .i64 q0) ∧ w'.cell? ⟨w.heap.size, 1, none⟩ = some (.int .i64 q1))
          (first
            | go_keep
            | (go_split_ands; exact ⟨k8.cell (by assumption) HX5.out, k8.cell (by assumption) HNB.out, k8.cell (by assumption) HNB.out⟩)
            | (go_split_ands; exact ⟨k7.cell (by assumption) (fun h => h), k7.cell (by assumption) (fun h => h), k7.cell (by assumption) (fun h => h)⟩))
          (first
            | (go_at_call_of 22 q0; refine (mod_any q0 100 _ (by decide) (by decide)).mono ?_; rintro e w' ⟨rfl, rfl⟩; rw [HR0.out])
            | (go_at_call_of 22 q1; refine (mod_any q1 150 _ (by decide) (by decide)).mono ?_; rintro e w' ⟨rfl, rfl⟩; rw [HR1.out])
            | (go_at_call 26; refine (repeated_any 121 j _ (by omega)).mono ?_; rintro e w7 ⟨rfl, k7⟩)
            | (go_at_call 27; refine (write_any _ bd _ _ _ o (List.replicate j 121) (D6.out.keep k7 (fun _ _ e => e)) F6.out (by omega) ho1 hll).mono ?_; rintro e w8 ⟨rfl, h8, k8⟩))
        have A3 := Lib.hid (writeR_ok s.sync o (List.replicate j 121) A1.out.2.1 (fits_of _ _ (by have := HO.out; omega) (by have := HO.out; simp; omega)))
        rw [A3.out.1]
        have hk8 : Keeps (from_ w0.heap.size) w0 w8 := ((K6.out.trans (((Keeps.refl noBlock w6).drew).any _)).trans (k7.any _)).trans (k8.mono fun k _ e => HF5.out k e)
        have D8 := Lib.hid h8
        have K8 := Lib.hid hk8
        have HQ8 := Lib.hid ((HQ2.out.keep K0.out).from_ hk8)
        have F8 := Lib.hid (F6.out.write o (List.replicate j 121))
        have e0 : w8.cell? ⟨x, 0, none⟩ = some (.pointer (some ⟨bd, 0, none⟩)) := k8.cell (k7.cell ((Keeps.refl noBlock w6).drew.cell e0 (fun h => h)) (fun h => h)) HX5.out
        clear h8 k8 k7 hk8 p0 p1
        go_wp2_with fail
        refine (crash_any w8 bd _ _ _ v2 l2 D8.out F8.out (by simp; omega) HQ8.out).mono ?_
        rintro e w9 ⟨c9, rfl, h9, k9⟩
        have D9 := Lib.hid h9
        have K9 := Lib.hid k9
        have F9 := Lib.hid (F8.out.crash l2).now
        clear h9 k9
        go_wp2_with fail
        refine (read_k w9 c9 _ _ 0 nn D9.out F9.out (by omega)).mono ?_
        rintro e w10 ⟨rfl, k10⟩
        rw [show readL ((s.sync.write o (List.replicate j 121)).crash l2).now 0 (nn : Int) = bef from by
          rw [HBEF.out, ← HNN.out]
          exact synced_kept s HSS.out.1 o _ (by rw [HNN.out, HO.out]; omega) l2]
        go_wp2_with fail
        go_ret
        exact ⟨rfl, ((K0.out.any (from_ w.heap.size)).trans (((K8.out.trans (K9.out.any _)).trans (k10.any _)).lower (Nat.le_of_lt z0))).below (Nat.le_refl _) (fun k hk e => by have : w.heap.size ≤ k := e; omega)⟩
      · clear hend
        go_wp2_with fail
        refine (sync_any wr bd Fd s _ HDD.out HSS.out.2.2 (by omega)).mono ?_
        rintro e w5 ⟨rfl, h5, k5⟩
        rw [A1.out.1]
        have e0 := k5.cell e0 HXD.out
        have hx5 : ¬ grow Fd wr w5 x := fun e => by
          rcases e with e | e
          · exact HXD.out e
          · have : wr.heap.size ≤ x := e.1; omega
        have kk5 : Keeps (from_ w0.heap.size) w0 w5 := HKR.out.trans (k5.mono fun k _ e => (HFd.out k e).1)
        have hF5 : ∀ k, grow Fd wr w5 k → w0.heap.size ≤ k := fun k e => by
          rcases e with e | e
          · exact (HFd.out k e).1
          · have : wr.heap.size ≤ k := e.1; omega
        have HNB := Lib.hid (show ¬ grow Fd wr w5 w.heap.size from fun e => by have := hF5 _ e; omega)
        have D5 := Lib.hid h5; have K5 := Lib.hid kk5; have HX5 := Lib.hid hx5; have HF5 := Lib.hid hF5
        have z5 := k5.size
        clear h5 k5 kk5 hx5 hF5
        go_wp2_with fail
        refine (size_any w5 bd _ _ D5.out).mono ?_
        rintro e w' ⟨rfl, rfl⟩
        rw [A1.out.2.2.2, HNN.out]
        go_wp2_with fail
        refine (read_k w5 bd _ _ 0 nn D5.out (by rw [A1.out.2.2.2, HNN.out]; omega) (by omega)).mono ?_
        rintro e w6 ⟨rfl, k6⟩
        rw [A1.out.2.2.2]
        obtain ⟨bef, hbef⟩ : ∃ bef, bef = readL s.now 0 nn := ⟨_, rfl⟩
        rw [← hbef]
        have HBEF := Lib.hid hbef
        have e0 := k6.cell e0 (fun h => h)
        obtain ⟨p0, p1⟩ := HP.out w6 (K5.out.trans (k6.any _))
        have D6 := Lib.hid ((D5.out.keep k6 (fun _ _ e => e)).keep ((Keeps.refl noBlock w6).drew) (fun _ _ e => e)); have K6 := Lib.hid (K5.out.trans (k6.any _)); have z6 := k6.size
        clear k6 hbef
        have F6 := Lib.hid (HSS.out.2.2.sync)
        go_wp2_with fail
        go_region_held3 (fun w' => w'.cell? ⟨x, 0, none⟩ = some (.pointer (some ⟨bd, 0, none⟩)) ∧ w'.cell? ⟨w.heap.size, 0, none⟩ = some (.int .i64 q0) ∧ w'.cell? ⟨w.heap.size, 1, none⟩ = some (.int .i64 q1))
          (first
            | go_keep
            | (go_split_ands; exact ⟨k8.cell (by assumption) HX5.out, k8.cell (by assumption) HNB.out, k8.cell (by assumption) HNB.out⟩)
            | (go_split_ands; exact ⟨k7.cell (by assumption) (fun h => h), k7.cell (by assumption) (fun h => h), k7.cell (by assumption) (fun h => h)⟩))
          (first
            | (go_at_call_of 22 q0; refine (mod_any q0 100 _ (by decide) (by decide)).mono ?_; rintro e w' ⟨rfl, rfl⟩; rw [HR0.out])
            | (go_at_call_of 22 q1; refine (mod_any q1 150 _ (by decide) (by decide)).mono ?_; rintro e w' ⟨rfl, rfl⟩; rw [HR1.out])
            | (go_at_call 26; refine (repeated_any 121 j _ (by omega)).mono ?_; rintro e w7 ⟨rfl, k7⟩)
            | (go_at_call 27; refine (write_any _ bd _ _ _ o (List.replicate j 121) (D6.out.keep k7 (fun _ _ e => e)) F6.out (by omega) ho1 hll).mono ?_; rintro e w8 ⟨rfl, h8, k8⟩))
        have A3 := Lib.hid (writeR_ok s.sync o (List.replicate j 121) A1.out.2.1 (fits_of _ _ (by have := HO.out; omega) (by have := HO.out; simp; omega)))
        rw [A3.out.1]
        have hk8 : Keeps (from_ w0.heap.size) w0 w8 := ((K6.out.trans (((Keeps.refl noBlock w6).drew).any _)).trans (k7.any _)).trans (k8.mono fun k _ e => HF5.out k e)
        have D8 := Lib.hid h8
        have K8 := Lib.hid hk8
        have HQ8 := Lib.hid ((HQ2.out.keep K0.out).from_ hk8)
        have F8 := Lib.hid (F6.out.write o (List.replicate j 121))
        have e0 : w8.cell? ⟨x, 0, none⟩ = some (.pointer (some ⟨bd, 0, none⟩)) := k8.cell (k7.cell ((Keeps.refl noBlock w6).drew.cell e0 (fun h => h)) (fun h => h)) HX5.out
        clear h8 k8 k7 hk8 p0 p1
        go_wp2_with fail
        refine (crash_any w8 bd _ _ _ v2 l2 D8.out F8.out (by simp; omega) HQ8.out).mono ?_
        rintro e w9 ⟨c9, rfl, h9, k9⟩
        have D9 := Lib.hid h9
        have K9 := Lib.hid k9
        have F9 := Lib.hid (F8.out.crash l2).now
        clear h9 k9
        go_wp2_with fail
        refine (read_k w9 c9 _ _ 0 nn D9.out F9.out (by omega)).mono ?_
        rintro e w10 ⟨rfl, k10⟩
        rw [show readL ((s.sync.write o (List.replicate j 121)).crash l2).now 0 (nn : Int) = bef from by
          rw [HBEF.out, ← HNN.out]
          exact synced_kept s HSS.out.1 o _ (by rw [HNN.out, HO.out]; omega) l2]
        go_wp2_with fail
        go_ret
        exact ⟨rfl, ((K0.out.any (from_ w.heap.size)).trans (((K8.out.trans (K9.out.any _)).trans (k10.any _)).lower (Nat.le_of_lt z0))).below (Nat.le_refl _) (fun k hk e => by have : w.heap.size ≤ k := e; omega)⟩
#print axioms synced_walk
end Go.Proofs.Ytmigbpfeobjhkaa
