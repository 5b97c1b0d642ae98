/-
  The contract of the reference's Read. No condition but on the length.
-/
import Derived.Test.YteikldemppbjpaaGReadL
import Derived.Test.YteikldemppbjpaaGLess
namespace Go.Proofs.Yteikldemppbjpaa
open Go Go.RowKit
set_option linter.unusedVariables false

theorem Keeps.setRow {S : Nat → Prop} {a w : World} (h : Keeps S a w) (g : Nat) (cs : Array Value) (hg : g < a.heap.size → S g) : Keeps S a (w.setRow g cs) :=
  ⟨h.os, h.tape, h.output, by rw [setRow_size]; exact h.size, fun k hk hn => by
    have : k ≠ g := fun e => by subst e; exact hn (hg hk)
    rw [setRow_other _ _ _ _ (by omega)]; exact h.block k hk hn⟩
theorem step_set (o : List UInt8) (k n : Nat) (x : Int) (hx : x = (((o.getD (k / 2) 0).toNat * 16 + n) % 256 : Nat)) :
    (bvs o).toArray.setIfInBounds (k / 2) (.int .u8 x) = (bvs (stepB o k n)).toArray := by
  rw [List.setIfInBounds_toArray]
  congr 1
  unfold bvs stepB
  rw [List.map_set]
  congr 1
  rw [hx]
  unfold bv
  rw [UInt8.toNat_ofNat']
def zerosV : Array Value := (bvs (List.replicate 32 0)).toArray
def RReadRel (w w2 : World) (l : List UInt8) (i : Value) (wr : World) : Prop :=
  ∃ (k : Nat) (o : List UInt8), i = .int .i64 (k : Int) ∧ k ≤ 64 ∧ o.length = 32 ∧ rd (List.replicate 32 0) 0 l = rd o k (l.drop k) ∧ wr.heap[w.heap.size + 1]? = some (.cells (bvs o).toArray 24 (0, 0)) ∧ Keeps (fun x => x = w.heap.size + 1) w2 wr
def NibRel (c : UInt8) (wr : World) (n i : Value) (wq : World) : Prop :=
  ∃ j : Nat, i = .int .i64 (j : Int) ∧ j ≤ 16 ∧ n = .int .i64 (nAt c j) ∧ Keeps noBlock wr wq

set_option maxRecDepth 100000 in
set_option maxHeartbeats 1000000 in
theorem rread_any (l : List UInt8) (w : World) (hl : l.length ≤ 9223372036854775807) : Calls Try.prog 19 #[.string (str l)] w fun e w' => e = .returned (.tuple #[.agg (bvs (readL l).1).toArray, .bool (readL l).2]) ∧ Keeps noBlock w w' := by
  have h1 : ((w.alloc (.cells zerosV 24)).alloc (.cells zerosV 24)).heap[w.heap.size]? = some (.cells zerosV 24 (0, 0)) := heap_alloc_at0
  have h2 : ((w.alloc (.cells zerosV 24)).alloc (.cells zerosV 24)).heap[w.heap.size + 1]? = some (.cells zerosV 24 (0, 0)) := heap_alloc_at1
  obtain ⟨w2, hw2⟩ : ∃ w2, w2 = (w.alloc (.cells zerosV 24)).alloc (.cells zerosV 24) := ⟨_, rfl⟩
  rw [← hw2] at h1 h2
  have z2 : w2.heap.size = w.heap.size + 2 := by rw [hw2]; simp
  have k2 : Keeps noBlock w w2 := by rw [hw2]; exact ((Keeps.refl _ _).alloc _).alloc _
  have hz : (#[Value.int IntKind.u8 0, Value.int IntKind.u8 0, Value.int IntKind.u8 0, Value.int IntKind.u8 0, Value.int IntKind.u8 0, Value.int IntKind.u8 0, Value.int IntKind.u8 0, Value.int IntKind.u8 0, Value.int IntKind.u8 0, Value.int IntKind.u8 0, Value.int IntKind.u8 0, Value.int IntKind.u8 0, Value.int IntKind.u8 0, Value.int IntKind.u8 0, Value.int IntKind.u8 0, Value.int IntKind.u8 0, Value.int IntKind.u8 0, Value.int IntKind.u8 0, Value.int IntKind.u8 0, Value.int IntKind.u8 0, Value.int IntKind.u8 0, Value.int IntKind.u8 0, Value.int IntKind.u8 0, Value.int IntKind.u8 0, Value.int IntKind.u8 0, Value.int IntKind.u8 0, Value.int IntKind.u8 0, Value.int IntKind.u8 0, Value.int IntKind.u8 0, Value.int IntKind.u8 0, Value.int IntKind.u8 0, Value.int IntKind.u8 0] : Array Value) = zerosV := rfl
  have hsz : ∀ o : List UInt8, o.length = 32 → (Try.prog.info? 24).map (·.size) = some (bvs o).toArray.size := fun o ho => by rw [List.size_toArray, length_bvs, ho]; kernel_rfl
  have hzs : (Try.prog.info? 24).map (·.size) = some zerosV.size := hsz _ List.length_replicate
  have hza : zerosV.all (·.oneCell') = true := all_oneCell_toArray (oneCell_bvs _)
  have hss := size_str l
  have HZ := Lib.hid hz; have HW2 := Lib.hid hw2; have H1 := Lib.hid h1; have H2 := Lib.hid h2; have K2 := Lib.hid k2; have HSZ := Lib.hid hsz; have HZS := Lib.hid hzs; have HZA := Lib.hid hza; have Z2 := Lib.hid z2
  clear hz hw2 h1 h2 k2 hsz hzs hza z2
  by_cases hs : l.length = 64
  · rw [hs] at hss
    have HS := Lib.hid hs
    clear hl hs
    go_enter Try.func19, Try.ntmps19
    go_wp2_with fail
    rw [HZ.out, ← HW2.out]
    go_loopw [5] (RReadRel w w2 l) (fun i _ => 64 - (intOf i).toNat)
    case atStart => exact ⟨0, _, rfl, by omega, List.length_replicate, rfl, H2.out, Keeps.refl _ _⟩
    case round =>
      obtain ⟨k, o, rfl, hk, ho, hrd, hh, hkr⟩ := hrel
      have hk0 : (0 : Int) ≤ (k : Int) := by omega
      by_cases hlt : k < 64
      · have hk1 : (k : Int) < 64 := by omega
        obtain ⟨c, hc⟩ : ∃ c, c = l.getD k 0 := ⟨_, rfl⟩
        rw [drop_getD l k (by rw [HS.out]; exact hlt), ← hc] at hrd
        have d2 : ∀ W, (Instr.index 9 (.string (str l)) (.int .i64 (k : Int))).run Try.prog W = .ok (.int .u8 (c.toNat : Int)) W := fun W => by
          rw [hc]
          exact run_index_strk (P := Try.prog) 9 Try.underlying9 l _ k .i64 rfl (by rw [HS.out]; exact hlt) W
        have HO := Lib.hid ho; have HRD := Lib.hid hrd; have HH := Lib.hid hh; have HKR := Lib.hid hkr
        have hg1 : wr.heap[w.heap.size]? = some (.cells zerosV 24 (0, 0)) := hkr.heap H1.out (fun e => by omega)
        have HG1 := Lib.hid hg1
        have KO := Lib.hid (show Keeps noBlock w wr from K2.out.trans' hkr (fun k hk e => by have e : k = w.heap.size + 1 := e; omega))
        clear hc ho hrd hh hkr hg1
        go_wp2_with fail
        go_loopw [6, 7] (NibRel c wr) (fun _ i _ => 16 - (intOf i).toNat)
        case atStart => exact ⟨0, rfl, by omega, rfl, Keeps.refl _ _⟩
        case round =>
          obtain ⟨j, rfl, hj, rfl, hkq⟩ := hrel
          have HKQ := Lib.hid hkq
          clear hkq
          have hj0 : (0 : Int) ≤ (j : Int) := by omega
          by_cases hjt : j < 16
          · have hj1 : (j : Int) < 16 := by omega
            obtain ⟨dj, hdj⟩ : ∃ d, d = digs.getD j 0 := ⟨_, rfl⟩
            have d1 : ∀ W, (Instr.index 9 (.string ⟨#[48, 49, 50, 51, 52, 53, 54, 55, 56, 57, 97, 98, 99, 100, 101, 102]⟩) (.int .i64 (j : Int))).run Try.prog W = .ok (.int .u8 (dj.toNat : Int)) W := fun W => by
              rw [hdj]
              exact run_index_strk (P := Try.prog) 9 Try.underlying9 digs _ j .i64 rfl (by show j < 16; exact hjt) W
            obtain ⟨nv, hnv⟩ : ∃ n, n = nAt c j := ⟨_, rfl⟩
            rw [← hnv]
            have hnx : nAt c (j + 1) = if dj = c then (j : Int) else nv := by rw [nAt, ← hdj, ← hnv]
            have HNX := Lib.hid hnx
            clear hnv hnx hdj
            by_cases hdc : dj.toNat = c.toNat
            · have e := Lib.hid (UInt8.toNat_inj.1 hdc)
              go_wp2_with fail
              apply wp_oneEnd
              · go_region
                all_goals exact ⟨rfl, rfl⟩
              go_wp2_with fail
              go_roundw
              case rel => exact ⟨j + 1, by simp, hjt, by rw [HNX.out, if_pos e.out], HKQ.out.drew⟩
              case measure => simp [intOf]; omega
            · have e := Lib.hid (show ¬ dj = c from fun h => hdc (by rw [h]))
              go_wp2_with fail
              apply wp_oneEnd
              · go_region
                all_goals exact ⟨rfl, rfl⟩
              go_wp2_with fail
              go_roundw
              case rel => exact ⟨j + 1, by simp, hjt, by rw [HNX.out, if_neg e.out], HKQ.out.drew⟩
              case measure => simp [intOf]; omega
          · obtain rfl : j = 16 := by omega
            have hj1 : ¬ ((16 : Nat) : Int) < 16 := by omega
            obtain ⟨m, hm⟩ : ∃ m, m = hv c := ⟨_, rfl⟩
            rw [nAt_all, ← hm]
            have hr := hv_range c
            rw [← hm] at hr
            have HM := Lib.hid hm
            clear hm d2
            have hh2 := HKQ.out.heap HH.out (fun e => e)
            have HH2 := Lib.hid hh2
            have hg2 := HKQ.out.heap HG1.out (fun e => e)
            have HG2 := Lib.hid hg2
            clear hh2 hg2
            by_cases hneg : m < 0
            · go_wp2_with (first
                | (refine wpList_build_as rfl _ _ rfl zerosV (by kernel_rfl) ?_)
                | (refine wpList_store_row rfl _ _ _ rfl w.heap.size zerosV rfl rfl _ _ HG2.out HZS.out rfl HZA.out ?_))
              have hno : rd (List.replicate 32 0) 0 l = none := by rw [HRD.out, rd, if_pos (by rw [← HM.out]; exact hneg)]
              have hrl : readL l = (List.replicate 32 0, false) := by unfold readL; rw [if_pos HS.out, hno]
              exact bodyPost_ret (results_cell_tmp rfl _ _ w.heap.size _ zerosV (0, 0) _ rfl (setRow_heap _ _ _ _ _ _ HG2.out) Try.underlying24 rfl HZS.out) rfl ⟨by rw [hrl]; rfl, (KO.out.trans HKQ.out).setRow _ _ (fun h => absurd h (Nat.lt_irrefl _))⟩
            · obtain ⟨n, rfl⟩ : ∃ n : Nat, m = (n : Int) := ⟨m.toNat, by omega⟩
              have hn16 : n < 16 := by omega
              have hq : (k : Int).tdiv 2 = ((k / 2 : Nat) : Int) := by rw [Int.tdiv_eq_ediv_of_nonneg (by omega)]; omega
              have hq' : (k : Int) / 2 = ((k / 2 : Nat) : Int) := by omega
              have hcell := hash_cell HH2.out (k / 2) (by rw [HO.out]; omega)
              have hf := frozen_of_heap HH2.out (k / 2)
              have hst := step_set o k n
              obtain ⟨kq, hkq⟩ : ∃ q, q = k / 2 := ⟨_, rfl⟩
              obtain ⟨ov, hov⟩ : ∃ q, q = (o.getD (k / 2) 0).toNat := ⟨_, rfl⟩
              rw [← hov] at hcell hst
              rw [← hkq] at hq hq' hcell hf hst
              have hkq0 : (0 : Int) ≤ (kq : Int) := by omega
              have hkq1 : (kq : Int) < 32 := by omega
              have HST := Lib.hid hst
              clear hst hov hkq
              go_wp2_with fail
              go_roundw
              case rel =>
                refine ⟨k + 1, stepB o k n, by simp, hlt, by rw [stepB_length]; exact HO.out, ?_, ?_, (HKR.out.trans (HKQ.out.any' _)).setCell (fun _ => rfl) _⟩
                · rw [HRD.out, rd, if_neg (by rw [← HM.out]; exact hneg), ← HM.out, Int.toNat_natCast]
                · rw [heap_set HH2.out, HST.out]
                  omega
              case measure => simp [intOf]; omega
      · obtain rfl : k = 64 := by omega
        have hk1 : ¬ ((64 : Nat) : Int) < 64 := by omega
        have hso : rd (List.replicate 32 0) 0 l = some o := by rw [hrd, List.drop_eq_nil_of_le (by rw [HS.out]; exact Nat.le_refl _), rd]
        have hrl : readL l = (o, true) := by unfold readL; rw [if_pos HS.out, hso]
        have hg1 : wr.heap[w.heap.size]? = some (.cells zerosV 24 (0, 0)) := hkr.heap H1.out (fun e => by omega)
        have KO := Lib.hid (show Keeps noBlock w wr from K2.out.trans' hkr (fun k hk e => by have e : k = w.heap.size + 1 := e; omega))
        have HRL := Lib.hid hrl; have HG1 := Lib.hid hg1; have HH := Lib.hid hh
        have HSO := Lib.hid (HSZ.out o ho); have HZO := Lib.hid (show zerosV.size = (bvs o).toArray.size from (show zerosV.size = 32 from rfl).trans (by rw [List.size_toArray, length_bvs, ho]))
        clear hrl hg1 hh hso hrd hkr ho
        go_wp2_with (first
          | (refine wpList_load_row rfl _ _ rfl (w.heap.size + 1) rfl _ (bvs o).toArray (0, 0) _ HH.out Try.underlying24 rfl HSO.out ?_)
          | (refine wpList_store_row rfl _ _ _ rfl w.heap.size (bvs o).toArray rfl rfl _ _ HG1.out HSO.out HZO.out (all_oneCell_toArray (oneCell_bvs _)) ?_))
        exact bodyPost_ret (results_cell_tmp rfl _ _ w.heap.size _ (bvs o).toArray (0, 0) _ rfl (setRow_heap _ _ _ _ _ _ HG1.out) Try.underlying24 rfl HSO.out) rfl ⟨by rw [HRL.out]; rfl, KO.out.setRow _ _ (fun h => absurd h (Nat.lt_irrefl _))⟩
  · obtain ⟨n, hn⟩ : ∃ n, n = l.length := ⟨_, rfl⟩
    have hrl : readL l = (List.replicate 32 0, false) := by unfold readL; rw [if_neg hs]
    have HRL := Lib.hid hrl
    rw [← hn] at hss hs hl
    have hsi : ¬ (n : Int) = 64 := by omega
    clear hn hrl
    go_enter Try.func19, Try.ntmps19
    go_wp2_with (first
      | (refine wpList_load_row rfl _ _ rfl (w.heap.size + 1) rfl _ zerosV (0, 0) _ (by rw [HZ.out, ← HW2.out]; exact H2.out) Try.underlying24 rfl HZS.out ?_)
      | (refine wpList_store_row rfl _ _ _ rfl w.heap.size zerosV rfl rfl _ _ (by rw [HZ.out, ← HW2.out]; exact H1.out) HZS.out rfl HZA.out ?_))
    rw [HZ.out, ← HW2.out]
    exact bodyPost_ret (results_cell_tmp rfl _ _ w.heap.size _ zerosV (0, 0) _ rfl (setRow_heap _ _ _ _ _ _ H1.out) Try.underlying24 rfl HZS.out) rfl ⟨by rw [HRL.out]; rfl, K2.out.setRow _ _ (fun h => absurd h (Nat.lt_irrefl _))⟩
end Go.Proofs.Yteikldemppbjpaa
