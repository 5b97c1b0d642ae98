/-
  The contract of Read. No condition but on the length.
-/
import Derived.Test.YteikldemppbjpaaGRRead
namespace Go.Proofs.Yteikldemppbjpaa
open Go Go.RowKit
set_option linter.unusedVariables false

theorem index_digits (c : UInt8) (w : World) : Calls Try.prog 30 #[.string ⟨#[48, 49, 50, 51, 52, 53, 54, 55, 56, 57, 97, 98, 99, 100, 101, 102]⟩, .int .u8 (c.toNat : Int)] w fun e w' => e = .returned (.int .i64 (hv c)) ∧ w = w' := by
  refine (Try.strings_IndexByte _ _ w).mono ?_
  rintro e w' ⟨rfl, rfl⟩
  refine ⟨?_, rfl⟩
  rw [Int.toNat_natCast, show c.toNat.toUInt8 = c from UInt8.ofNat_toNat]
  rfl
theorem byte_orB (o : Nat) (n : Nat) (ho : o < 256) (hn : n < 16) : bits .or .u8 ((o : Int) * 16 % 256) (n : Int) = (((o * 16 + n) % 256 : Nat) : Int) := byte_or ⟨o, ho⟩ ⟨n, hn⟩

set_option maxRecDepth 100000 in
set_option maxHeartbeats 1000000 in
theorem read_any (l : List UInt8) (w : World) (hl : l.length ≤ 9223372036854775807) : Calls Try.prog 18 #[.string (str l)] w fun e w' => e = .returned (.tuple #[.agg (bvs (readL l).1).toArray, .bool (readL l).2]) ∧ Keeps noBlock w w' := by
  have h1 : ((w.alloc (.cells zerosV 24)).alloc (.cells zerosV 24)).heap[w.heap.size]? = some (.cells zerosV 24 (0, 0)) := heap_alloc_at0
  have h2 : ((w.alloc (.cells zerosV 24)).alloc (.cells zerosV 24)).heap[w.heap.size + 1]? = some (.cells zerosV 24 (0, 0)) := heap_alloc_at1
  obtain ⟨w2, hw2⟩ : ∃ w2, w2 = (w.alloc (.cells zerosV 24)).alloc (.cells zerosV 24) := ⟨_, rfl⟩
  rw [← hw2] at h1 h2
  have z2 : w2.heap.size = w.heap.size + 2 := by rw [hw2]; simp
  have k2 : Keeps noBlock w w2 := by rw [hw2]; exact ((Keeps.refl _ _).alloc _).alloc _
  have hz : (#[Value.int IntKind.u8 0, Value.int IntKind.u8 0, Value.int IntKind.u8 0, Value.int IntKind.u8 0, Value.int IntKind.u8 0, Value.int IntKind.u8 0, Value.int IntKind.u8 0, Value.int IntKind.u8 0, Value.int IntKind.u8 0, Value.int IntKind.u8 0, Value.int IntKind.u8 0, Value.int IntKind.u8 0, Value.int IntKind.u8 0, Value.int IntKind.u8 0, Value.int IntKind.u8 0, Value.int IntKind.u8 0, Value.int IntKind.u8 0, Value.int IntKind.u8 0, Value.int IntKind.u8 0, Value.int IntKind.u8 0, Value.int IntKind.u8 0, Value.int IntKind.u8 0, Value.int IntKind.u8 0, Value.int IntKind.u8 0, Value.int IntKind.u8 0, Value.int IntKind.u8 0, Value.int IntKind.u8 0, Value.int IntKind.u8 0, Value.int IntKind.u8 0, Value.int IntKind.u8 0, Value.int IntKind.u8 0, Value.int IntKind.u8 0] : Array Value) = zerosV := rfl
  have hsz : ∀ o : List UInt8, o.length = 32 → (Try.prog.info? 24).map (·.size) = some (bvs o).toArray.size := fun o ho => by rw [List.size_toArray, length_bvs, ho]; kernel_rfl
  have hzs : (Try.prog.info? 24).map (·.size) = some zerosV.size := hsz _ List.length_replicate
  have hza : zerosV.all (·.oneCell') = true := all_oneCell_toArray (oneCell_bvs _)
  have hss := size_str l
  have HZ := Lib.hid hz; have HW2 := Lib.hid hw2; have H1 := Lib.hid h1; have H2 := Lib.hid h2; have K2 := Lib.hid k2; have HSZ := Lib.hid hsz; have HZS := Lib.hid hzs; have HZA := Lib.hid hza; have Z2 := Lib.hid z2
  clear hz hw2 h1 h2 k2 hsz hzs hza z2
  by_cases hs : l.length = 64
  · have hcv := Lib.run_convert_string_bytes (P := Try.prog) w2 9 33 5 (str l) Try.underlying9 Try.underlying33 Try.underlying5
    obtain ⟨r3, k3⟩ := row8_of_string w2 5 (str l)
    have hdl : (str l).data.toList = l := rfl
    obtain ⟨cap, hcap⟩ : ∃ c, c = grownCap w2 (str l).size 0 5 := ⟨_, rfl⟩
    obtain ⟨w3, hw3⟩ : ∃ w3, w3 = Lib.bytesWorld w2 5 (str l) := ⟨_, rfl⟩
    rw [hdl] at r3
    rw [← hw3, ← hcap] at hcv r3
    rw [← hw3] at k3
    rw [hss, hs] at hcv r3
    rw [hs] at hss
    have HS := Lib.hid hs
    obtain ⟨g, cap', hg, hB, hgl, hcl, ht, hr⟩ := r3
    simp only [Value.slice.injEq, Option.some.injEq, Addr.mk.injEq] at hg
    obtain ⟨⟨hg, -⟩, -, hcc⟩ := hg
    subst hg; subst hcc
    have HGL := Lib.hid hgl; have HR := Lib.hid hr; have K3 := Lib.hid k3; have HCV := Lib.hid hcv
    clear hl hs hdl hw3 hcap hcv k3 hr ht hcl hB hgl
    go_enter Try.func18, Try.ntmps18
    go_wp2_with fail
    rw [HZ.out, ← HW2.out, HCV.out]
    go_wp2_with fail
    have H31 := Lib.hid (K3.out.heap H1.out (fun e => e)); have H32 := Lib.hid (K3.out.heap H2.out (fun e => e))
    have K03 := Lib.hid (K2.out.trans K3.out)
    have z3 : w.heap.size + 2 < w3.heap.size := by have := HGL.out; have := Z2.out; omega
    go_loopw [15] (RReadRel w w3 l) (fun i _ => 64 - (intOf i).toNat)
    case atStart => exact ⟨0, _, rfl, by omega, List.length_replicate, rfl, H32.out, Keeps.refl _ _⟩
    case round =>
      obtain ⟨k, o, rfl, hk, ho, hrd, hh, hkr⟩ := hrel
      have hk0 : (0 : Int) ≤ (k : Int) := by omega
      have hg1 : wr.heap[w.heap.size]? = some (.cells zerosV 24 (0, 0)) := hkr.heap H31.out (fun e => by omega)
      have KO := Lib.hid (show Keeps noBlock w wr from K03.out.trans' hkr (fun k hk e => by have e : k = w.heap.size + 1 := e; omega))
      by_cases hlt : k < 64
      · have hk1 : (k : Int) < 64 := by omega
        obtain ⟨c, hc⟩ : ∃ c, c = l.getD k 0 := ⟨_, rfl⟩
        rw [drop_getD l k (by rw [HS.out]; exact hlt), ← hc] at hrd
        have hbc : wr.cell? ⟨w2.heap.size, k, none⟩ = some (.int .u8 (c.toNat : Int)) := by
          rw [cell_keep hkr HGL.out (fun e => by have e : w2.heap.size = w.heap.size + 1 := e; have := Z2.out; omega)]
          have := HR.out k (bv c) (by
            unfold bvs
            rw [List.getElem?_map, hc, List.getD_eq_getElem?_getD, List.getElem?_eq_getElem (by rw [HS.out]; exact hlt)]
            rfl)
          rw [Nat.zero_add] at this
          exact this
        obtain ⟨m, hm⟩ : ∃ m, m = hv c := ⟨_, rfl⟩
        have hr := hv_range c
        rw [← hm] at hr
        have HO := Lib.hid ho; have HRD := Lib.hid hrd; have HH := Lib.hid hh; have HKR := Lib.hid hkr; have HG1 := Lib.hid hg1; have HM := Lib.hid hm
        clear hc ho hrd hh hkr hg1 hm
        go_wp2_with fail
        refine (index_digits c wr).mono ?_
        rintro e w' ⟨rfl, rfl⟩
        rw [← HM.out]
        by_cases hneg : m < 0
        · go_wp2_with (first
            | (refine wpList_build_as rfl _ _ rfl zerosV (by kernel_rfl) ?_)
            | (refine wpList_store_row rfl _ _ _ rfl w.heap.size zerosV rfl rfl _ _ HG1.out HZS.out rfl HZA.out ?_))
          have hno : rd (List.replicate 32 0) 0 l = none := by rw [HRD.out, rd, if_pos (by rw [← HM.out]; exact hneg)]
          have hrl : readL l = (List.replicate 32 0, false) := by unfold readL; rw [if_pos HS.out, hno]
          exact bodyPost_ret (results_cell_tmp rfl _ _ w.heap.size _ zerosV (0, 0) _ rfl (setRow_heap _ _ _ _ _ _ HG1.out) Try.underlying24 rfl HZS.out) rfl ⟨by rw [hrl]; rfl, KO.out.setRow _ _ (fun h => absurd h (Nat.lt_irrefl _))⟩
        · obtain ⟨n, rfl⟩ : ∃ n : Nat, m = (n : Int) := ⟨m.toNat, by omega⟩
          have hn16 : n < 16 := by omega
          have hq : (k : Int).tdiv 2 = ((k / 2 : Nat) : Int) := by rw [Int.tdiv_eq_ediv_of_nonneg (by omega)]; omega
          have hq' : (k : Int) / 2 = ((k / 2 : Nat) : Int) := by omega
          have hcell := hash_cell HH.out (k / 2) (by rw [HO.out]; omega)
          have hf := frozen_of_heap HH.out (k / 2)
          obtain ⟨ov, hov⟩ : ∃ q, q = (o.getD (k / 2) 0).toNat := ⟨_, rfl⟩
          have hov2 : ov < 256 := by rw [hov]; exact UInt8.toNat_lt _
          have hor := byte_orB ov n hov2 hn16
          obtain ⟨xv, hxv⟩ : ∃ q, q = (ov * 16 + n) % 256 := ⟨_, rfl⟩
          rw [← hxv] at hor
          have hst := step_set o k n (xv : Int) (by rw [hxv, hov])
          have hne : (n : Int) % 256 = (n : Int) := by omega
          obtain ⟨kq, hkq⟩ : ∃ q, q = k / 2 := ⟨_, rfl⟩
          rw [← hov] at hcell
          rw [← hkq] at hq hq' hcell hf hst
          have hkq0 : (0 : Int) ≤ (kq : Int) := by omega
          have hkq1 : (kq : Int) < 32 := by omega
          have HST := Lib.hid hst
          clear hst hov hkq hxv
          go_wp2_with fail
          go_roundw
          case rel =>
            refine ⟨k + 1, stepB o k n, by simp, hlt, by rw [stepB_length]; exact HO.out, ?_, ?_, HKR.out.setCell (fun _ => rfl) _⟩
            · rw [HRD.out, rd, if_neg (by rw [← HM.out]; omega), ← HM.out, Int.toNat_natCast]
            · rw [heap_set HH.out, HST.out]
          case measure => simp [intOf]; omega
      · obtain rfl : k = 64 := by omega
        have hk1 : ¬ ((64 : Nat) : Int) < 64 := by omega
        have hso : rd (List.replicate 32 0) 0 l = some o := by rw [hrd, List.drop_eq_nil_of_le (by rw [HS.out]; exact Nat.le_refl _), rd]
        have hrl : readL l = (o, true) := by unfold readL; rw [if_pos HS.out, hso]
        have HRL := Lib.hid hrl; have HG1 := Lib.hid hg1; have HH := Lib.hid hh
        have HSO := Lib.hid (HSZ.out o ho); have HZO := Lib.hid (show zerosV.size = (bvs o).toArray.size from (show zerosV.size = 32 from rfl).trans (by rw [List.size_toArray, length_bvs, ho]))
        clear hrl hg1 hh hso hrd hkr ho
        go_wp2_with (first
          | (refine wpList_load_row rfl _ _ rfl (w.heap.size + 1) rfl _ (bvs o).toArray (0, 0) _ HH.out Try.underlying24 rfl HSO.out ?_)
          | (refine wpList_store_row rfl _ _ _ rfl w.heap.size (bvs o).toArray rfl rfl _ _ HG1.out HSO.out HZO.out (all_oneCell_toArray (oneCell_bvs _)) ?_))
        exact bodyPost_ret (results_cell_tmp rfl _ _ w.heap.size _ (bvs o).toArray (0, 0) _ rfl (setRow_heap _ _ _ _ _ _ HG1.out) Try.underlying24 rfl HSO.out) rfl ⟨by rw [HRL.out]; rfl, KO.out.setRow _ _ (fun h => absurd h (Nat.lt_irrefl _))⟩
  · obtain ⟨n, hn⟩ : ∃ n, n = l.length := ⟨_, rfl⟩
    have hrl : readL l = (List.replicate 32 0, false) := by unfold readL; rw [if_neg hs]
    have HRL := Lib.hid hrl
    rw [← hn] at hss hs hl
    have hsi : ¬ (n : Int) = 64 := by omega
    clear hn hrl
    go_enter Try.func18, Try.ntmps18
    go_wp2_with (first
      | (refine wpList_load_row rfl _ _ rfl (w.heap.size + 1) rfl _ zerosV (0, 0) _ (by rw [HZ.out, ← HW2.out]; exact H2.out) Try.underlying24 rfl HZS.out ?_)
      | (refine wpList_store_row rfl _ _ _ rfl w.heap.size zerosV rfl rfl _ _ (by rw [HZ.out, ← HW2.out]; exact H1.out) HZS.out rfl HZA.out ?_))
    rw [HZ.out, ← HW2.out]
    exact bodyPost_ret (results_cell_tmp rfl _ _ w.heap.size _ zerosV (0, 0) _ rfl (setRow_heap _ _ _ _ _ _ H1.out) Try.underlying24 rfl HZS.out) rfl ⟨by rw [HRL.out]; rfl, K2.out.setRow _ _ (fun h => absurd h (Nat.lt_irrefl _))⟩
end Go.Proofs.Yteikldemppbjpaa
