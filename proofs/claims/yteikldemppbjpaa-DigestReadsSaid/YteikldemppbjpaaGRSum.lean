/-
  The reference's hash: Sum returns the model's hash of its string. Condition: a string of at most 2^40 bytes.
-/
import Derived.Test.YteikldemppbjpaaGBlock
import Derived.Test.YteikldemppbjpaaGRef
namespace Go.Proofs.Yteikldemppbjpaa
open Go Go.RowKit
set_option linter.unusedVariables false

def RSumRel (w : World) (g : Nat) (m : List UInt8) (N : Nat) (i : Value) (wr : World) : Prop :=
  ∃ k : Nat, i = .int .i64 ((64 * k : Nat) : Int) ∧ k ≤ N ∧ wr.heap[g]? = some (.cells (arr (blks m k).list) 45 (0, 0)) ∧ Keeps (fun x => x = g) w wr

theorem blks_len (m : List UInt8) (N k : Nat) (h : m.length = 64 * N) (hk : k < N) : ((m.drop (64 * k)).take 64).length = 64 := by
  rw [List.length_take, List.length_drop]; omega
theorem flat_get (L : List W32) (q r : Nat) (hr : r < 4) (hq : q < L.length) : (L.flatMap bytesW)[4 * q + r]? = some (byteW (wAt L q) (8 * (3 - r))) := by
  induction L generalizing q with
  | nil => simp at hq
  | cons x L ih =>
    rw [List.flatMap_cons]
    cases q with
    | zero =>
      rw [List.getElem?_append_left (by simp [bytesW]; omega)]
      match r, hr with
      | 0, _ => rfl
      | 1, _ => rfl
      | 2, _ => rfl
      | 3, _ => rfl
    | succ q =>
      rw [List.getElem?_append_right (by simp [bytesW]; omega)]
      have := ih q (by simpa using hq)
      rw [show 4 * (q + 1) + r - (bytesW x).length = 4 * q + r by simp [bytesW]; omega, this]
      simp [wAt]
/-- the first i bytes, in a row of 32 -/
def outTo (R : List UInt8) (i : Nat) : List UInt8 := R.take i ++ List.replicate (32 - i) 0
theorem outTo_step (R : List UInt8) (i : Nat) (hR : R.length = 32) (h : i < 32) (b : UInt8) (hb : R[i]? = some b) : (bvs (outTo R i)).toArray.setIfInBounds i (.int .u8 (b.toNat : Int)) = (bvs (outTo R (i + 1))).toArray := by
  have hl : (R.take i).length = i := by rw [List.length_take]; omega
  have e : outTo R (i + 1) = (outTo R i).set i b := by
    unfold outTo
    rw [List.set_append_right _ _ (by omega), hl, Nat.sub_self, show 32 - i = (32 - (i + 1)) + 1 by omega, List.replicate_succ, List.set_cons_zero]
    have ht : R.take (i + 1) = R.take i ++ [b] := by
      rw [List.take_add_one, hb]; rfl
    rw [ht]
    simp
  rw [e]
  unfold bvs
  rw [List.map_set]
  simp [bv]
def ROutRel (w : World) (g : Nat) (R : List UInt8) (i : Value) (wr : World) : Prop :=
  ∃ k : Nat, i = .int .i64 (k : Int) ∧ k ≤ 32 ∧ wr.heap[g]? = some (.cells (bvs (outTo R k)).toArray 24 (0, 0)) ∧ Keeps (fun x => x = g) w wr

set_option maxRecDepth 100000 in
set_option maxHeartbeats 2000000 in
theorem rsum_any (l : List UInt8) (w : World) (hs : l.length ≤ 1099511627776) : Calls Try.prog 13 #[.string (str l)] w fun e w' => e = .returned (hashV (sha l)) ∧ Keeps noBlock w w' := by
  obtain ⟨w2, hw2⟩ : ∃ w2, w2 = ((w.alloc (.cells #[Value.int IntKind.u8 0, Value.int IntKind.u8 0, Value.int IntKind.u8 0, Value.int IntKind.u8 0, Value.int IntKind.u8 0, Value.int IntKind.u8 0, Value.int IntKind.u8 0, Value.int IntKind.u8 0, Value.int IntKind.u8 0, Value.int IntKind.u8 0, Value.int IntKind.u8 0, Value.int IntKind.u8 0, Value.int IntKind.u8 0, Value.int IntKind.u8 0, Value.int IntKind.u8 0, Value.int IntKind.u8 0, Value.int IntKind.u8 0, Value.int IntKind.u8 0, Value.int IntKind.u8 0, Value.int IntKind.u8 0, Value.int IntKind.u8 0, Value.int IntKind.u8 0, Value.int IntKind.u8 0, Value.int IntKind.u8 0, Value.int IntKind.u8 0, Value.int IntKind.u8 0, Value.int IntKind.u8 0, Value.int IntKind.u8 0, Value.int IntKind.u8 0, Value.int IntKind.u8 0, Value.int IntKind.u8 0, Value.int IntKind.u8 0] 24)).alloc (.cells (arr (List.replicate 8 0)) 45)).setRow (w.heap.size + 1) (arr iv) := ⟨_, rfl⟩
  have k2 : Keeps noBlock w w2 := by
    rw [hw2]
    exact ⟨rfl, rfl, rfl, by simp only [setRow_size, World.size_alloc]; omega, fun j hj _ => by
      rw [setRow_other _ _ _ _ (by omega), Below.heap_alloc _ _ _ (by simp; omega), Below.heap_alloc _ _ _ hj]⟩
  have h20 : w2.heap[w.heap.size]? = some (.cells (bvs (List.replicate 32 0)).toArray 24 (0, 0)) := by
    rw [hw2, setRow_other _ _ _ _ (by omega)]; exact heap_alloc_at0
  have h21 : w2.heap[w.heap.size + 1]? = some (.cells (arr (blks (padL l) 0).list) 45 (0, 0)) := by
    rw [hw2]; exact setRow_heap _ _ (arr (List.replicate 8 0)) _ _ _ heap_alloc_at1
  have z2 : w2.heap.size = w.heap.size + 2 := by rw [hw2]; simp
  have HW2 := Lib.hid hw2; have K2 := Lib.hid k2; have H20 := Lib.hid h20; have H21 := Lib.hid h21; have Z2 := Lib.hid z2
  clear hw2 k2 h20 h21 z2
  go_enter Try.func13, Try.ntmps13
  go_wp2_with (first
    | (refine wpList_build_as rfl _ _ rfl (arr iv) (by kernel_rfl) ?_)
    | (refine wpList_store_row rfl _ _ _ rfl (w.heap.size + 1) (arr iv) rfl rfl 45 (arr (List.replicate 8 0)) (by rw [zeros8]; exact heap_alloc_at1) (size8 iv rfl) rfl (all_arr iv) ?_))
  rw [zeros8, ← HW2.out]
  refine (padded_any l w2 hs).mono ?_
  rintro e w3 ⟨rfl, k3⟩
  have h30 := k3.heap H20.out (fun e => e)
  have h31 := k3.heap H21.out (fun e => e)
  obtain ⟨m, hm⟩ : ∃ m, m = padL l := ⟨_, rfl⟩
  rw [← hm] at h31
  rw [← hm]
  obtain ⟨N, hN⟩ : ∃ N, m.length = 64 * N := ⟨m.length / 64, by have := padL_mod l; rw [← hm] at this; omega⟩
  have hNb : N ≤ 1099511627776 := by have h1 := padL_length l; rw [← hm, hN] at h1; have := zerosN_lt l.length; omega
  have hsz : (str m).size = 64 * N := by rw [size_str, hN]
  have z3 := k3.size
  have K3 := Lib.hid k3; have H30 := Lib.hid h30; have H31 := Lib.hid h31; have HM := Lib.hid hm; have HN := Lib.hid hN; have HSZ := Lib.hid hsz
  clear k3 h30 h31 hm hN hsz hs
  go_wp2_with fail
  go_loopw [5] (RSumRel w3 (w.heap.size + 1) m N) (fun i _ => 64 * N - (intOf i).toNat)
  case atStart => exact ⟨0, rfl, by omega, H31.out, Keeps.refl _ _⟩
  case round =>
    obtain ⟨k, rfl, hk, hr, hkr⟩ := hrel
    obtain ⟨i, hi⟩ : ∃ i, i = 64 * k := ⟨_, rfl⟩
    obtain ⟨L, hL⟩ : ∃ L, L = 64 * N := ⟨_, rfl⟩
    have hsz : (str m).size = L := by rw [hL]; exact HSZ.out
    rw [← hi]
    by_cases hlt : k < N
    · obtain ⟨s, hs⟩ : ∃ s, s = blks m k := ⟨_, rfl⟩
      rw [← hs] at hr
      obtain ⟨c, hc⟩ : ∃ c, c = (m.drop i).take 64 := ⟨_, rfl⟩
      have hcl : c.length = 64 := by rw [hc, hi]; exact blks_len m N k HN.out hlt
      obtain ⟨r, hrr⟩ : ∃ r, r = blk s c := ⟨_, rfl⟩
      have hnext : blks m (k + 1) = r := by rw [hrr, hc, hs, hi]; rfl
      obtain ⟨sa, sb, sc, sd, se, sf, sg, sh⟩ := s
      obtain ⟨ra, rb, rc, rd, re, rf, rg, rh⟩ := r
      have hB : ∀ W, Calls Try.prog 27 #[.agg #[.int .u32 (uw sa), .int .u32 (uw sb), .int .u32 (uw sc), .int .u32 (uw sd), .int .u32 (uw se), .int .u32 (uw sf), .int .u32 (uw sg), .int .u32 (uw sh)], .string (str c)] W fun e w' => e = .returned (.agg #[.int .u32 (uw ra), .int .u32 (uw rb), .int .u32 (uw rc), .int .u32 (uw rd), .int .u32 (uw re), .int .u32 (uw rf), .int .u32 (uw rg), .int .u32 (uw rh)]) ∧ Keeps noBlock W w' := fun W =>
        (block_any ⟨sa, sb, sc, sd, se, sf, sg, sh⟩ c W hcl).mono fun e w' h => ⟨h.1.trans (by rw [← hrr]; rfl), h.2⟩
      have hl8 : (S8.list ⟨sa, sb, sc, sd, se, sf, sg, sh⟩).length = 8 := rfl
      have c0 : wr.cell? ⟨w.heap.size + 1, 0, none⟩ = some (.int .u32 (uw sa)) := cell_arr hr 0 (by rw [hl8]; omega)
      have c1 : wr.cell? ⟨w.heap.size + 1, 1, none⟩ = some (.int .u32 (uw sb)) := cell_arr hr 1 (by rw [hl8]; omega)
      have c2 : wr.cell? ⟨w.heap.size + 1, 2, none⟩ = some (.int .u32 (uw sc)) := cell_arr hr 2 (by rw [hl8]; omega)
      have c3 : wr.cell? ⟨w.heap.size + 1, 3, none⟩ = some (.int .u32 (uw sd)) := cell_arr hr 3 (by rw [hl8]; omega)
      have c4 : wr.cell? ⟨w.heap.size + 1, 4, none⟩ = some (.int .u32 (uw se)) := cell_arr hr 4 (by rw [hl8]; omega)
      have c5 : wr.cell? ⟨w.heap.size + 1, 5, none⟩ = some (.int .u32 (uw sf)) := cell_arr hr 5 (by rw [hl8]; omega)
      have c6 : wr.cell? ⟨w.heap.size + 1, 6, none⟩ = some (.int .u32 (uw sg)) := cell_arr hr 6 (by rw [hl8]; omega)
      have c7 : wr.cell? ⟨w.heap.size + 1, 7, none⟩ = some (.int .u32 (uw sh)) := cell_arr hr 7 (by rw [hl8]; omega)
      have hfz : ∀ j, wr.frozen? ⟨w.heap.size + 1, j, none⟩ = false := fun j => frozen_of_heap hr j
      have hbl : w.heap.size + 1 < wr.heap.size := lt_of_heap hr
      have hsl := run_slice_str (P := Try.prog) 9 Try.underlying9 m .i64 .i64 i (i + 64) (by omega) (by rw [HN.out]; omega)
      have hsl2 : ∀ W, (Instr.slice 9 (.string (str m)) (some (.int .i64 (i : Int))) (some (.int .i64 ((i : Int) + 64))) none).run Try.prog W = .ok (.string (str c)) W := fun W => by
        have := hsl W
        rw [show i + 64 - i = 64 by omega, ← hc] at this
        rw [← this]
        congr 1
      have hi0 : (0 : Int) ≤ (i : Int) := by omega
      have hi1 : (i : Int) < (L : Int) := by omega
      have hi3 : (i : Int) ≤ 70368744177664 := by omega
      have hw64 : IntKind.i64.wrap ((i : Int) + 64) = (i : Int) + 64 := IntWalk.i64_in _ (by omega)
      have HBB := Lib.hid hB; have HR := Lib.hid hr; have HKR := Lib.hid hkr; have HNX := Lib.hid hnext; have HI := Lib.hid hi; have HLL := Lib.hid hL
      clear hsl hB hr hkr hnext hi hL hrr hc hcl hl8 hs hk
      go_wp2_with fail
      go_region_with (go_at_call 27; refine (HBB.out _).mono ?_; rintro e w' ⟨rfl, hk⟩; have hcc : ∀ j, w'.cell? ⟨w.heap.size + 1, j, none⟩ = wr.cell? ⟨w.heap.size + 1, j, none⟩ := fun j => cell_keep (w := wr.drew) hk hbl (fun e => e) j; have hff : ∀ j, w'.frozen? ⟨w.heap.size + 1, j, none⟩ = false := fun j => (World.frozen?_of_block (a := ⟨w.heap.size + 1, j, none⟩) (hk.block (w.heap.size + 1) hbl (fun e => e))).trans (hfz j))
      clear hcc c0 c1 c2 c3 c4 c5 c6 c7 hfz hff
      have hr8 : w'.heap[w.heap.size + 1]? = some (.cells (arr (S8.list ⟨sa, sb, sc, sd, se, sf, sg, sh⟩)) 45 (0, 0)) := Keeps.heap (w := wr.drew) hk HR.out (fun e => e)
      have HR8 := Lib.hid hr8
      have HK8 := Lib.hid ((HKR.out.drew).trans (hk.any' (fun x => x = w.heap.size + 1)))
      clear hr8 hk
      go_wp2_with fail
      go_roundw
      case rel =>
        refine ⟨k + 1, by rw [HI.out]; go_num, hlt, ?_, (((((((HK8.out.setCell (fun _ => rfl) _).setCell (fun _ => rfl) _).setCell (fun _ => rfl) _).setCell (fun _ => rfl) _).setCell (fun _ => rfl) _).setCell (fun _ => rfl) _).setCell (fun _ => rfl) _).setCell (fun _ => rfl) _⟩
        rw [heap_set (heap_set (heap_set (heap_set (heap_set (heap_set (heap_set (heap_set HR8.out))))))), HNX.out]
        rfl
      case measure => have := HI.out; have := HLL.out; simp [intOf]; omega
    · obtain rfl : k = N := by omega
      obtain ⟨R, hR⟩ : ∃ R, R = (blks m k).list := ⟨_, rfl⟩
      have hR8 : R.length = 8 := by rw [hR]; exact list8 _
      rw [← hR] at hr
      have hout : R.flatMap bytesW = sha l := by
        rw [hR]
        unfold sha
        rw [← HM.out, HN.out, show 64 * k / 64 = k by omega]
      obtain ⟨wo, rfl⟩ : ∃ wo : World, wo = wr := ⟨_, rfl⟩
      obtain ⟨w6, hw6⟩ : ∃ w6, w6 = wo.alloc (.cells (bvs (outTo (sha l) 0)).toArray 24) := ⟨_, rfl⟩
      have hz : (#[Value.int IntKind.u8 0, Value.int IntKind.u8 0, Value.int IntKind.u8 0, Value.int IntKind.u8 0, Value.int IntKind.u8 0, Value.int IntKind.u8 0, Value.int IntKind.u8 0, Value.int IntKind.u8 0, Value.int IntKind.u8 0, Value.int IntKind.u8 0, Value.int IntKind.u8 0, Value.int IntKind.u8 0, Value.int IntKind.u8 0, Value.int IntKind.u8 0, Value.int IntKind.u8 0, Value.int IntKind.u8 0, Value.int IntKind.u8 0, Value.int IntKind.u8 0, Value.int IntKind.u8 0, Value.int IntKind.u8 0, Value.int IntKind.u8 0, Value.int IntKind.u8 0, Value.int IntKind.u8 0, Value.int IntKind.u8 0, Value.int IntKind.u8 0, Value.int IntKind.u8 0, Value.int IntKind.u8 0, Value.int IntKind.u8 0, Value.int IntKind.u8 0, Value.int IntKind.u8 0, Value.int IntKind.u8 0, Value.int IntKind.u8 0] : Array Value) = (bvs (outTo (sha l) 0)).toArray := rfl
      have k6 : Keeps noBlock wo w6 := by rw [hw6]; exact (Keeps.refl _ _).alloc _
      have h6 : w6.heap[wo.heap.size]? = some (.cells (bvs (outTo (sha l) 0)).toArray 24 (0, 0)) := by rw [hw6]; exact heap_alloc_at
      have hs6 := k6.heap hr (fun e => e)
      have hz6 := k6.heap (hkr.heap H30.out (fun e => by omega)) (fun e => e)
      have hkw : Keeps noBlock w w6 := ((K2.out.trans K3.out).trans' hkr (fun j hj e => by omega)).trans k6
      have zo : w3.heap.size ≤ wo.heap.size := hkr.size
      have hii : i = L := by rw [hi, hL]
      have hi64 : ¬ (i : Int) < (L : Int) := by omega
      have HZ := Lib.hid hz; have HW6 := Lib.hid hw6; have H6 := Lib.hid h6; have HS6 := Lib.hid hs6; have HZ6 := Lib.hid hz6; have HKW := Lib.hid hkw; have HOUT := Lib.hid hout
      have HR8 := Lib.hid hR8
      have ZZ := Lib.hid (show w.heap.size + 1 < wo.heap.size by have := Z2.out; omega)
      clear hr hkr hR hR8 hout hw6 hz k6 h6 hs6 hz6 hkw hi hL hlt hk zo hii
      go_wp2_with fail
      rw [HZ.out, ← HW6.out]
      go_loopw [7] (ROutRel w6 wo.heap.size (sha l)) (fun i _ => 32 - (intOf i).toNat)
      case atStart => exact ⟨0, rfl, by omega, H6.out, Keeps.refl _ _⟩
      case round =>
        obtain ⟨k, rfl, hk, hr, hkr⟩ := hrel
        by_cases hlt : k < 32
        · obtain ⟨q, r, hq, hr4, hkq⟩ : ∃ q r : Nat, q < 8 ∧ r < 4 ∧ k = 4 * q + r := ⟨k / 4, k % 4, by omega, by omega, by omega⟩
          have hzz := ZZ.out
          have cs := cell_arr (hkr.heap HS6.out (fun e => by omega)) q (by rw [HR8.out]; exact hq)
          have hby := flat_get R q r hr4 (by rw [HR8.out]; exact hq)
          rw [HOUT.out, ← hkq] at hby
          obtain ⟨x, hx⟩ : ∃ x, x = wAt R q := ⟨_, rfl⟩
          rw [← hx] at cs hby
          have hgt : wr.cell? ⟨wo.heap.size, k, none⟩ = some (bv ((outTo (sha l) k)[k]'(by unfold outTo; rw [List.length_append, List.length_take, List.length_replicate, sha_length]; omega))) := by
            rw [cell_of_heap hr, ← Array.getElem?_toList]
            simp only [bvs, List.getElem?_map]
            rw [List.getElem?_eq_getElem (by unfold outTo; rw [List.length_append, List.length_take, List.length_replicate, sha_length]; omega)]
            rfl
          have cf := frozen_of_heap hr k
          obtain ⟨vv, hvv⟩ : ∃ v, v = bv ((outTo (sha l) k)[k]'(by unfold outTo; rw [List.length_append, List.length_take, List.length_replicate, sha_length]; omega)) := ⟨_, rfl⟩
          rw [← hvv] at hgt
          have hk0 : (0 : Int) ≤ (k : Int) := by omega
          have hk1 : (k : Int) < 32 := by omega
          have hdv : (k : Int) / 4 = (q : Int) := by omega
          have hmd : (k : Int) % 4 = (r : Int) := by omega
          have hq0 : (0 : Int) ≤ (q : Int) ∧ (q : Int) < 8 := by omega
          have hst := fun (b : UInt8) hb => outTo_step (sha l) k (sha_length l) hlt b hb
          have HR := Lib.hid hr; have HKR := Lib.hid hkr; have HBY := Lib.hid hby; have HST := Lib.hid hst
          clear hr hkr hby hst hvv hx hzz hkq
          obtain rfl | rfl | rfl | rfl : r = 0 ∨ r = 1 ∨ r = 2 ∨ r = 3 := by omega
          all_goals
            go_wp2_with fail
            go_roundw
            case rel =>
              refine ⟨k + 1, by simp, by omega, ?_, HKR.out.setCell (fun _ => rfl) _⟩
              have e := HST.out _ HBY.out
              rw [heap_set HR.out]
              simp only [byte_24, byte_16, byte_8, byte_0]
              exact congrArg (fun c => some (Obj.cells c 24 (0, 0))) e
            case measure => simp [intOf]; omega
        · obtain rfl : k = 32 := by omega
          have hfull : outTo (sha l) 32 = sha l := by
            unfold outTo
            rw [List.take_of_length_le (by rw [sha_length]; omega)]
            simp
          rw [hfull] at hr
          have hzz := ZZ.out
          have hz2 := hkr.heap HZ6.out (fun e => by omega)
          have hsz : (Try.prog.info? 24).map (·.size) = some (bvs (sha l)).toArray.size := by
            rw [List.size_toArray, length_bvs, sha_length]; kernel_rfl
          have ho : (bvs (List.replicate 32 (0 : UInt8))).toArray.size = (bvs (sha l)).toArray.size := by
            rw [List.size_toArray, List.size_toArray, length_bvs, length_bvs, sha_length]; rfl
          obtain ⟨S, hS⟩ : ∃ S, S = sha l := ⟨_, rfl⟩
          have HSS := Lib.hid hS
          rw [← hS] at hr hsz ho
          have HR := Lib.hid hr; have HKR := Lib.hid hkr; have HZZ := Lib.hid hz2; have HSZZ := Lib.hid hsz; have HO := Lib.hid ho
          clear hr hkr hz2 hsz ho hS hfull hlt hk hzz
          go_wp2_with (first
            | (refine wpList_load_row rfl _ _ rfl wo.heap.size rfl _ (bvs S).toArray (0, 0) _ HR.out Try.underlying24 rfl HSZZ.out ?_)
            | (refine wpList_store_row rfl _ _ _ rfl w.heap.size (bvs S).toArray rfl rfl _ _ HZZ.out HSZZ.out HO.out (all_oneCell_toArray (oneCell_bvs _)) ?_))
          refine bodyPost_ret (results_cell_row rfl _ _ w.heap.size _ (bvs S).toArray (0, 0) _ rfl (setRow_heap _ _ _ _ _ _ HZZ.out) Try.underlying24 rfl HSZZ.out) rfl ⟨by rw [HSS.out]; rfl, ?_⟩
          have c1 := (HKW.out.any' (fun x => w.heap.size ≤ x)).trans (HKR.out.mono (fun k _ e => by have := ZZ.out; omega))
          have c2 : Keeps (fun x => w.heap.size ≤ x) w (wr.setRow w.heap.size (bvs S).toArray) :=
            c1.trans ⟨rfl, rfl, rfl, by simp, fun j hj hn => setRow_other _ _ _ _ (fun e => hn (by omega))⟩
          exact c2.mono (fun k hk e => by omega)
end Go.Proofs.Yteikldemppbjpaa
