/-
  The reference's block: what it returns. No condition but the block's 64 bytes.
-/
import Derived.Test.YteikldemppbjpaaGChunk
import Derived.Deep.RegionHeld3
namespace Go.Proofs.Yteikldemppbjpaa
open Go Go.RowKit
set_option linter.unusedVariables false

theorem run_index_str {P : Program} (T : TypeId) (hu : P.underlying T = some .string) (b : List UInt8) (x : Int) (i : Nat) (hx : x = (i : Int)) (hi : i < b.length) (w : World) :
    (Instr.index T (.string (str b)) (.int .i64 x)).run P w = .ok (.int .u8 ((b.getD i 0).toNat : Int)) w := by
  subst hx
  have hs := size_str b
  have h1 : (str b)[i]? = some (b.getD i 0) := by
    show (if h : i < (str b).size then some (str b)[i] else none) = _
    rw [dif_pos (by omega), List.getD_eq_getElem?_getD, List.getElem?_eq_getElem hi]
    rfl
  simp [Instr.index, asIntOf, run_underlying hu, h1]

theorem cell_set_ne (w : World) (g k i : Nat) (v x : Value) (h : ¬ (k = i)) (hc : w.cell? ⟨g, i, none⟩ = some x) : (w.setCell ⟨g, k, none⟩ v).cell? ⟨g, i, none⟩ = some x :=
  (World.cell?_setCell_other _ _ _ _ (fun e => h (by cases e; rfl))).trans hc
theorem zeros8 : (#[Value.int IntKind.u32 0, Value.int IntKind.u32 0, Value.int IntKind.u32 0, Value.int IntKind.u32 0, Value.int IntKind.u32 0, Value.int IntKind.u32 0, Value.int IntKind.u32 0, Value.int IntKind.u32 0] : Array Value) = arr (List.replicate 8 0) := by kernel_rfl
theorem list8 (s : S8) : s.list.length = 8 := rfl
/-- eight values stored into a row of eight -/
theorem wpList_store8 {P : Program} {ops : Array Oper} {rest : List Oper} {o : Oper} {a : Act} {w : World} {Q : Exit → Act → World → Prop} (hgd : o.guard = none) (ty : TypeId) (x y : Operand) (ho : o.op = .store ty x y)
    (g : Nat) (v0 v1 v2 v3 v4 v5 v6 v7 : Value) (hx : a.eval x = .pointer (some ⟨g, 0, none⟩)) (hy : a.eval y = .agg #[v0, v1, v2, v3, v4, v5, v6, v7])
    (t : TypeId) (old : Array Value) (hg : w.heap[g]? = some (.cells old t (0, 0))) (hi : (P.info? ty).map (·.size) = some 8) (hold : old.size = 8)
    (h0 : v0.oneCell' = true) (h1 : v1.oneCell' = true) (h2 : v2.oneCell' = true) (h3 : v3.oneCell' = true) (h4 : v4.oneCell' = true) (h5 : v5.oneCell' = true) (h6 : v6.oneCell' = true) (h7 : v7.oneCell' = true)
    (h : wpList P ops Q rest (a.put o.dst undef) (w.setRow g #[v0, v1, v2, v3, v4, v5, v6, v7])) : wpList P ops Q (o :: rest) a w :=
  wpList_store_row hgd ty x y ho g #[v0, v1, v2, v3, v4, v5, v6, v7] hx hy t old hg hi hold (by simp [h0, h1, h2, h3, h4, h5, h6, h7]) h
theorem add7_uw (a b c d e f g : W32) : (uw a + uw b + uw c + uw d + uw e + (uw f + uw g)) % (4294967296 : Int) = uw (a + b + c + d + e + (f + g)) := by
  rw [← add_uw, ← add_uw, ← add_uw, ← add_uw, ← add_uw, ← add_uw]
  simp only [IntKind.wrap_u32]
  omega
theorem add6_uw (z a b c d e : W32) : (uw z + (uw a + uw b + uw c + uw d + uw e)) % (4294967296 : Int) = uw (z + (a + b + c + d + e)) := by
  rw [← add_uw, ← add_uw, ← add_uw, ← add_uw, ← add_uw]
  simp only [IntKind.wrap_u32]
  omega
/-- the rounds' words, in an array of eight -/
def BlkRel (w : World) (g : Nat) (T : List W32) (s : S8) (i : Value) (wr : World) : Prop :=
  ∃ k : Nat, i = .int .i64 (k : Int) ∧ k ≤ 64 ∧ wr.heap[g]? = some (.cells (arr (rnds T s k).list) 45 (0, 0)) ∧ Keeps (fun x => x = g) w wr

set_option maxRecDepth 100000 in
set_option maxHeartbeats 4000000 in
theorem block_any (s : S8) (b : List UInt8) (w : World) (hb : b.length = 64) :
    Calls Try.prog 27 #[.agg (arr s.list), .string (str b)] w fun e w' => e = .returned (.agg (arr (blk s b).list)) ∧ Keeps noBlock w w' := by
  obtain ⟨w1, hw1⟩ : ∃ w1, w1 = (w.alloc (.cells (arr s.list) 45)).alloc (.cells (arr (List.replicate 8 0)) 45) := ⟨_, rfl⟩
  have k1 : Keeps noBlock w w1 := by rw [hw1]; exact ((Keeps.refl _ _).alloc _).alloc _
  have z1 : w1.heap.size = w.heap.size + 2 := by rw [hw1]; simp
  have h10 : w1.heap[w.heap.size]? = some (.cells (arr s.list) 45 (0, 0)) := by rw [hw1]; exact heap_alloc_at0
  have h11 : w1.heap[w.heap.size + 1]? = some (.cells (arr (List.replicate 8 0)) 45 (0, 0)) := by rw [hw1]; exact heap_alloc_at1
  have HW1 := Lib.hid hw1; have K1 := Lib.hid k1; have Z1 := Lib.hid z1; have H10 := Lib.hid h10; have H11 := Lib.hid h11; have HB := Lib.hid hb
  clear hw1 k1 z1 h10 h11 hb
  go_enter Try.func27, Try.ntmps27
  go_wp2_with fail
  rw [zeros8, ← HW1.out]
  refine (rrounds_any w1).mono ?_
  rintro e w2 ⟨rfl, k2⟩
  have K2 := Lib.hid k2; have z2 := k2.size
  clear k2
  obtain ⟨w4, hw4⟩ : ∃ w4, w4 = (w2.alloc (.cells (arr kc) 64)).alloc (.cells (arr (List.replicate 64 0)) 64) := ⟨_, rfl⟩
  have k4 : Keeps noBlock w2 w4 := by rw [hw4]; exact ((Keeps.refl _ _).alloc _).alloc _
  have h40 : w4.heap[w2.heap.size]? = some (.cells (arr kc) 64 (0, 0)) := by rw [hw4]; exact heap_alloc_at0
  have h41 : w4.heap[w2.heap.size + 1]? = some (.cells (arr (schedRow b 0)) 64 (0, 0)) := by rw [hw4]; exact heap_alloc_at1
  have z4 : w4.heap.size = w2.heap.size + 2 := by rw [hw4]; simp
  have HW4 := Lib.hid hw4; have K4 := Lib.hid k4; have H40 := Lib.hid h40; have H41 := Lib.hid h41; have Z4 := Lib.hid z4
  clear hw4 k4 h40 h41 z4
  go_wp2_with (first
    | (refine wpList_store_new rfl _ _ _ rfl _ (arr kc) rfl rfl (size64 kc rfl) rfl (all_arr kc) ?_))
  rw [zeros64, ← HW4.out]
  go_loopw [7] (SchedRel w4 (w2.heap.size + 1) b) (fun i _ => 64 - (intOf i).toNat)
  case atStart => exact ⟨0, rfl, by omega, H41.out, Keeps.refl _ _⟩
  case round =>
    obtain ⟨k, rfl, hk, hr, hkr⟩ := hrel
    by_cases hlt : k < 64
    · by_cases h16 : k < 16
      · have hb64 := HB.out
        have hx0 := run_index_str (P := Try.prog) 9 Try.underlying9 b (4 * (k : Int)) (4 * k) (by omega) (by omega)
        have hx1 := run_index_str (P := Try.prog) 9 Try.underlying9 b (4 * (k : Int) + 1) (4 * k + 1) (by omega) (by omega)
        have hx2 := run_index_str (P := Try.prog) 9 Try.underlying9 b (4 * (k : Int) + 2) (4 * k + 2) (by omega) (by omega)
        have hx3 := run_index_str (P := Try.prog) 9 Try.underlying9 b (4 * (k : Int) + 3) (4 * k + 3) (by omega) (by omega)
        obtain ⟨y0, hy0⟩ : ∃ y, y = b.getD (4 * k) 0 := ⟨_, rfl⟩
        obtain ⟨y1, hy1⟩ : ∃ y, y = b.getD (4 * k + 1) 0 := ⟨_, rfl⟩
        obtain ⟨y2, hy2⟩ : ∃ y, y = b.getD (4 * k + 2) 0 := ⟨_, rfl⟩
        obtain ⟨y3, hy3⟩ : ∃ y, y = b.getD (4 * k + 3) 0 := ⟨_, rfl⟩
        rw [← hy0] at hx0; rw [← hy1] at hx1; rw [← hy2] at hx2; rw [← hy3] at hx3
        have hq0 : IntKind.i64.wrap (4 * (k : Int)) = 4 * (k : Int) := IntWalk.i64_in _ (by omega)
        have hq1 : IntKind.i64.wrap (4 * (k : Int) + 1) = 4 * (k : Int) + 1 := IntWalk.i64_in _ (by omega)
        have hq2 : IntKind.i64.wrap (4 * (k : Int) + 2) = 4 * (k : Int) + 2 := IntWalk.i64_in _ (by omega)
        have hq3 : IntKind.i64.wrap (4 * (k : Int) + 3) = 4 * (k : Int) + 3 := IntWalk.i64_in _ (by omega)
        have hk0 : (0 : Int) ≤ (k : Int) := by omega
        have hk1 : (k : Int) < 16 := by omega
        have hk64 : (k : Int) < 64 := by omega
        have ck := cell_arr hr k (by rw [schedRow_length b k (by omega)]; exact hlt)
        have cf := frozen_of_heap hr k
        have hnx : nextW b (sched b k) = word4 y0 y1 y2 y3 := by unfold nextW; rw [sched_length, if_pos h16, hy0, hy1, hy2, hy3]; rfl
        have HR := Lib.hid hr; have HKR := Lib.hid hkr; have HNX := Lib.hid hnx
        clear hr hkr hnx hy0 hy1 hy2 hy3 hb64
        go_wp2_with fail
        apply wp_oneEnd
        · go_region
          all_goals exact ⟨rfl, rfl⟩
        · go_wp2_with fail
          go_roundw
          case rel =>
            refine ⟨k + 1, by simp, by omega, ?_, ((HKR.out.setCell (fun _ => rfl) _)).drew⟩
            show (wr.setCell _ _).heap[w2.heap.size + 1]? = _
            simp only [conv_m, shl_24, shl_16, shl_8, or_uw]
            rw [heap_set HR.out, ← schedRow_step b k hlt, HNX.out]
            rfl
          case measure => simp [intOf]; omega
      · have g15 := schedRow_get b k (k - 15) (by omega)
        have g2 := schedRow_get b k (k - 2) (by omega)
        have g16 := schedRow_get b k (k - 16) (by omega)
        have g7 := schedRow_get b k (k - 7) (by omega)
        have hl := schedRow_length b k (by omega)
        have c15 := cell_arr hr (k - 15) (by rw [hl]; omega)
        have c2 := cell_arr hr (k - 2) (by rw [hl]; omega)
        have c16 := cell_arr hr (k - 16) (by rw [hl]; omega)
        have c7 := cell_arr hr (k - 7) (by rw [hl]; omega)
        have ck := cell_arr hr k (by rw [hl]; omega)
        have cf := frozen_of_heap hr k
        have hnx : nextW b (sched b k) = wAt (schedRow b k) (k - 16) + sg0 (wAt (schedRow b k) (k - 15)) + wAt (schedRow b k) (k - 7) + sg1 (wAt (schedRow b k) (k - 2)) := by
          unfold nextW
          rw [sched_length, if_neg h16, g15, g2, g16, g7]
        clear g15 g2 g16 g7 hl
        obtain ⟨i15, h15⟩ : ∃ i, i = k - 15 := ⟨_, rfl⟩
        obtain ⟨i2, h2⟩ : ∃ i, i = k - 2 := ⟨_, rfl⟩
        obtain ⟨i16, hi16⟩ : ∃ i, i = k - 16 := ⟨_, rfl⟩
        obtain ⟨i7, h7⟩ : ∃ i, i = k - 7 := ⟨_, rfl⟩
        rw [← h15] at c15 hnx; rw [← h2] at c2 hnx; rw [← hi16] at c16 hnx; rw [← h7] at c7 hnx
        obtain ⟨a15, e15⟩ : ∃ x, x = wAt (schedRow b k) i15 := ⟨_, rfl⟩
        obtain ⟨a2, e2⟩ : ∃ x, x = wAt (schedRow b k) i2 := ⟨_, rfl⟩
        obtain ⟨a16, e16⟩ : ∃ x, x = wAt (schedRow b k) i16 := ⟨_, rfl⟩
        obtain ⟨a7, e7⟩ : ∃ x, x = wAt (schedRow b k) i7 := ⟨_, rfl⟩
        rw [← e15] at c15 hnx; rw [← e2] at c2 hnx; rw [← e16] at c16 hnx; rw [← e7] at c7 hnx
        obtain ⟨vk, evk⟩ : ∃ x, x = Value.int .u32 (uw (wAt (schedRow b k) k)) := ⟨_, rfl⟩
        rw [← evk] at ck
        clear e15 e2 e16 e7 evk
        have hk0 : (0 : Int) ≤ (k : Int) := by omega
        have hk1 : ¬ (k : Int) < 16 := by omega
        have hk16 : (16 : Int) ≤ (k : Int) := by omega
        have hk64 : (k : Int) < 64 := by omega
        have p15 : (0 : Int) ≤ (i15 : Int) ∧ (i15 : Int) < 64 := by omega
        have p2 : (0 : Int) ≤ (i2 : Int) ∧ (i2 : Int) < 64 := by omega
        have p16 : (0 : Int) ≤ (i16 : Int) ∧ (i16 : Int) < 64 := by omega
        have p7 : (0 : Int) ≤ (i7 : Int) ∧ (i7 : Int) < 64 := by omega
        have w15 : (k : Int) - 15 = (i15 : Int) := by omega
        have wi2 : (k : Int) - 2 = (i2 : Int) := by omega
        have w16 : IntKind.i64.wrap ((k : Int) - 16) = (i16 : Int) := by rw [IntWalk.i64_in _ (by omega)]; omega
        have w7 : IntKind.i64.wrap ((k : Int) - 7) = (i7 : Int) := by rw [IntWalk.i64_in _ (by omega)]; omega
        have n16 : ¬ (k = i16) := by omega
        have n7 : ¬ (k = i7) := by omega
        have HR := Lib.hid hr; have HKR := Lib.hid hkr; have HNX := Lib.hid hnx
        clear hr hkr hnx h15 h2 hi16 h7
        go_wp2_with fail
        apply wp_oneEnd
        · go_region_held3 (fun w' => w'.cell? ⟨w2.heap.size + 1, i16, none⟩ = some (.int .u32 (uw a16)) ∧ w'.cell? ⟨w2.heap.size + 1, i7, none⟩ = some (.int .u32 (uw a7))) (first | (simp only [World.cell?_drew]; exact ⟨c16, c7⟩) | (simp only [World.cell?_drew]; exact ⟨cell_set_ne _ _ _ _ _ _ n16 c16, cell_set_ne _ _ _ _ _ _ n7 c7⟩))
            (first
              | (go_at_call_of 37 (7 : Int); refine (rot_7 a15 _).mono ?_; rintro e w' ⟨rfl, rfl⟩)
              | (go_at_call_of 37 (18 : Int); refine (rot_18 a15 _).mono ?_; rintro e w' ⟨rfl, rfl⟩)
              | (go_at_call_of 37 (17 : Int); refine (rot_17 a2 _).mono ?_; rintro e w' ⟨rfl, rfl⟩)
              | (go_at_call_of 37 (19 : Int); refine (rot_19 a2 _).mono ?_; rintro e w' ⟨rfl, rfl⟩))
          all_goals exact ⟨rfl, rfl⟩
        · go_wp2_with fail
          go_roundw
          case rel =>
            refine ⟨k + 1, by simp, by omega, ?_, (((((HKR.out.setCell (fun _ => rfl) _).drew).drew).drew).drew).drew⟩
            show (wr.setCell _ _).heap[w2.heap.size + 1]? = _
            simp only [shr_3, shr_10, xor_uw]
            rw [heap_set HR.out, ← schedRow_step b k hlt, HNX.out]
            rfl
          case measure => simp [intOf]; omega
    · obtain rfl : k = 64 := by omega
      have e64 : schedRow b 64 = sched b 64 := by simp [schedRow]
      rw [e64] at hr
      obtain ⟨T, hT⟩ : ∃ T, T = sched b 64 := ⟨_, rfl⟩
      rw [← hT] at hr
      have hlT : T.length = 64 := by rw [hT]; exact sched_length b 64
      have q1 := Z1.out; have q4 := Z4.out
      have hs0 := (hkr.heap ((K2.out.trans K4.out).heap H10.out (fun e => e)) (fun e => by omega))
      have hs1 := (hkr.heap ((K2.out.trans K4.out).heap H11.out (fun e => e)) (fun e => by omega))
      have hkc := hkr.heap H40.out (fun e => by omega)
      obtain ⟨wo, rfl⟩ : ∃ wo : World, wo = wr := ⟨_, rfl⟩
      obtain ⟨w6, hw6⟩ : ∃ w6, w6 = wo.alloc (.cells (arr s.list) 45) := ⟨_, rfl⟩
      have k6 : Keeps noBlock wo w6 := by rw [hw6]; exact (Keeps.refl _ _).alloc _
      have hv6 : w6.heap[wo.heap.size]? = some (.cells (arr (rnds T s 0).list) 45 (0, 0)) := by rw [hw6]; exact heap_alloc_at
      have hr6 := k6.heap hr (fun e => e); have hs6 := k6.heap hs0 (fun e => e); have ht6 := k6.heap hs1 (fun e => e); have hk6 := k6.heap hkc (fun e => e)
      have qo : w4.heap.size ≤ wo.heap.size := hkr.size
      have hkw : Keeps noBlock w wo := by
        have a1 := ((K1.out.trans K2.out).trans K4.out)
        exact a1.trans' hkr (fun j hj e => by have := k6.size; have := K1.out.size; omega)
      have HS0 := Lib.hid hs0; have HR6 := Lib.hid hr6; have HS6 := Lib.hid hs6; have HT6 := Lib.hid ht6; have HK6 := Lib.hid hk6; have HV6 := Lib.hid hv6; have HW6 := Lib.hid hw6; have K6 := Lib.hid k6; have HKW := Lib.hid hkw
      have HT := Lib.hid hT; have HLT := Lib.hid hlT
      have QQ := Lib.hid (show w.heap.size + 1 < w2.heap.size ∧ w2.heap.size + 1 < wo.heap.size by omega)
      clear hr hkr hs0 hs1 hkc hw6 k6 hv6 hr6 hs6 ht6 hk6 hkw hT hlT e64 hlt hk q1 q4 qo
      go_wp2_with (first
        | (refine wpList_load_row rfl _ _ rfl w.heap.size rfl _ (arr s.list) (0, 0) _ HS0.out Try.underlying45 rfl (size8 _ rfl) ?_)
        | (refine wpList_store_new rfl _ _ _ rfl _ (arr s.list) rfl rfl (size8 _ rfl) rfl (all_arr _) ?_))
      rw [← HW6.out]
      go_loopw [11] (BlkRel w6 wo.heap.size T s) (fun i _ => 64 - (intOf i).toNat)
      case atStart => exact ⟨0, rfl, by omega, HV6.out, Keeps.refl _ _⟩
      case round =>
        obtain ⟨k, rfl, hk, hr, hkr⟩ := hrel
        by_cases hlt : k < 64
        · have hq := QQ.out
          have ct := cell_arr (hkr.heap HR6.out (fun e => by omega)) k (by rw [HLT.out]; exact hlt)
          have ck := cell_arr (hkr.heap HK6.out (fun e => by omega)) k hlt
          obtain ⟨t, ht⟩ : ∃ t, t = rnds T s k := ⟨_, rfl⟩
          rw [← ht] at hr
          obtain ⟨xt, hxt⟩ : ∃ x, x = wAt T k := ⟨_, rfl⟩
          obtain ⟨xk, hxk⟩ : ∃ x, x = wAt kc k := ⟨_, rfl⟩
          rw [← hxt] at ct; rw [← hxk] at ck
          obtain ⟨ta, tb, tc, td, te, tf, tg, th⟩ := t
          have hl8 : (S8.list ⟨ta, tb, tc, td, te, tf, tg, th⟩).length = 8 := rfl
          have c0 : wr.cell? ⟨wo.heap.size, 0, none⟩ = some (.int .u32 (uw ta)) := cell_arr hr 0 (by rw [hl8]; omega)
          have c1 : wr.cell? ⟨wo.heap.size, 1, none⟩ = some (.int .u32 (uw tb)) := cell_arr hr 1 (by rw [hl8]; omega)
          have c2 : wr.cell? ⟨wo.heap.size, 2, none⟩ = some (.int .u32 (uw tc)) := cell_arr hr 2 (by rw [hl8]; omega)
          have c3 : wr.cell? ⟨wo.heap.size, 3, none⟩ = some (.int .u32 (uw td)) := cell_arr hr 3 (by rw [hl8]; omega)
          have c4 : wr.cell? ⟨wo.heap.size, 4, none⟩ = some (.int .u32 (uw te)) := cell_arr hr 4 (by rw [hl8]; omega)
          have c5 : wr.cell? ⟨wo.heap.size, 5, none⟩ = some (.int .u32 (uw tf)) := cell_arr hr 5 (by rw [hl8]; omega)
          have c6 : wr.cell? ⟨wo.heap.size, 6, none⟩ = some (.int .u32 (uw tg)) := cell_arr hr 6 (by rw [hl8]; omega)
          have c7 : wr.cell? ⟨wo.heap.size, 7, none⟩ = some (.int .u32 (uw th)) := cell_arr hr 7 (by rw [hl8]; omega)
          have hk0 : (0 : Int) ≤ (k : Int) := by omega
          have hk1 : (k : Int) < 64 := by omega
          have hsg : ¬ (IntKind.u32.signed = true) := by decide
          have hmx : IntKind.u32.max = 4294967295 := by decide
          have HR := Lib.hid hr; have HTT := Lib.hid ht; have HX := Lib.hid hxt; have HY := Lib.hid hxk; have HKR := Lib.hid hkr
          clear ht hxt hxk hkr hr hq hl8
          go_wp2_with fail
          go_quiet ((first
            | (go_at_call_of 37 (6 : Int); exact Calls.quiet_of ((rot_6 te _).mono fun _ _ h => ⟨h.1, 1, by rw [← h.2]; rfl⟩))
            | (go_at_call_of 37 (11 : Int); exact Calls.quiet_of ((rot_11 te _).mono fun _ _ h => ⟨h.1, 1, by rw [← h.2]; rfl⟩))
            | (go_at_call_of 37 (25 : Int); exact Calls.quiet_of ((rot_25 te _).mono fun _ _ h => ⟨h.1, 1, by rw [← h.2]; rfl⟩))))
          obtain ⟨w7, hw7⟩ : ∃ w7, w7 = wr.drewN nq := ⟨_, rfl⟩
          rw [← hw7]
          have d0 : w7.cell? ⟨wo.heap.size, 0, none⟩ = some (.int .u32 (uw ta)) := by rw [hw7]; exact c0
          have d1 : w7.cell? ⟨wo.heap.size, 1, none⟩ = some (.int .u32 (uw tb)) := by rw [hw7]; exact c1
          have d2 : w7.cell? ⟨wo.heap.size, 2, none⟩ = some (.int .u32 (uw tc)) := by rw [hw7]; exact c2
          have d3 : w7.cell? ⟨wo.heap.size, 3, none⟩ = some (.int .u32 (uw td)) := by rw [hw7]; exact c3
          have d4 : w7.cell? ⟨wo.heap.size, 4, none⟩ = some (.int .u32 (uw te)) := by rw [hw7]; exact c4
          have d5 : w7.cell? ⟨wo.heap.size, 5, none⟩ = some (.int .u32 (uw tf)) := by rw [hw7]; exact c5
          have d6 : w7.cell? ⟨wo.heap.size, 6, none⟩ = some (.int .u32 (uw tg)) := by rw [hw7]; exact c6
          have d7 : w7.cell? ⟨wo.heap.size, 7, none⟩ = some (.int .u32 (uw th)) := by rw [hw7]; exact c7
          have hr7 : w7.heap[wo.heap.size]? = some (.cells (arr (S8.list ⟨ta, tb, tc, td, te, tf, tg, th⟩)) 45 (0, 0)) := by rw [hw7]; exact HR.out
          have k7 : Keeps (fun x => x = wo.heap.size) w6 w7 := by rw [hw7]; exact HKR.out.drewN _
          have HR7 := Lib.hid hr7; have K7 := Lib.hid k7
          clear hw7 c0 c1 c2 c3 c4 c5 c6 c7 ct ck hr7 k7
          go_wp2_with fail
          go_quiet ((first
            | (go_at_call_of 37 (2 : Int); exact Calls.quiet_of ((rot_2 ta _).mono fun _ _ h => ⟨h.1, 1, by rw [← h.2]; rfl⟩))
            | (go_at_call_of 37 (13 : Int); exact Calls.quiet_of ((rot_13 ta _).mono fun _ _ h => ⟨h.1, 1, by rw [← h.2]; rfl⟩))
            | (go_at_call_of 37 (22 : Int); exact Calls.quiet_of ((rot_22 ta _).mono fun _ _ h => ⟨h.1, 1, by rw [← h.2]; rfl⟩))))
          obtain ⟨w8, hw8⟩ : ∃ w8, w8 = w7.drewN nq := ⟨_, rfl⟩
          rw [← hw8]
          have f0 : w8.cell? ⟨wo.heap.size, 0, none⟩ = some (.int .u32 (uw ta)) := by rw [hw8]; exact d0
          have f1 : w8.cell? ⟨wo.heap.size, 1, none⟩ = some (.int .u32 (uw tb)) := by rw [hw8]; exact d1
          have f2 : w8.cell? ⟨wo.heap.size, 2, none⟩ = some (.int .u32 (uw tc)) := by rw [hw8]; exact d2
          have f3 : w8.cell? ⟨wo.heap.size, 3, none⟩ = some (.int .u32 (uw td)) := by rw [hw8]; exact d3
          have f4 : w8.cell? ⟨wo.heap.size, 4, none⟩ = some (.int .u32 (uw te)) := by rw [hw8]; exact d4
          have f5 : w8.cell? ⟨wo.heap.size, 5, none⟩ = some (.int .u32 (uw tf)) := by rw [hw8]; exact d5
          have f6 : w8.cell? ⟨wo.heap.size, 6, none⟩ = some (.int .u32 (uw tg)) := by rw [hw8]; exact d6
          have f7 : w8.cell? ⟨wo.heap.size, 7, none⟩ = some (.int .u32 (uw th)) := by rw [hw8]; exact d7
          have hr8 : w8.heap[wo.heap.size]? = some (.cells (arr (S8.list ⟨ta, tb, tc, td, te, tf, tg, th⟩)) 45 (0, 0)) := by rw [hw8]; exact HR7.out
          have k8 : Keeps (fun x => x = wo.heap.size) w6 w8 := by rw [hw8]; exact K7.out.drewN _
          have hi8 : (Try.prog.info? 45).map (·.size) = some 8 := by kernel_rfl
          have HR8 := Lib.hid hr8; have K8 := Lib.hid k8; have HI8 := Lib.hid hi8
          clear hw8 d0 d1 d2 d3 d4 d5 d6 d7 hr8 k8 hi8
          go_wp2_with (refine wpList_store8 rfl _ _ _ rfl wo.heap.size _ _ _ _ _ _ _ _ rfl rfl _ _ HR8.out HI8.out rfl rfl rfl rfl rfl rfl rfl rfl rfl ?_)
          clear f0 f1 f2 f3 f4 f5 f6 f7
          go_wp2_with fail
          go_roundw
          case rel =>
            have e1 : rnds T s (k + 1) = rnd ⟨ta, tb, tc, td, te, tf, tg, th⟩ xk xt := by rw [HTT.out, HX.out, HY.out]; rfl
            refine ⟨k + 1, by simp, by omega, ?_, K8.out.trans ⟨rfl, rfl, rfl, by simp, fun j hj hn => setRow_other _ _ _ _ hn⟩⟩
            rw [setRow_heap _ _ _ _ _ _ HR8.out, e1]
            simp only [not_uw, and_uw, xor_uw, add7_uw, add6_uw]
            rfl
          case measure => simp [intOf]; omega
        · obtain rfl : k = 64 := by omega
          have hq := QQ.out
          obtain ⟨t, ht⟩ : ∃ t, t = rnds T s 64 := ⟨_, rfl⟩
          rw [← ht] at hr
          have hs2 := hkr.heap HS6.out (fun e => by omega)
          have ht2 := hkr.heap HT6.out (fun e => by omega)
          have hm0 : mixL s t 0 = s.list := rfl
          rw [← hm0] at hs2
          obtain ⟨wp, rfl⟩ : ∃ wp : World, wp = wr := ⟨_, rfl⟩
          have hkp : Keeps noBlock w wp := (HKW.out.trans K6.out).trans' hkr (fun j hj e => by have := HKW.out.size; omega)
          have HR := Lib.hid hr; have HS2 := Lib.hid hs2; have HT2 := Lib.hid ht2; have HTT := Lib.hid ht; have HKP := Lib.hid hkp
          clear hr hs2 ht2 ht hkp hkr hlt hk hm0
          go_wp2_with fail
          go_loopw [16] (AddRel2 wp w.heap.size s t) (fun i _ => 8 - (intOf i).toNat)
          case atStart => exact ⟨0, rfl, by omega, HS2.out, Keeps.refl _ _⟩
          case round =>
            obtain ⟨k, rfl, hk, hr, hkr⟩ := hrel
            by_cases hlt : k < 8
            · have ck := cell_arr hr k (by rw [mixL_length]; exact hlt)
              rw [mixL_get _ _ _ hlt] at ck
              have cx := cell_arr (hkr.heap HR.out (fun e => by omega)) k (by show k < 8; exact hlt)
              have cf := frozen_of_heap hr k
              obtain ⟨y, hy⟩ : ∃ y, y = wAt s.list k := ⟨_, rfl⟩
              obtain ⟨x, hx⟩ : ∃ x, x = wAt t.list k := ⟨_, rfl⟩
              rw [← hy] at ck; rw [← hx] at cx
              have hk0 : (0 : Int) ≤ (k : Int) := by omega
              have hk1 : (k : Int) < 8 := by omega
              have HX := Lib.hid hx; have HY := Lib.hid hy; have HRR := Lib.hid hr; have HKR2 := Lib.hid hkr
              clear hx hy hr hkr hq
              go_wp2_with fail
              apply wp_oneEnd
              · go_region
                all_goals exact ⟨rfl, rfl⟩
              · go_wp2_with fail
                go_roundw
                case rel =>
                  refine ⟨k + 1, by simp, by omega, ?_, ((HKR2.out.setCell (fun _ => rfl) _)).drew⟩
                  show (wr.setCell _ _).heap[w.heap.size]? = _
                  rw [add2_uw, heap_set HRR.out, ← mixL_step _ _ _ hlt, HX.out, HY.out]
                case measure => simp [intOf]; omega
            · obtain rfl : k = 8 := by omega
              have hz := hkr.heap HT2.out (fun e => by omega)
              have hfin : mixL s t 8 = (blk s b).list := by
                have e : blk s b = addS s t := by rw [HTT.out, HT.out]; rfl
                rw [e]
                rfl
              obtain ⟨L, hL⟩ : ∃ L, L = (blk s b).list := ⟨_, rfl⟩
              have hL8 : L.length = 8 := by rw [hL]; exact list8 _
              rw [hfin, ← hL] at hr
              have HLL := Lib.hid hL
              have hsz8 := size8 L hL8
              have ho8 : (arr (List.replicate 8 0)).size = (arr L).size := by rw [size_arr, size_arr, hL8]; rfl
              have HRR := Lib.hid hr; have HKR2 := Lib.hid hkr; have HZ := Lib.hid hz; have HSZ := Lib.hid hsz8; have HO8 := Lib.hid ho8
              clear hr hkr hlt hz hfin hL hL8 hsz8 ho8
              go_wp2_with (first
                | (refine wpList_load_row rfl _ _ rfl w.heap.size rfl _ (arr L) (0, 0) _ HRR.out Try.underlying45 rfl HSZ.out ?_)
                | (refine wpList_store_row rfl _ _ _ rfl (w.heap.size + 1) (arr L) rfl rfl _ _ HZ.out HSZ.out HO8.out (all_arr _) ?_))
              refine bodyPost_ret (results_cell_row rfl _ _ (w.heap.size + 1) _ (arr L) (0, 0) _ rfl (setRow_heap _ _ _ _ _ _ HZ.out) Try.underlying45 rfl HSZ.out) rfl ⟨by rw [HLL.out], ?_⟩
              have c1 := (HKP.out.any' (fun x => w.heap.size ≤ x)).trans (HKR2.out.mono (fun k _ e => by omega))
              have c2 : Keeps (fun x => w.heap.size ≤ x) w (wr.setRow (w.heap.size + 1) (arr L)) :=
                c1.trans ⟨rfl, rfl, rfl, by simp, fun j hj hn => setRow_other _ _ _ _ (fun e => hn (by omega))⟩
              exact c2.mono (fun k hk e => by omega)
end Go.Proofs.Yteikldemppbjpaa
