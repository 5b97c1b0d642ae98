/-
  The schedule of a block: what the program's functions return. No condition but that the block's 64 bytes lie there.
-/
import Derived.Test.YthlkgmdkabelpaaGreatDoorHSched
namespace Go.Proofs.YthlkgmdkabelpaaGreatDoor
open Go Go.RowKit
set_option linter.unusedVariables false

theorem conv_m (b : UInt8) : (b.toNat : Int) % (4294967296 : Int) = uw (b32 b) := by rw [← conv_u8, IntKind.wrap_u32]
theorem word_any (g o n cap : Nat) (x y z t : UInt8) (w : World) (hn : 4 ≤ n) (h0 : w.cell? ⟨g, o, none⟩ = some (.int .u8 (x.toNat : Int))) (h1 : w.cell? ⟨g, o + 1, none⟩ = some (.int .u8 (y.toNat : Int)))
    (h2 : w.cell? ⟨g, o + 2, none⟩ = some (.int .u8 (z.toNat : Int))) (h3 : w.cell? ⟨g, o + 3, none⟩ = some (.int .u8 (t.toNat : Int))) :
    Calls Tryz.prog 163 #[.slice (some ⟨g, o, none⟩) n cap] w fun e w' => e = .returned (.int .u32 (uw (word4 x y z t))) ∧ Keeps noBlock w w' := by
  have hn0 : (0 : Int) < (n : Int) := by omega
  have hn1 : (1 : Int) < (n : Int) := by omega
  have hn2 : (2 : Int) < (n : Int) := by omega
  have hn3 : (3 : Int) < (n : Int) := by omega
  go_enter Tryz.func163, Tryz.ntmps163
  go_wp2_with fail
  go_quiet (fail)
  go_wp2_with fail
  go_ret
  refine ⟨?_, (Keeps.refl noBlock w).drewN _⟩
  simp only [conv_m, shl_24, shl_16, shl_8, or_uw]
  rfl
/-- 64 bytes that lie in block g from off on -/
def BytesAt (w : World) (g off : Nat) (b : List UInt8) : Prop := ∀ j, j < 64 → w.cell? ⟨g, off + j, none⟩ = some (.int .u8 ((b.getD j 0).toNat : Int))
theorem BytesAt.keep {S : Nat → Prop} {w w' : World} {g off : Nat} {b : List UInt8} (h : BytesAt w g off b) (hk : Keeps S w w') (hs : ¬ S g) : BytesAt w' g off b :=
  fun j hj => hk.cell (h j hj) hs
/-- the words up to k of a schedule, in a row of 64 -/
def schedRow (b : List UInt8) (k : Nat) : List W32 := sched b k ++ List.replicate (64 - k) 0
theorem schedRow_length (b : List UInt8) (k : Nat) (h : k ≤ 64) : (schedRow b k).length = 64 := by simp [schedRow, sched_length]; omega
theorem schedRow_get (b : List UInt8) (k i : Nat) (h : i < k) : wAt (schedRow b k) i = wAt (sched b k) i := by
  unfold wAt schedRow
  rw [List.getD_eq_getElem?_getD, List.getD_eq_getElem?_getD, List.getElem?_append_left (by rw [sched_length]; exact h)]
theorem schedRow_step (b : List UInt8) (k : Nat) (h : k < 64) : (arr (schedRow b k)).setIfInBounds k (.int .u32 (uw (nextW b (sched b k)))) = arr (schedRow b (k + 1)) := by
  have e : schedRow b (k + 1) = (schedRow b k).set k (nextW b (sched b k)) := by
    unfold schedRow
    rw [List.set_append_right _ _ (by rw [sched_length]; omega), sched_length, Nat.sub_self]
    rw [show 64 - k = (64 - (k + 1)) + 1 by omega, List.replicate_succ, List.set_cons_zero]
    simp [sched]
  rw [e]
  unfold arr wvs
  rw [List.map_set]
  simp [uv]

def SchedRel (w : World) (g : Nat) (b : List UInt8) (i : Value) (wr : World) : Prop :=
  ∃ k : Nat, i = .int .i64 (k : Int) ∧ k ≤ 64 ∧ wr.heap[g]? = some (.cells (arr (schedRow b k)) 229 (0, 0)) ∧ Keeps (fun x => x = g) w wr
theorem cell_arr {w : World} {g : Nat} {l : List W32} {t : TypeId} (h : w.heap[g]? = some (.cells (arr l) t (0, 0))) (i : Nat) (hi : i < l.length) : w.cell? ⟨g, i, none⟩ = some (.int .u32 (uw (wAt l i))) := by
  rw [cell_of_heap h, arr_get l i hi]

theorem add4_uw (a b c d : W32) : (uw a + uw b + uw c + uw d) % (4294967296 : Int) = uw (a + b + c + d) := by
  rw [← add_uw, ← add_uw, ← add_uw, IntKind.wrap_u32, IntKind.wrap_u32, IntKind.wrap_u32]
  omega
set_option maxRecDepth 100000 in
set_option maxHeartbeats 1000000 in
theorem schedule_any (g off cap : Nat) (b : List UInt8) (w : World) (hb : BytesAt w g off b) (hc : 64 ≤ cap) :
    Calls Tryz.prog 128 #[.slice (some ⟨g, off, none⟩) 64 cap] w fun e w' => e = .returned (.agg (arr (sched b 64))) ∧ Keeps noBlock w w' := by
  have hgl : g < w.heap.size := World.block_lt_of_cell? w _ (hb 0 (by omega))
  obtain ⟨w2, hw2⟩ : ∃ w2, w2 = (w.alloc (.cells (arr (List.replicate 64 0)) 229)).alloc (.cells (arr (List.replicate 64 0)) 229) := ⟨_, rfl⟩
  have hz := zeros64
  have k2 : Keeps noBlock w w2 := by rw [hw2]; exact ((Keeps.refl _ _).alloc _).alloc _
  have hb2 := hb.keep k2 (fun e => e)
  have h0 : w2.heap[w.heap.size]? = some (.cells (arr (List.replicate 64 0)) 229 (0, 0)) := by
    rw [hw2, Below.heap_alloc _ _ _ (by simp)]; exact heap_alloc_at
  have h1 : w2.heap[w.heap.size + 1]? = some (.cells (arr (schedRow b 0)) 229 (0, 0)) := by
    rw [hw2]
    have e := heap_alloc_at (w := w.alloc (.cells (arr (List.replicate 64 0)) 229)) (o := .cells (arr (List.replicate 64 0)) 229)
    rw [World.size_alloc] at e
    exact e
  have HB := Lib.hid hb2; have H0 := Lib.hid h0; have H1 := Lib.hid h1; have K2 := Lib.hid k2; have HZ := Lib.hid hz; have HW2 := Lib.hid hw2
  have HC := Lib.hid hc
  clear hb hb2 h0 h1 k2 hz hw2 hc
  go_enter Tryz.func128, Tryz.ntmps128
  go_wp2_with fail
  rw [HZ.out, ← HW2.out]
  go_loopw [9] (SchedRel w2 (w.heap.size + 1) b) (fun i _ => 64 - (intOf i).toNat)
  case atStart => exact ⟨0, rfl, by omega, H1.out, Keeps.refl _ _⟩
  case round =>
    obtain ⟨k, rfl, hk, hr, hkr⟩ := hrel
    by_cases hlt : k < 64
    · by_cases h16 : k < 16
      · have hbr := HB.out.keep hkr (fun e => by omega)
        have hne : ¬ cap = 4 * k := by have := HC.out; omega
        have hk0 : (0 : Int) ≤ (k : Int) := by omega
        have hk1 : (k : Int) < 16 := by omega
        have hk64 : (k : Int) < 64 := by omega
        have HBR := Lib.hid hbr; have HR := Lib.hid hr; have HKR := Lib.hid hkr
        clear hbr hr hkr
        go_wp2_with fail
        have e4 : ∀ j, j < 4 → wr.cell? ⟨g, off + 4 * k + j, none⟩ = some (.int .u8 ((b.getD (4 * k + j) 0).toNat : Int)) := fun j hj => by
          have := HBR.out (4 * k + j) (by omega)
          rwa [← Nat.add_assoc] at this
        refine (word_any g (off + 4 * k) (64 - 4 * k) (cap - 4 * k) _ _ _ _ wr (by omega) (e4 0 (by omega)) (e4 1 (by omega)) (e4 2 (by omega)) (e4 3 (by omega))).mono ?_
        rintro e w3 ⟨rfl, k3⟩
        have hr3 := k3.heap HR.out (fun e => e)
        have hc3 := cell_arr hr3 k (by rw [schedRow_length b k (by omega)]; exact hlt)
        have hf3 := frozen_of_heap hr3 k
        have HR3 := Lib.hid hr3; have K3 := Lib.hid k3
        clear hr3 k3 e4
        go_wp2_with fail
        go_roundw
        case rel =>
          refine ⟨k + 1, by simp, by omega, ?_, (HKR.out.trans (K3.out.any' _)).setCell (fun _ => rfl) _⟩
          rw [heap_set HR3.out, ← schedRow_step b k hlt]
          unfold nextW
          rw [sched_length, if_pos h16]
          rfl
        case measure => simp [intOf]; omega
      · have g15 := schedRow_get b k (k - 15) (by omega)
        have g2 := schedRow_get b k (k - 2) (by omega)
        have g16 := schedRow_get b k (k - 16) (by omega)
        have g7 := schedRow_get b k (k - 7) (by omega)
        have hl := schedRow_length b k (by omega)
        have c15 := cell_arr hr (k - 15) (by rw [hl]; omega)
        have c2 := cell_arr hr (k - 2) (by rw [hl]; omega)
        have c16 := cell_arr hr (k - 16) (by rw [hl]; omega)
        have c7 := cell_arr hr (k - 7) (by rw [hl]; omega)
        have ck := cell_arr hr k (by rw [hl]; omega)
        have cf := frozen_of_heap hr k
        have hnx : nextW b (sched b k) = wAt (schedRow b k) (k - 16) + sg0 (wAt (schedRow b k) (k - 15)) + wAt (schedRow b k) (k - 7) + sg1 (wAt (schedRow b k) (k - 2)) := by
          unfold nextW
          rw [sched_length, if_neg h16, g15, g2, g16, g7]
        clear g15 g2 g16 g7 hl
        obtain ⟨i15, h15⟩ : ∃ i, i = k - 15 := ⟨_, rfl⟩
        obtain ⟨i2, h2⟩ : ∃ i, i = k - 2 := ⟨_, rfl⟩
        obtain ⟨i16, hi16⟩ : ∃ i, i = k - 16 := ⟨_, rfl⟩
        obtain ⟨i7, h7⟩ : ∃ i, i = k - 7 := ⟨_, rfl⟩
        rw [← h15] at c15 hnx; rw [← h2] at c2 hnx; rw [← hi16] at c16 hnx; rw [← h7] at c7 hnx
        obtain ⟨a15, e15⟩ : ∃ x, x = wAt (schedRow b k) i15 := ⟨_, rfl⟩
        obtain ⟨a2, e2⟩ : ∃ x, x = wAt (schedRow b k) i2 := ⟨_, rfl⟩
        obtain ⟨a16, e16⟩ : ∃ x, x = wAt (schedRow b k) i16 := ⟨_, rfl⟩
        obtain ⟨a7, e7⟩ : ∃ x, x = wAt (schedRow b k) i7 := ⟨_, rfl⟩
        rw [← e15] at c15 hnx; rw [← e2] at c2 hnx; rw [← e16] at c16 hnx; rw [← e7] at c7 hnx
        clear e15 e2 e16 e7
        have hk0 : (0 : Int) ≤ (k : Int) := by omega
        have hk1 : ¬ (k : Int) < 16 := by omega
        have hk16 : (16 : Int) ≤ (k : Int) := by omega
        have hk64 : (k : Int) < 64 := by omega
        have p15 : (0 : Int) ≤ (i15 : Int) ∧ (i15 : Int) < 64 := by omega
        have p2 : (0 : Int) ≤ (i2 : Int) ∧ (i2 : Int) < 64 := by omega
        have p16 : (0 : Int) ≤ (i16 : Int) ∧ (i16 : Int) < 64 := by omega
        have p7 : (0 : Int) ≤ (i7 : Int) ∧ (i7 : Int) < 64 := by omega
        have w15 : IntKind.i64.wrap ((k : Int) - 15) = (i15 : Int) := by rw [IntWalk.i64_in _ (by omega)]; omega
        have wi2 : IntKind.i64.wrap ((k : Int) - 2) = (i2 : Int) := by rw [IntWalk.i64_in _ (by omega)]; omega
        have w16 : IntKind.i64.wrap ((k : Int) - 16) = (i16 : Int) := by rw [IntWalk.i64_in _ (by omega)]; omega
        have w7 : IntKind.i64.wrap ((k : Int) - 7) = (i7 : Int) := by rw [IntWalk.i64_in _ (by omega)]; omega
        have HR := Lib.hid hr; have HKR := Lib.hid hkr; have HNX := Lib.hid hnx
        clear hr hkr hnx h15 h2 hi16 h7
        go_wp2_with fail
        go_quiet (fail)
        go_wp2_with fail
        refine (rotl_7 a15 _).mono ?_
        rintro e w3 ⟨rfl, rfl⟩
        go_wp2_with fail
        refine (rotl_18 a15 _).mono ?_
        rintro e w3 ⟨rfl, rfl⟩
        go_wp2_with fail
        refine (rotl_17 a2 _).mono ?_
        rintro e w3 ⟨rfl, rfl⟩
        go_wp2_with fail
        refine (rotl_19 a2 _).mono ?_
        rintro e w3 ⟨rfl, rfl⟩
        go_wp2_with fail
        go_region
        go_wp2_with fail
        go_roundw
        case rel =>
          refine ⟨k + 1, by simp, by omega, ?_, ((HKR.out.drewN _).setCell (fun _ => rfl) _)⟩
          simp only [shr_3, shr_10, xor_uw]
          have hh : (wr.drewN (nq + 1)).heap[w.heap.size + 1]? = some (.cells (arr (schedRow b k)) 229 (0, 0)) := HR.out
          rw [add4_uw, heap_set hh, ← schedRow_step b k hlt, HNX.out]
          rfl
        case measure => simp [intOf]; omega
    · obtain rfl : k = 64 := by omega
      have e64 : schedRow b 64 = sched b 64 := by simp [schedRow]
      rw [e64] at hr
      have h0 := hkr.heap H0.out (fun e => by omega)
      have hl : (sched b 64).length = 64 := sched_length b 64
      have hs := size64 _ hl
      have HR := Lib.hid hr; have HKR := Lib.hid hkr; have HH0 := Lib.hid h0; have HS := Lib.hid hs; have HL := Lib.hid hl
      clear hr hkr h0 hs hl e64 hlt
      go_wp2_with (first
        | (refine wpList_load_row rfl _ _ rfl (w.heap.size + 1) rfl _ (arr (sched b 64)) (0, 0) _ HR.out Tryz.underlying229 rfl HS.out ?_)
        | (refine wpList_store_row rfl _ _ _ rfl w.heap.size (arr (sched b 64)) rfl rfl _ _ HH0.out HS.out (by rw [size_arr, size_arr, HL.out]; rfl) (all_arr _) ?_))
      refine bodyPost_ret (results_cell_row rfl _ _ w.heap.size _ (arr (sched b 64)) (0, 0) _ rfl (setRow_heap _ _ _ _ _ _ HH0.out) Tryz.underlying229 rfl HS.out) rfl ⟨rfl, ?_⟩
      have hk := HKR.out.mono (T := fun x => x = w.heap.size ∨ x = w.heap.size + 1) (fun _ _ e => .inr e)
      have hk2 : Keeps (fun x => x = w.heap.size ∨ x = w.heap.size + 1) w2 (wr.setRow w.heap.size (arr (sched b 64))) :=
        hk.trans ⟨rfl, rfl, rfl, by simp, fun j hj hn => setRow_other _ _ _ _ (fun e => hn (.inl e))⟩
      exact K2.out.trans' hk2 (fun j hj e => by omega)
end Go.Proofs.YthlkgmdkabelpaaGreatDoor
