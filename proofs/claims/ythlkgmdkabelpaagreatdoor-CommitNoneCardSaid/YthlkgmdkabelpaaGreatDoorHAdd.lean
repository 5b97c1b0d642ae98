/-
  A block added to a state: what the program's function does. No condition but that the block's 64 bytes lie there, apart from the state.
-/
import Derived.Test.YthlkgmdkabelpaaGreatDoorHSched2
namespace Go.Proofs.YthlkgmdkabelpaaGreatDoor
open Go Go.RowKit
set_option linter.unusedVariables false

theorem add2_uw (a b : W32) : (uw a + uw b) % (4294967296 : Int) = uw (a + b) := by
  rw [← add_uw, IntKind.wrap_u32]
theorem add5_uw (a b c d e : W32) : (uw a + uw b + uw c + uw d + uw e) % (4294967296 : Int) = uw (a + b + c + d + e) := by
  rw [← add_uw, ← add_uw, ← add_uw, ← add_uw, IntKind.wrap_u32, IntKind.wrap_u32, IntKind.wrap_u32, IntKind.wrap_u32]
  omega
def AddRel (w : World) (T : List W32) (s : S8) (a b c d e f g h i : Value) (wr : World) : Prop :=
  ∃ k : Nat, i = .int .i64 (k : Int) ∧ k ≤ 64 ∧ a = .int .u32 (uw (rnds T s k).a) ∧ b = .int .u32 (uw (rnds T s k).b) ∧ c = .int .u32 (uw (rnds T s k).c) ∧ d = .int .u32 (uw (rnds T s k).d) ∧
    e = .int .u32 (uw (rnds T s k).e) ∧ f = .int .u32 (uw (rnds T s k).f) ∧ g = .int .u32 (uw (rnds T s k).g) ∧ h = .int .u32 (uw (rnds T s k).h) ∧ Keeps noBlock w wr

/-- an element of an array of words -/
theorem run_index_arr {P : Program} (T e : TypeId) (n : Nat) (hu : P.underlying T = some (.array n e)) (hsz : (P.info? e).map (·.size) = some 1) (hue : P.underlying e = some (.int .u32)) (l : List W32) (k : Nat) (hk : k < n) (hl : l.length = n) (w : World) :
    (Instr.index T (.agg (arr l)) (.int .i64 (k : Int))).run P w = .ok (.int .u32 (uw (wAt l k))) w := by
  cases hq : P.info? e with
  | none => simp [hq] at hsz
  | some i =>
    have hi : i.size = 1 := by simpa [hq] using hsz
    have h1 : (arr l)[k]? = some (.int .u32 (uw (wAt l k))) := arr_get l k (by omega)
    have h2 : k < (arr l).size := by rw [size_arr]; omega
    have h3 : (arr l)[k] = .int .u32 (uw (wAt l k)) := by rw [Array.getElem?_eq_getElem h2] at h1; exact Option.some.inj h1
    have hagg : (isAgg e).run P w = .ok false w := by
      unfold isAgg
      rw [Sem.run_bind, run_underlying hue w]
      rfl
    simp [Instr.index, asIntOf, run_underlying hu, sizeOf, typeInfo, hq, hi, hk, part, h1, hagg]
/-- the words of a state, of which k are added -/
def mixL (s t : S8) (k : Nat) : List W32 := (List.range 8).map fun i => if i < k then wAt s.list i + wAt t.list i else wAt s.list i
theorem mixL_length (s t : S8) (k : Nat) : (mixL s t k).length = 8 := by simp [mixL]
theorem mixL_get (s t : S8) (k : Nat) (h : k < 8) : wAt (mixL s t k) k = wAt s.list k := by
  unfold mixL
  rw [wAt, List.getD_eq_getElem?_getD]
  simp [h]
theorem mixL_step (s t : S8) (k : Nat) (h : k < 8) : (arr (mixL s t k)).setIfInBounds k (.int .u32 (uw (wAt s.list k + wAt t.list k))) = arr (mixL s t (k + 1)) := by
  match k, h with
  | 0, _ => rfl
  | 1, _ => rfl
  | 2, _ => rfl
  | 3, _ => rfl
  | 4, _ => rfl
  | 5, _ => rfl
  | 6, _ => rfl
  | 7, _ => rfl
def AddRel2 (w : World) (sb : Nat) (s t : S8) (i : Value) (wr : World) : Prop :=
  ∃ k : Nat, i = .int .i64 (k : Int) ∧ k ≤ 8 ∧ wr.heap[sb]? = some (.cells (arr (mixL s t k)) 179 (0, 0)) ∧ Keeps (fun x => x = sb) w wr

set_option maxRecDepth 100000 in
set_option maxHeartbeats 1000000 in
theorem add_any (sb g off cap : Nat) (s : S8) (b : List UInt8) (w : World) (hs : w.heap[sb]? = some (.cells (arr s.list) 179 (0, 0))) (hb : BytesAt w g off b) (hc : 64 ≤ cap) (hne : g ≠ sb) :
    Calls Tryz.prog 93 #[.pointer (some ⟨sb, 0, none⟩), .slice (some ⟨g, off, none⟩) 64 cap] w fun e w' => e = .returned (.tuple #[]) ∧
      w'.heap[sb]? = some (.cells (arr (blk s b).list) 179 (0, 0)) ∧ Keeps (fun x => x = sb) w w' := by
  have HS := Lib.hid hs; have HB := Lib.hid hb; have HNE := Lib.hid hne
  have hsl : sb < w.heap.size := lt_of_heap hs
  obtain ⟨T, hT⟩ : ∃ T, T = sched b 64 := ⟨_, rfl⟩
  have hlT : T.length = 64 := by rw [hT]; exact sched_length b 64
  have HT := Lib.hid hT; have HL := Lib.hid hlT
  clear hs hb hne hT hlT
  go_enter Tryz.func93, Tryz.ntmps93
  go_wp2_with fail
  refine (schedule_any g off cap b w HB.out hc).mono ?_
  rintro e w1 ⟨rfl, k1⟩
  have K1 := Lib.hid k1; have z1 := k1.size; clear k1
  rw [← HT.out]
  go_wp2_with fail
  refine (rounds_any w1).mono ?_
  rintro e w2 ⟨rfl, k2⟩
  have K2 := Lib.hid k2; have z2 := k2.size; clear k2
  obtain ⟨w3, hw3⟩ : ∃ w3, w3 = ((((w2.alloc (.cells (arr (List.replicate 64 0)) 229)).alloc (.cells (arr (List.replicate 64 0)) 229)).setRow w2.heap.size (arr T)).setRow (w2.heap.size + 1) (arr kc)) := ⟨_, rfl⟩
  have HW3 := Lib.hid hw3
  have hT3 : w3.heap[w2.heap.size]? = some (.cells (arr T) 229 (0, 0)) := by
    rw [hw3, setRow_other _ _ _ _ (by omega)]; exact setRow_heap _ _ _ _ _ _ heap_alloc_at0
  have hK3 : w3.heap[w2.heap.size + 1]? = some (.cells (arr kc) 229 (0, 0)) := by
    rw [hw3]; exact setRow_heap _ _ (arr (List.replicate 64 0)) _ _ _ (by rw [setRow_other _ _ _ _ (by omega)]; exact heap_alloc_at1)
  have k3 : Keeps noBlock w2 w3 := by
    rw [hw3]
    exact ⟨rfl, rfl, rfl, by simp only [setRow_size, World.size_alloc]; omega, fun j hj _ => by
      rw [setRow_other _ _ _ _ (by omega), setRow_other _ _ _ _ (by omega), Below.heap_alloc _ _ _ (by simp; omega), Below.heap_alloc _ _ _ hj]⟩
  have hs3 := (((K1.out.trans K2.out).trans k3)).heap HS.out (fun e => e)
  have K3 := Lib.hid (((K1.out.trans K2.out).trans k3)); have HT3 := Lib.hid hT3; have HK3 := Lib.hid hK3; have HS3 := Lib.hid hs3
  have hl8 : s.list.length = 8 := rfl
  have c0 := cell_arr hs3 0 (by rw [hl8]; omega)
  have c1 := cell_arr hs3 1 (by rw [hl8]; omega)
  have c2 := cell_arr hs3 2 (by rw [hl8]; omega)
  have c3 := cell_arr hs3 3 (by rw [hl8]; omega)
  have c4 := cell_arr hs3 4 (by rw [hl8]; omega)
  have c5 := cell_arr hs3 5 (by rw [hl8]; omega)
  have c6 := cell_arr hs3 6 (by rw [hl8]; omega)
  have c7 := cell_arr hs3 7 (by rw [hl8]; omega)
  clear hw3 hT3 hK3 k3 hs3 hl8
  go_wp2_with (first
    | (refine wpList_store_row rfl _ _ _ rfl w2.heap.size (arr T) rfl rfl 229 _ heap_alloc_at0 (size64 _ HL.out) (by rw [size_arr, HL.out]; rfl) (all_arr _) ?_)
    | (refine wpList_store_row rfl _ _ _ rfl (w2.heap.size + 1) (arr kc) rfl rfl 229 (arr (List.replicate 64 0)) (by rw [setRow_other _ _ _ _ (by omega), zeros64]; exact heap_alloc_at1) (size64 _ rfl) (by rfl) (all_arr _) ?_))
  rw [zeros64, ← HW3.out]
  go_frame
  go_quiet (fail)
  obtain ⟨w4, hw4⟩ : ∃ w4, w4 = w3.drewN nq := ⟨_, rfl⟩
  have K4 := Lib.hid (show Keeps noBlock w3 w4 by rw [hw4]; exact (Keeps.refl _ _).drewN _)
  rw [← hw4]
  clear hw4 c0 c1 c2 c3 c4 c5 c6 c7
  go_wp2_with fail
  go_loopw [6, 7, 8, 9, 10, 11, 12, 13, 54] (AddRel w4 T s) (fun _ _ _ _ _ _ _ _ i _ => 64 - (intOf i).toNat)
  case atStart => exact ⟨0, rfl, by omega, rfl, rfl, rfl, rfl, rfl, rfl, rfl, rfl, Keeps.refl _ _⟩
  case round =>
    obtain ⟨k, rfl, hk, rfl, rfl, rfl, rfl, rfl, rfl, rfl, rfl, hkr⟩ := hrel
    by_cases hlt : k < 64
    · have ct := cell_arr ((K4.out.trans hkr).heap HT3.out (fun e => e)) k (by rw [HL.out]; exact hlt)
      have ck := cell_arr ((K4.out.trans hkr).heap HK3.out (fun e => e)) k hlt
      obtain ⟨t, ht⟩ : ∃ t, t = rnds T s k := ⟨_, rfl⟩
      rw [← ht]
      obtain ⟨xt, hxt⟩ : ∃ x, x = wAt T k := ⟨_, rfl⟩
      obtain ⟨xk, hxk⟩ : ∃ x, x = wAt kc k := ⟨_, rfl⟩
      rw [← hxt] at ct; rw [← hxk] at ck
      obtain ⟨ta, tb, tc, td, te, tf, tg, th⟩ := t
      have hk0 : (0 : Int) ≤ (k : Int) := by omega
      have hk1 : (k : Int) < 64 := by omega
      have hsg : ¬ (IntKind.u32.signed = true) := by decide
      have hmx : IntKind.u32.max = 4294967295 := by decide
      have HR := Lib.hid ht; have HX := Lib.hid hxt; have HY := Lib.hid hxk; have HKR := Lib.hid hkr
      clear ht hxt hxk hkr
      go_wp2_with fail
      go_quiet ((go_at_call 130; exact Calls.quiet_of_same ((mixed_bs1 te _).mono fun _ _ h => ⟨h.1, h.2.symm⟩)))
      go_wp2_with fail
      refine (mixed_bs0 ta _).mono ?_
      rintro e w5 ⟨rfl, rfl⟩
      go_wp2_with fail
      go_roundw
      case rel =>
        have e1 : rnds T s (k + 1) = rnd ⟨ta, tb, tc, td, te, tf, tg, th⟩ xk xt := by rw [HR.out, HX.out, HY.out]; rfl
        refine ⟨k + 1, by simp, by omega, ?_, ?_, ?_, ?_, ?_, ?_, ?_, ?_, HKR.out.trans ((Keeps.refl noBlock wr).drewN _)⟩
        all_goals
          rw [e1]
          try simp only [not_uw, and_uw, xor_uw, add5_uw, add2_uw]
          try rfl
      case measure => simp [intOf]; omega
    · obtain rfl : k = 64 := by omega
      obtain ⟨t, ht⟩ : ∃ t, t = rnds T s 64 := ⟨_, rfl⟩
      rw [← ht]
      obtain ⟨ta, tb, tc, td, te, tf, tg, th⟩ := t
      have hsr := (K4.out.trans hkr).heap HS3.out (fun e => e)
      have HSR := Lib.hid hsr; have HR := Lib.hid ht; have HKR := Lib.hid (K4.out.trans hkr)
      clear hsr ht hkr hlt
      go_wp2_with fail
      obtain ⟨wo, rfl⟩ : ∃ wo : World, wo = wr := ⟨_, rfl⟩
      go_loopw [114] (AddRel2 wo sb s ⟨ta, tb, tc, td, te, tf, tg, th⟩) (fun i _ => 8 - (intOf i).toNat)
      case atStart => exact ⟨0, rfl, by omega, HSR.out, Keeps.refl _ _⟩
      case round =>
        obtain ⟨k, rfl, hk, hr, hkr⟩ := hrel
        by_cases hlt : k < 8
        · have hix := run_index_arr (P := Tryz.prog) 179 178 8 Tryz.underlying179 (by kernel_rfl) Tryz.underlying178 [ta, tb, tc, td, te, tf, tg, th] k hlt rfl
          have hix2 : ∀ w, (Instr.index 179 (.agg #[.int .u32 (uw ta), .int .u32 (uw tb), .int .u32 (uw tc), .int .u32 (uw td), .int .u32 (uw te), .int .u32 (uw tf), .int .u32 (uw tg), .int .u32 (uw th)]) (.int .i64 (k : Int))).run Tryz.prog w = .ok (.int .u32 (uw (wAt [ta, tb, tc, td, te, tf, tg, th] k))) w := hix
          obtain ⟨x, hx⟩ : ∃ x, x = wAt [ta, tb, tc, td, te, tf, tg, th] k := ⟨_, rfl⟩
          rw [← hx] at hix2
          have ck := cell_arr hr k (by rw [mixL_length]; exact hlt)
          rw [mixL_get _ _ _ hlt] at ck
          have cf := frozen_of_heap hr k
          obtain ⟨y, hy⟩ : ∃ y, y = wAt s.list k := ⟨_, rfl⟩
          rw [← hy] at ck
          have hk0 : (0 : Int) ≤ (k : Int) := by omega
          have hk1 : (k : Int) < 8 := by omega
          have HX := Lib.hid hx; have HY := Lib.hid hy; have HRR := Lib.hid hr; have HKR2 := Lib.hid hkr
          clear hix hx hy hr hkr
          go_wp2_with fail
          go_region
          go_wp2_with fail
          go_roundw
          case rel =>
            refine ⟨k + 1, by simp, by omega, ?_, ((HKR2.out.setCell (fun _ => rfl) _)).drew⟩
            show (wr.setCell _ _).heap[sb]? = _
            rw [add2_uw, heap_set HRR.out, ← mixL_step _ _ _ hlt, HX.out, HY.out]
            rfl
          case measure => simp [intOf]; omega
        · obtain rfl : k = 8 := by omega
          have HRR := Lib.hid hr; have HKR2 := Lib.hid hkr
          clear hr hkr hlt
          go_wp2_with fail
          go_end0
          refine ⟨rfl, ?_, ?_⟩
          · rw [HRR.out]
            have e : blk s b = addS s ⟨ta, tb, tc, td, te, tf, tg, th⟩ := by rw [HR.out, HT.out]; rfl
            rw [e]
            rfl
          · exact (((K3.out.trans HKR.out).any' _).trans HKR2.out)
end Go.Proofs.YthlkgmdkabelpaaGreatDoor
