/-
  DigestLess: the law's walk: it returns true, and writes nothing that was there. No condition.
-/
import Derived.Test.YteikldemppbjpaaGOrder
namespace Go.Proofs.Yteikldemppbjpaa
open Go Go.RowKit
set_option linter.unusedVariables false

def ShareRel (w w2 : World) (a b : List UInt8) (n : Nat) (i : Value) (wr : World) : Prop :=
  ∃ k : Nat, i = .int .i64 (k : Int) ∧ k ≤ n ∧ wr.heap[w.heap.size + 1]? = some (.cells (bvs (a.take k ++ b.drop k)).toArray 24 (0, 0)) ∧ Keeps (fun x => x = w.heap.size + 1) w2 wr
theorem share_set (a b : List UInt8) (k : Nat) (ha : k < a.length) (hb : k < b.length) : (bvs (a.take k ++ b.drop k)).toArray.setIfInBounds k (.int .u8 ((a.getD k 0).toNat : Int)) = (bvs (a.take (k + 1) ++ b.drop (k + 1))).toArray := by
  rw [List.setIfInBounds_toArray]
  congr 1
  unfold bvs
  rw [show (Value.int .u8 ((a.getD k 0).toNat : Int)) = bv (a.getD k 0) from rfl, ← List.map_set]
  congr 1
  have hl : (a.take k).length = k := by rw [List.length_take]; omega
  rw [List.set_append_right _ _ (by omega), hl, Nat.sub_self, take_get a k ha 0, drop_getD b k hb, List.set_cons_zero, List.append_assoc]
  rfl

set_option maxRecDepth 100000 in
set_option maxHeartbeats 4000000 in
theorem less_walk (a b : List UInt8) (same : Int) (w : World) (ha : a.length = 32) (hb : b.length = 32) (hs : (Lit.int .i64 same).wf = true) : Calls Try.prog 10 #[.agg (bvs a).toArray, .agg (bvs b).toArray, .int .i64 same] w fun e w' => e = .returned (.bool true) ∧ Below w.heap.size w w' := by
  clear hs
  have h1 : ((w.alloc (.cells (bvs a).toArray 24)).alloc (.cells (bvs b).toArray 24)).heap[w.heap.size]? = some (.cells (bvs a).toArray 24 (0, 0)) := heap_alloc_at0
  have h2 : ((w.alloc (.cells (bvs a).toArray 24)).alloc (.cells (bvs b).toArray 24)).heap[w.heap.size + 1]? = some (.cells (bvs b).toArray 24 (0, 0)) := heap_alloc_at1
  obtain ⟨w2, hw2⟩ : ∃ w2, w2 = (w.alloc (.cells (bvs a).toArray 24)).alloc (.cells (bvs b).toArray 24) := ⟨_, rfl⟩
  rw [← hw2] at h1 h2
  have k2 : Keeps noBlock w w2 := by rw [hw2]; exact ((Keeps.refl _ _).alloc _).alloc _
  obtain ⟨N, hN⟩ : ∃ N : Nat, same % 33 = (N : Int) := ⟨(same % 33).toNat, by omega⟩
  have hN33 : N ≤ 32 := by omega
  have HN := Lib.hid hN
  have HW2 := Lib.hid hw2; have H1 := Lib.hid h1; have H2 := Lib.hid h2; have K2 := Lib.hid k2; have HA := Lib.hid ha; have HB := Lib.hid hb
  clear hw2 h1 h2 k2 ha hb hN
  go_enter Try.func10, Try.ntmps10
  go_wp2_with fail
  rw [← HW2.out]
  refine (sanity_any _).mono ?_
  rintro e w3 ⟨rfl, k3⟩
  have h1 := k3.heap H1.out (fun e => e)
  have h2 := k3.heap H2.out (fun e => e)
  have H31 := Lib.hid h1; have H32 := Lib.hid h2; have K3 := Lib.hid k3
  clear h1 h2 k3
  go_wp2_with fail
  go_loopw [8] (ShareRel w w3 a b N) (fun i _ => N - (intOf i).toNat)
  case atStart => exact ⟨0, rfl, by omega, H32.out, Keeps.refl _ _⟩
  case round =>
    obtain ⟨k, rfl, hk, hb2, hkr⟩ := hrel
    have hl2 : (a.take k ++ b.drop k).length = 32 := by
      have := HA.out; have := HB.out
      rw [List.length_append, List.length_take, List.length_drop]; omega
    have ha2 := hkr.heap H31.out (fun e => by omega)
    have hk0 : (0 : Int) ≤ (k : Int) := by omega
    by_cases hlt : k < N
    · have hca := hash_cell ha2 k (by rw [HA.out]; omega)
      have hcb := hash_cell hb2 k (by rw [hl2]; omega)
      have hf := frozen_of_heap hb2 k
      have hsh := share_set a b k (by rw [HA.out]; omega) (by rw [HB.out]; omega)
      obtain ⟨x, hx⟩ : ∃ x, x = (a.getD k 0).toNat := ⟨_, rfl⟩
      obtain ⟨y, hy⟩ : ∃ x, x = ((a.take k ++ b.drop k).getD k 0).toNat := ⟨_, rfl⟩
      rw [← hx] at hca hsh
      rw [← hy] at hcb
      have hk1 : (k : Int) < (N : Int) := by omega
      have hk2 : (k : Int) < 32 := by omega
      have HKR := Lib.hid hkr; have HB2 := Lib.hid hb2; have HSH := Lib.hid hsh
      clear hx hy hkr hb2 hsh ha2 hl2
      go_wp2_with fail
      refine (mod_any same 33 wr (by decide) (by decide)).mono ?_
      rintro e w' ⟨rfl, rfl⟩
      rw [HN.out]
      go_wp2_with fail
      go_roundw
      case rel => exact ⟨k + 1, by simp, hlt, by rw [heap_set HB2.out, HSH.out], HKR.out.setCell (fun _ => rfl) _⟩
      case measure => simp [intOf]; omega
    · obtain rfl : k = N := by omega
      have hk1 : ¬ (k : Int) < (k : Int) := by omega
      obtain ⟨c, hc⟩ : ∃ c, c = a.take k ++ b.drop k := ⟨_, rfl⟩
      rw [← hc] at hb2 hl2
      have HB2 := Lib.hid hb2; have HA2 := Lib.hid ha2; have HKR := Lib.hid hkr; have HL2 := Lib.hid hl2
      clear hc hb2 hkr hl2 ha2
      go_wp2_with fail
      refine (mod_any same 33 wr (by decide) (by decide)).mono ?_
      rintro e w' ⟨rfl, rfl⟩
      rw [HN.out]
      have hszA : (Try.prog.info? 24).map (·.size) = some (bvs a).toArray.size := by rw [List.size_toArray, length_bvs, HA.out]; kernel_rfl
      have hszC : (Try.prog.info? 24).map (·.size) = some (bvs c).toArray.size := by rw [List.size_toArray, length_bvs, HL2.out]; kernel_rfl
      have HSA := Lib.hid hszA; have HSC := Lib.hid hszC
      clear hszA hszC
      go_wp2_with (first
        | (refine wpList_load_row rfl _ _ rfl w.heap.size rfl _ (bvs a).toArray (0, 0) _ HA2.out Try.underlying24 rfl HSA.out ?_)
        | (refine wpList_load_row rfl _ _ rfl (w.heap.size + 1) rfl _ (bvs c).toArray (0, 0) _ HB2.out Try.underlying24 rfl HSC.out ?_))
      refine (less_any a c wr HA.out HL2.out).mono ?_
      rintro e w4 ⟨rfl, k4⟩
      have HA4 := Lib.hid (k4.heap HA2.out (fun e => e)); have HB4 := Lib.hid (k4.heap HB2.out (fun e => e)); have K4 := Lib.hid k4
      clear k4
      go_wp2_with (first
        | (refine wpList_load_row rfl _ _ rfl w.heap.size rfl _ (bvs a).toArray (0, 0) _ HA4.out Try.underlying24 rfl HSA.out ?_)
        | (refine wpList_load_row rfl _ _ rfl (w.heap.size + 1) rfl _ (bvs c).toArray (0, 0) _ HB4.out Try.underlying24 rfl HSC.out ?_))
      refine (less_any c a w4 HL2.out HA.out).mono ?_
      rintro e w5 ⟨rfl, k5⟩
      have HA5 := Lib.hid (k5.heap HA4.out (fun e => e)); have HB5 := Lib.hid (k5.heap HB4.out (fun e => e)); have K5 := Lib.hid k5
      clear k5
      obtain ⟨x, hx⟩ : ∃ x, x = lessL a c := ⟨_, rfl⟩
      obtain ⟨y, hy⟩ : ∃ x, x = lessL c a := ⟨_, rfl⟩
      obtain ⟨sA, hsA⟩ : ∃ s, s = str (textL a) := ⟨_, rfl⟩
      obtain ⟨sC, hsC⟩ : ∃ s, s = str (textL c) := ⟨_, rfl⟩
      have hord : Op.bytesLess sA.toList sC.toList = x := by
        rw [hsA, hsC, toList_str, toList_str, hx]; exact text_order a c (by rw [HA.out, HL2.out])
      have hasym : x = true → y = false := fun h => by rw [hy]; exact less_asym a c (hx ▸ h)
      have htot : x = false → y = false → (a == c) = true := fun h1 h2 => by
        have := less_total a c (by rw [HA.out, HL2.out]) (hx ▸ h1) (hy ▸ h2)
        rw [this]; exact beq_self_eq_true _
      obtain ⟨d, hd⟩ : ∃ d, d = (a == c) := ⟨_, rfl⟩
      have heq := eq_hash a c HA.out HL2.out
      rw [← hd] at heq htot
      have hr1 : ∀ W, Calls Try.prog 21 #[.agg (bvs a).toArray, .agg (bvs c).toArray] W fun e w' => e = .returned (.bool x) ∧ Keeps noBlock W w' := fun W => by rw [hx]; exact rless_any a c W HA.out HL2.out
      have hr2 : ∀ W, Calls Try.prog 21 #[.agg (bvs c).toArray, .agg (bvs a).toArray] W fun e w' => e = .returned (.bool y) ∧ Keeps noBlock W w' := fun W => by rw [hy]; exact rless_any c a W HL2.out HA.out
      have ht1 : ∀ W, Calls Try.prog 16 #[.agg (bvs a).toArray] W fun e w' => e = .returned (.string sA) ∧ Keeps noBlock W w' := fun W => by rw [hsA]; exact text_any a W HA.out
      have ht2 : ∀ W, Calls Try.prog 16 #[.agg (bvs c).toArray] W fun e w' => e = .returned (.string sC) ∧ Keeps noBlock W w' := fun W => by rw [hsC]; exact text_any c W HL2.out
      have z1 := HA5.out; have z2 := HB5.out; have hinf := HSA.out; have hinf2 := HSC.out
      rw [List.size_toArray] at hinf hinf2
      rw [← hx, ← hy]
      obtain ⟨RA, hRA⟩ : ∃ R, R = bvs a := ⟨_, rfl⟩
      obtain ⟨RC, hRC⟩ : ∃ R, R = bvs c := ⟨_, rfl⟩
      rw [← hRA] at z1 heq hr1 hr2 ht1 hinf
      rw [← hRC] at z2 heq hr1 hr2 ht2 hinf2
      rw [← hRA, ← hRC]
      have HR1 := Lib.hid hr1; have HR2 := Lib.hid hr2; have HT1 := Lib.hid ht1; have HT2 := Lib.hid ht2; have Z1 := Lib.hid z1; have Z2 := Lib.hid z2
      have HASYM := Lib.hid hasym; have HTOT := Lib.hid htot
      have hund := Try.underlying24
      have kk : Keeps (fun z => z = w.heap.size + 1) w5 w5 := Keeps.refl _ _
      clear hd hx hy hsA hsC hr1 hr2 ht1 ht2 z1 z2 hRA hRC hasym htot kk HSA HSC hk0 hk1 hk hlt hN33
      go_wp2_with fail
      have hall : ∀ W, Keeps noBlock w5 W → (W.rangeAt w.heap.size 0 RA ∧ W.rangeAt (w.heap.size + 1) 0 RC ∧ Keeps noBlock w5 W) := by
        intro W hW
        refine ⟨fun j v hv => ?_, fun j v hv => ?_, hW⟩
        · rw [Nat.zero_add, cell_of_heap (hW.heap Z1.out (fun e => e))]
          simpa using hv
        · rw [Nat.zero_add, cell_of_heap (hW.heap Z2.out (fun e => e))]
          simpa using hv
      have HAL := Lib.hid hall
      clear hall
      refine wp_region_held_drew (S := fun w' => w'.rangeAt w.heap.size 0 RA ∧ w'.rangeAt (w.heap.size + 1) 0 RC ∧ Keeps noBlock w5 w') (by kernel_rfl) (HAL.out _ (Keeps.refl _ _).drew) (fun hHeld => ?_)
      refine wpAnyH_take (i := 0) (oi := ({ dst := some 29, op := Op.move (Operand.tmp 7), type := 4, pos := "law.go:86", after := #[], guard := none })) (v := ?_) rfl (by kernel_rfl) (by kernel_rfl) (by kernel_rfl) (fun _ _ _ h => h) (Or.inl ⟨by rfl, ?_⟩) (by assumption) ?_
      rotate_left
      · (intro wS hSw; go_simp; all_goals with_reducible rfl)
      try simp only [Act.put, List.setIfInBounds_toArray, List.set_cons_zero, List.set_cons_succ]
      refine wpAnyH_take (i := 1) (oi := ({ dst := some 30, op := Op.move (Operand.tmp 29), type := 4, pos := "law.go:86", after := #[{ on := 0, ground := Ground.data }], guard := none })) (v := ?_) rfl (by kernel_rfl) (by kernel_rfl) (by kernel_rfl) (fun _ _ _ h => h) (Or.inl ⟨by rfl, ?_⟩) (by assumption) ?_
      rotate_left
      · (intro wS hSw; go_simp; all_goals with_reducible rfl)
      try simp only [Act.put, List.setIfInBounds_toArray, List.set_cons_zero, List.set_cons_succ]
      refine wpAnyH_take (i := 2) (oi := ({ dst := some 31, op := Op.move (Operand.tmp 9), type := 4, pos := "law.go:86", after := #[{ on := 1, ground := Ground.guard }], guard := some (1, true) })) (v := ?_) rfl (by kernel_rfl) (by kernel_rfl) (by kernel_rfl) (fun _ _ _ h => h) (Or.inl ⟨by rfl, ?_⟩) (by assumption) ?_
      rotate_left
      · (intro wS hSw; go_simp; all_goals with_reducible rfl)
      try simp only [Act.put, List.setIfInBounds_toArray, List.set_cons_zero, List.set_cons_succ]
      refine wpAnyH_take (i := 3) (oi := ({ dst := some 32, op := Op.load 24 (Operand.tmp 3), type := 24, pos := "law.go:86", after := #[{ on := 1, ground := Ground.guard }], guard := some (1, true) })) (v := .agg RA.toArray) rfl (by kernel_rfl) (by kernel_rfl) (by kernel_rfl) (fun _ _ _ h => h) (yieldsIf_load_mid (by rfl) _ _ rfl (w.heap.size) 0 rfl RA _ (fun _ h => h.1) hund (by rfl) hinf) (by assumption) ?_
      try simp only [Act.put, List.setIfInBounds_toArray, List.set_cons_zero, List.set_cons_succ]
      refine wpAnyH_take (i := 4) (oi := ({ dst := some 33, op := Op.load 24 (Operand.tmp 4), type := 24, pos := "law.go:86", after := #[{ on := 1, ground := Ground.guard }], guard := some (1, true) })) (v := .agg RC.toArray) rfl (by kernel_rfl) (by kernel_rfl) (by kernel_rfl) (fun _ _ _ h => h) (yieldsIf_load_mid (by rfl) _ _ rfl (w.heap.size + 1) 0 rfl RC _ (fun _ h => h.2.1) hund (by rfl) hinf2) (by assumption) ?_
      try simp only [Act.put, List.setIfInBounds_toArray, List.set_cons_zero, List.set_cons_succ]
      refine wpAnyH_ready (rs := [5]) (by kernel_rfl) (by simp) ?_
      refine AllReadyH.cons (o := ({ dst := some 34, op := Op.call { callee := Callee.value (Operand.func 21), args := #[Operand.tmp 32, Operand.tmp 33], argTypes := #[24, 24] }, type := 4, pos := "law.go:86", after := #[{ on := 3, ground := Ground.data }, { on := 4, ground := Ground.data }, { on := 1, ground := Ground.chain }, { on := 1, ground := Ground.guard }], guard := some (1, true) })) rfl (fun K hK => ?_) AllReadyH.nil
      go_simp
      refine (HR1.out _).mono ?_
      rintro e wC ⟨rfl, kC⟩
      go_wp2_with fail
      refine hK.out _ _ (HAL.out _ (Keeps.trans hHeld.2.2 kC)) (fun hHeldN => ?_)
      clear hK K hHeld kC
      have hHeld := hHeldN
      clear hHeldN
      try simp only [Act.put, List.setIfInBounds_toArray, List.set_cons_zero, List.set_cons_succ]
      refine wpAnyH_take (i := 6) (oi := ({ dst := some 35, op := Op.binOp BinOp.eql 4 (Operand.tmp 31) (Operand.tmp 34) 4, type := 4, pos := "law.go:86", after := #[{ on := 2, ground := Ground.data }, { on := 5, ground := Ground.data }, { on := 1, ground := Ground.guard }], guard := some (1, true) })) (v := ?_) rfl (by kernel_rfl) (by kernel_rfl) (by kernel_rfl) (fun _ _ _ h => h) (Or.inl ⟨by rfl, ?_⟩) (by assumption) ?_
      rotate_left
      · (intro wS hSw; go_simp; all_goals with_reducible rfl)
      try simp only [Act.put, List.setIfInBounds_toArray, List.set_cons_zero, List.set_cons_succ]
      refine wpAnyH_take (i := 7) (oi := ({ dst := some 36, op := Op.pick (Operand.tmp 30) (Operand.tmp 35) (Operand.const (Value.bool false)), type := 4, pos := "law.go:86", after := #[{ on := 1, ground := Ground.data }, { on := 6, ground := Ground.data }], guard := none })) (v := ?_) rfl (by kernel_rfl) (by kernel_rfl) (by kernel_rfl) (fun _ _ _ h => h) (Or.inl ⟨by rfl, ?_⟩) (by assumption) ?_
      rotate_left
      · (intro wS hSw; go_simp; all_goals with_reducible rfl)
      try simp only [Act.put, List.setIfInBounds_toArray, List.set_cons_zero, List.set_cons_succ]
      refine wpAnyH_take (i := 8) (oi := ({ dst := some 37, op := Op.move (Operand.tmp 36), type := 4, pos := "law.go:86", after := #[{ on := 7, ground := Ground.data }, { on := 5, ground := Ground.chain }], guard := none })) (v := ?_) rfl (by kernel_rfl) (by kernel_rfl) (by kernel_rfl) (fun _ _ _ h => h) (Or.inl ⟨by rfl, ?_⟩) (by assumption) ?_
      rotate_left
      · (intro wS hSw; go_simp; all_goals with_reducible rfl)
      try simp only [Act.put, List.setIfInBounds_toArray, List.set_cons_zero, List.set_cons_succ]
      refine wpAnyH_take (i := 9) (oi := ({ dst := some 38, op := Op.move (Operand.tmp 10), type := 4, pos := "law.go:86", after := #[{ on := 8, ground := Ground.guard }], guard := some (8, true) })) (v := ?_) rfl (by kernel_rfl) (by kernel_rfl) (by kernel_rfl) (fun _ _ _ h => h) (Or.inl ⟨by rfl, ?_⟩) (by assumption) ?_
      rotate_left
      · (intro wS hSw; go_simp; all_goals with_reducible rfl)
      try simp only [Act.put, List.setIfInBounds_toArray, List.set_cons_zero, List.set_cons_succ]
      refine wpAnyH_take (i := 10) (oi := ({ dst := some 39, op := Op.load 24 (Operand.tmp 4), type := 24, pos := "law.go:86", after := #[{ on := 8, ground := Ground.guard }], guard := some (8, true) })) (v := .agg RC.toArray) rfl (by kernel_rfl) (by kernel_rfl) (by kernel_rfl) (fun _ _ _ h => h) (yieldsIf_load_mid (by rfl) _ _ rfl (w.heap.size + 1) 0 rfl RC _ (fun _ h => h.2.1) hund (by rfl) hinf2) (by assumption) ?_
      try simp only [Act.put, List.setIfInBounds_toArray, List.set_cons_zero, List.set_cons_succ]
      refine wpAnyH_take (i := 11) (oi := ({ dst := some 40, op := Op.load 24 (Operand.tmp 3), type := 24, pos := "law.go:86", after := #[{ on := 8, ground := Ground.guard }], guard := some (8, true) })) (v := .agg RA.toArray) rfl (by kernel_rfl) (by kernel_rfl) (by kernel_rfl) (fun _ _ _ h => h) (yieldsIf_load_mid (by rfl) _ _ rfl (w.heap.size) 0 rfl RA _ (fun _ h => h.1) hund (by rfl) hinf) (by assumption) ?_
      try simp only [Act.put, List.setIfInBounds_toArray, List.set_cons_zero, List.set_cons_succ]
      refine wpAnyH_ready (rs := [12]) (by kernel_rfl) (by simp) ?_
      refine AllReadyH.cons (o := ({ dst := some 41, op := Op.call { callee := Callee.value (Operand.func 21), args := #[Operand.tmp 39, Operand.tmp 40], argTypes := #[24, 24] }, type := 4, pos := "law.go:86", after := #[{ on := 10, ground := Ground.data }, { on := 11, ground := Ground.data }, { on := 8, ground := Ground.chain }, { on := 8, ground := Ground.guard }], guard := some (8, true) })) rfl (fun K hK => ?_) AllReadyH.nil
      go_simp
      refine (HR2.out _).mono ?_
      rintro e wC ⟨rfl, kC⟩
      go_wp2_with fail
      refine hK.out _ _ (HAL.out _ (Keeps.trans hHeld.2.2 kC)) (fun hHeldN => ?_)
      clear hK K hHeld kC
      have hHeld := hHeldN
      clear hHeldN
      try simp only [Act.put, List.setIfInBounds_toArray, List.set_cons_zero, List.set_cons_succ]
      refine wpAnyH_take (i := 13) (oi := ({ dst := some 42, op := Op.binOp BinOp.eql 4 (Operand.tmp 38) (Operand.tmp 41) 4, type := 4, pos := "law.go:86", after := #[{ on := 9, ground := Ground.data }, { on := 12, ground := Ground.data }, { on := 8, ground := Ground.guard }], guard := some (8, true) })) (v := ?_) rfl (by kernel_rfl) (by kernel_rfl) (by kernel_rfl) (fun _ _ _ h => h) (Or.inl ⟨by rfl, ?_⟩) (by assumption) ?_
      rotate_left
      · (intro wS hSw; go_simp; all_goals with_reducible rfl)
      try simp only [Act.put, List.setIfInBounds_toArray, List.set_cons_zero, List.set_cons_succ]
      refine wpAnyH_take (i := 14) (oi := ({ dst := some 43, op := Op.pick (Operand.tmp 37) (Operand.tmp 42) (Operand.const (Value.bool false)), type := 4, pos := "law.go:86", after := #[{ on := 8, ground := Ground.data }, { on := 13, ground := Ground.data }], guard := none })) (v := ?_) rfl (by kernel_rfl) (by kernel_rfl) (by kernel_rfl) (fun _ _ _ h => h) (Or.inl ⟨by rfl, ?_⟩) (by assumption) ?_
      rotate_left
      · (intro wS hSw; go_simp; all_goals with_reducible rfl)
      try simp only [Act.put, List.setIfInBounds_toArray, List.set_cons_zero, List.set_cons_succ]
      refine wpAnyH_take (i := 15) (oi := ({ dst := some 44, op := Op.move (Operand.tmp 43), type := 4, pos := "law.go:86", after := #[{ on := 14, ground := Ground.data }, { on := 12, ground := Ground.chain }], guard := none })) (v := ?_) rfl (by kernel_rfl) (by kernel_rfl) (by kernel_rfl) (fun _ _ _ h => h) (Or.inl ⟨by rfl, ?_⟩) (by assumption) ?_
      rotate_left
      · (intro wS hSw; go_simp; all_goals with_reducible rfl)
      try simp only [Act.put, List.setIfInBounds_toArray, List.set_cons_zero, List.set_cons_succ]
      refine wpAnyH_take (i := 16) (oi := ({ dst := some 45, op := Op.move (Operand.tmp 9), type := 4, pos := "law.go:86", after := #[{ on := 15, ground := Ground.guard }], guard := some (15, true) })) (v := ?_) rfl (by kernel_rfl) (by kernel_rfl) (by kernel_rfl) (fun _ _ _ h => h) (Or.inl ⟨by rfl, ?_⟩) (by assumption) ?_
      rotate_left
      · (intro wS hSw; go_simp; all_goals with_reducible rfl)
      try simp only [Act.put, List.setIfInBounds_toArray, List.set_cons_zero, List.set_cons_succ]
      refine wpAnyH_take (i := 17) (oi := ({ dst := some 46, op := Op.load 24 (Operand.tmp 3), type := 24, pos := "law.go:86", after := #[{ on := 15, ground := Ground.guard }], guard := some (15, true) })) (v := .agg RA.toArray) rfl (by kernel_rfl) (by kernel_rfl) (by kernel_rfl) (fun _ _ _ h => h) (yieldsIf_load_mid (by rfl) _ _ rfl (w.heap.size) 0 rfl RA _ (fun _ h => h.1) hund (by rfl) hinf) (by assumption) ?_
      try simp only [Act.put, List.setIfInBounds_toArray, List.set_cons_zero, List.set_cons_succ]
      refine wpAnyH_take (i := 19) (oi := ({ dst := some 48, op := Op.load 24 (Operand.tmp 4), type := 24, pos := "law.go:86", after := #[{ on := 15, ground := Ground.guard }], guard := some (15, true) })) (v := .agg RC.toArray) rfl (by kernel_rfl) (by kernel_rfl) (by kernel_rfl) (fun _ _ _ h => h) (yieldsIf_load_mid (by rfl) _ _ rfl (w.heap.size + 1) 0 rfl RC _ (fun _ h => h.2.1) hund (by rfl) hinf2) (by assumption) ?_
      try simp only [Act.put, List.setIfInBounds_toArray, List.set_cons_zero, List.set_cons_succ]
      refine wpAnyH_ready (rs := [18]) (by kernel_rfl) (by simp) ?_
      refine AllReadyH.cons (o := ({ dst := some 47, op := Op.call { callee := Callee.value (Operand.func 16), args := #[Operand.tmp 46], argTypes := #[24] }, type := 9, pos := "law.go:86", after := #[{ on := 17, ground := Ground.data }, { on := 15, ground := Ground.chain }, { on := 15, ground := Ground.guard }], guard := some (15, true) })) rfl (fun K hK => ?_) AllReadyH.nil
      go_simp
      refine (HT1.out _).mono ?_
      rintro e wC ⟨rfl, kC⟩
      go_wp2_with fail
      refine hK.out _ _ (HAL.out _ (Keeps.trans hHeld.2.2 kC)) (fun hHeldN => ?_)
      clear hK K hHeld kC
      have hHeld := hHeldN
      clear hHeldN
      try simp only [Act.put, List.setIfInBounds_toArray, List.set_cons_zero, List.set_cons_succ]
      refine wpAnyH_ready (rs := [20]) (by kernel_rfl) (by simp) ?_
      refine AllReadyH.cons (o := ({ dst := some 49, op := Op.call { callee := Callee.value (Operand.func 16), args := #[Operand.tmp 48], argTypes := #[24] }, type := 9, pos := "law.go:86", after := #[{ on := 19, ground := Ground.data }, { on := 18, ground := Ground.chain }, { on := 15, ground := Ground.guard }], guard := some (15, true) })) rfl (fun K hK => ?_) AllReadyH.nil
      go_simp
      refine (HT2.out _).mono ?_
      rintro e wC ⟨rfl, kC⟩
      go_wp2_with fail
      refine hK.out _ _ (HAL.out _ (Keeps.trans hHeld.2.2 kC)) (fun hHeldN => ?_)
      clear hK K hHeld kC
      have hHeld := hHeldN
      clear hHeldN
      try simp only [Act.put, List.setIfInBounds_toArray, List.set_cons_zero, List.set_cons_succ]
      refine wpAnyH_take (i := 21) (oi := ({ dst := some 50, op := Op.binOp BinOp.lss 9 (Operand.tmp 47) (Operand.tmp 49) 9, type := 4, pos := "law.go:86", after := #[{ on := 18, ground := Ground.data }, { on := 20, ground := Ground.data }, { on := 15, ground := Ground.guard }], guard := some (15, true) })) (v := ?_) rfl (by kernel_rfl) (by kernel_rfl) (by kernel_rfl) (fun _ _ _ h => h) (Or.inl ⟨by rfl, ?_⟩) (by assumption) ?_
      rotate_left
      · (intro wS hSw; go_simp; all_goals with_reducible rfl)
      try simp only [Act.put, List.setIfInBounds_toArray, List.set_cons_zero, List.set_cons_succ]
      refine wpAnyH_take (i := 22) (oi := ({ dst := some 51, op := Op.binOp BinOp.eql 4 (Operand.tmp 45) (Operand.tmp 50) 4, type := 4, pos := "law.go:86", after := #[{ on := 16, ground := Ground.data }, { on := 21, ground := Ground.data }, { on := 15, ground := Ground.guard }], guard := some (15, true) })) (v := ?_) rfl (by kernel_rfl) (by kernel_rfl) (by kernel_rfl) (fun _ _ _ h => h) (Or.inl ⟨by rfl, ?_⟩) (by assumption) ?_
      rotate_left
      · (intro wS hSw; go_simp; all_goals with_reducible rfl)
      try simp only [Act.put, List.setIfInBounds_toArray, List.set_cons_zero, List.set_cons_succ]
      refine wpAnyH_take (i := 23) (oi := ({ dst := some 52, op := Op.pick (Operand.tmp 44) (Operand.tmp 51) (Operand.const (Value.bool false)), type := 4, pos := "law.go:86", after := #[{ on := 15, ground := Ground.data }, { on := 22, ground := Ground.data }], guard := none })) (v := ?_) rfl (by kernel_rfl) (by kernel_rfl) (by kernel_rfl) (fun _ _ _ h => h) (Or.inl ⟨by rfl, ?_⟩) (by assumption) ?_
      rotate_left
      · (intro wS hSw; go_simp; all_goals with_reducible rfl)
      try simp only [Act.put, List.setIfInBounds_toArray, List.set_cons_zero, List.set_cons_succ]
      refine wpAnyH_take (i := 24) (oi := ({ dst := some 53, op := Op.move (Operand.tmp 52), type := 4, pos := "law.go:86", after := #[{ on := 23, ground := Ground.data }, { on := 20, ground := Ground.chain }], guard := none })) (v := ?_) rfl (by kernel_rfl) (by kernel_rfl) (by kernel_rfl) (fun _ _ _ h => h) (Or.inl ⟨by rfl, ?_⟩) (by assumption) ?_
      rotate_left
      · (intro wS hSw; go_simp; all_goals with_reducible rfl)
      try simp only [Act.put, List.setIfInBounds_toArray, List.set_cons_zero, List.set_cons_succ]
      refine wpAnyH_take (i := 25) (oi := ({ dst := some 54, op := Op.move (Operand.tmp 9), type := 4, pos := "law.go:86", after := #[{ on := 24, ground := Ground.guard }], guard := some (24, true) })) (v := ?_) rfl (by kernel_rfl) (by kernel_rfl) (by kernel_rfl) (fun _ _ _ h => h) (Or.inl ⟨by rfl, ?_⟩) (by assumption) ?_
      rotate_left
      · (intro wS hSw; go_simp; all_goals with_reducible rfl)
      try simp only [Act.put, List.setIfInBounds_toArray, List.set_cons_zero, List.set_cons_succ]
      refine wpAnyH_take (i := 26) (oi := ({ dst := some 55, op := Op.move (Operand.tmp 54), type := 4, pos := "law.go:86", after := #[{ on := 25, ground := Ground.data }, { on := 24, ground := Ground.chain }, { on := 24, ground := Ground.guard }], guard := some (24, true) })) (v := ?_) rfl (by kernel_rfl) (by kernel_rfl) (by kernel_rfl) (fun _ _ _ h => h) (Or.inl ⟨by rfl, ?_⟩) (by assumption) ?_
      rotate_left
      · (intro wS hSw; go_simp; all_goals with_reducible rfl)
      try simp only [Act.put, List.setIfInBounds_toArray, List.set_cons_zero, List.set_cons_succ]
      cases x with
      | true =>
        have hy := HASYM.out rfl
        subst hy
        refine wpAnyH_take (i := 27) (oi := ({ dst := some 56, op := Op.move (Operand.tmp 10), type := 4, pos := "law.go:86", after := #[{ on := 26, ground := Ground.guard }], guard := some (26, true) })) (v := ?_) rfl (by kernel_rfl) (by kernel_rfl) (by kernel_rfl) (fun _ _ _ h => h) (Or.inl ⟨by rfl, ?_⟩) (by assumption) ?_
        rotate_left
        · (intro wS hSw; go_simp; all_goals with_reducible rfl)
        try simp only [Act.put, List.setIfInBounds_toArray, List.set_cons_zero, List.set_cons_succ]
        refine wpAnyH_take (i := 28) (oi := ({ dst := some 57, op := Op.pick (Operand.tmp 55) (Operand.tmp 56) (Operand.const (Value.bool false)), type := 4, pos := "law.go:86", after := #[{ on := 26, ground := Ground.data }, { on := 27, ground := Ground.data }, { on := 24, ground := Ground.guard }], guard := some (24, true) })) (v := ?_) rfl (by kernel_rfl) (by kernel_rfl) (by kernel_rfl) (fun _ _ _ h => h) (Or.inl ⟨by rfl, ?_⟩) (by assumption) ?_
        rotate_left
        · (intro wS hSw; go_simp; all_goals with_reducible rfl)
        try simp only [Act.put, List.setIfInBounds_toArray, List.set_cons_zero, List.set_cons_succ]
        refine wpAnyH_take (i := 29) (oi := ({ dst := some 58, op := Op.unOp UnOp.not 4 (Operand.tmp 57), type := 4, pos := "law.go:86", after := #[{ on := 28, ground := Ground.data }, { on := 24, ground := Ground.guard }], guard := some (24, true) })) (v := ?_) rfl (by kernel_rfl) (by kernel_rfl) (by kernel_rfl) (fun _ _ _ h => h) (Or.inl ⟨by rfl, ?_⟩) (by assumption) ?_
        rotate_left
        · (intro wS hSw; go_simp; all_goals with_reducible rfl)
        try simp only [Act.put, List.setIfInBounds_toArray, List.set_cons_zero, List.set_cons_succ]
        refine wpAnyH_take (i := 30) (oi := ({ dst := some 59, op := Op.pick (Operand.tmp 53) (Operand.tmp 58) (Operand.const (Value.bool false)), type := 4, pos := "law.go:86", after := #[{ on := 24, ground := Ground.data }, { on := 29, ground := Ground.data }], guard := none })) (v := ?_) rfl (by kernel_rfl) (by kernel_rfl) (by kernel_rfl) (fun _ _ _ h => h) (Or.inl ⟨by rfl, ?_⟩) (by assumption) ?_
        rotate_left
        · (intro wS hSw; go_simp; all_goals with_reducible rfl)
        try simp only [Act.put, List.setIfInBounds_toArray, List.set_cons_zero, List.set_cons_succ]
        refine wpAnyH_take (i := 31) (oi := ({ dst := some 60, op := Op.move (Operand.tmp 59), type := 4, pos := "law.go:86", after := #[{ on := 30, ground := Ground.data }, { on := 26, ground := Ground.chain }], guard := none })) (v := ?_) rfl (by kernel_rfl) (by kernel_rfl) (by kernel_rfl) (fun _ _ _ h => h) (Or.inl ⟨by rfl, ?_⟩) (by assumption) ?_
        rotate_left
        · (intro wS hSw; go_simp; all_goals with_reducible rfl)
        try simp only [Act.put, List.setIfInBounds_toArray, List.set_cons_zero, List.set_cons_succ]
        refine wpAnyH_take (i := 32) (oi := ({ dst := some 61, op := Op.move (Operand.tmp 9), type := 4, pos := "law.go:86", after := #[{ on := 31, ground := Ground.guard }], guard := some (31, true) })) (v := ?_) rfl (by kernel_rfl) (by kernel_rfl) (by kernel_rfl) (fun _ _ _ h => h) (Or.inl ⟨by rfl, ?_⟩) (by assumption) ?_
        rotate_left
        · (intro wS hSw; go_simp; all_goals with_reducible rfl)
        try simp only [Act.put, List.setIfInBounds_toArray, List.set_cons_zero, List.set_cons_succ]
        refine wpAnyH_take (i := 33) (oi := ({ dst := some 62, op := Op.move (Operand.tmp 61), type := 4, pos := "law.go:86", after := #[{ on := 32, ground := Ground.data }, { on := 31, ground := Ground.chain }, { on := 31, ground := Ground.guard }], guard := some (31, true) })) (v := ?_) rfl (by kernel_rfl) (by kernel_rfl) (by kernel_rfl) (fun _ _ _ h => h) (Or.inl ⟨by rfl, ?_⟩) (by assumption) ?_
        rotate_left
        · (intro wS hSw; go_simp; all_goals with_reducible rfl)
        try simp only [Act.put, List.setIfInBounds_toArray, List.set_cons_zero, List.set_cons_succ]
        refine wpAnyH_take (i := 34) (oi := ({ dst := some 63, op := Op.move (Operand.tmp 10), type := 4, pos := "law.go:86", after := #[{ on := 33, ground := Ground.guard }], guard := some (33, false) })) (v := undef) rfl (by kernel_rfl) (by kernel_rfl) (by kernel_rfl) (fun _ _ _ h => h) (Or.inr ⟨by rfl, rfl⟩) (by assumption) ?_
        try simp only [Act.put, List.setIfInBounds_toArray, List.set_cons_zero, List.set_cons_succ]
        refine wpAnyH_take (i := 35) (oi := ({ dst := some 64, op := Op.pick (Operand.tmp 62) (Operand.const (Value.bool true)) (Operand.tmp 63), type := 4, pos := "law.go:86", after := #[{ on := 33, ground := Ground.data }, { on := 34, ground := Ground.data }, { on := 31, ground := Ground.guard }], guard := some (31, true) })) (v := ?_) rfl (by kernel_rfl) (by kernel_rfl) (by kernel_rfl) (fun _ _ _ h => h) (Or.inl ⟨by rfl, ?_⟩) (by assumption) ?_
        rotate_left
        · (intro wS hSw; go_simp; all_goals with_reducible rfl)
        try simp only [Act.put, List.setIfInBounds_toArray, List.set_cons_zero, List.set_cons_succ]
        refine wpAnyH_take (i := 36) (oi := ({ dst := some 65, op := Op.move (Operand.tmp 64), type := 4, pos := "law.go:86", after := #[{ on := 35, ground := Ground.data }, { on := 33, ground := Ground.chain }, { on := 31, ground := Ground.guard }], guard := some (31, true) })) (v := ?_) rfl (by kernel_rfl) (by kernel_rfl) (by kernel_rfl) (fun _ _ _ h => h) (Or.inl ⟨by rfl, ?_⟩) (by assumption) ?_
        rotate_left
        · (intro wS hSw; go_simp; all_goals with_reducible rfl)
        try simp only [Act.put, List.setIfInBounds_toArray, List.set_cons_zero, List.set_cons_succ]
        refine wpAnyH_take (i := 37) (oi := ({ dst := some 66, op := Op.load 24 (Operand.tmp 3), type := 24, pos := "law.go:86", after := #[{ on := 36, ground := Ground.guard }], guard := some (36, false) })) (v := undef) rfl (by kernel_rfl) (by kernel_rfl) (by kernel_rfl) (fun _ _ _ h => h) (Or.inr ⟨by rfl, rfl⟩) (by assumption) ?_
        try simp only [Act.put, List.setIfInBounds_toArray, List.set_cons_zero, List.set_cons_succ]
        refine wpAnyH_take (i := 38) (oi := ({ dst := some 67, op := Op.load 24 (Operand.tmp 4), type := 24, pos := "law.go:86", after := #[{ on := 36, ground := Ground.guard }], guard := some (36, false) })) (v := undef) rfl (by kernel_rfl) (by kernel_rfl) (by kernel_rfl) (fun _ _ _ h => h) (Or.inr ⟨by rfl, rfl⟩) (by assumption) ?_
        try simp only [Act.put, List.setIfInBounds_toArray, List.set_cons_zero, List.set_cons_succ]
        refine wpAnyH_take (i := 39) (oi := ({ dst := some 68, op := Op.binOp BinOp.eql 24 (Operand.tmp 66) (Operand.tmp 67) 24, type := 4, pos := "law.go:86", after := #[{ on := 37, ground := Ground.data }, { on := 38, ground := Ground.data }, { on := 36, ground := Ground.guard }], guard := some (36, false) })) (v := undef) rfl (by kernel_rfl) (by kernel_rfl) (by kernel_rfl) (fun _ _ _ h => h) (Or.inr ⟨by rfl, rfl⟩) (by assumption) ?_
        try simp only [Act.put, List.setIfInBounds_toArray, List.set_cons_zero, List.set_cons_succ]
        refine wpAnyH_take (i := 40) (oi := ({ dst := some 69, op := Op.pick (Operand.tmp 65) (Operand.const (Value.bool true)) (Operand.tmp 68), type := 4, pos := "law.go:86", after := #[{ on := 36, ground := Ground.data }, { on := 39, ground := Ground.data }, { on := 31, ground := Ground.guard }], guard := some (31, true) })) (v := ?_) rfl (by kernel_rfl) (by kernel_rfl) (by kernel_rfl) (fun _ _ _ h => h) (Or.inl ⟨by rfl, ?_⟩) (by assumption) ?_
        rotate_left
        · (intro wS hSw; go_simp; all_goals with_reducible rfl)
        try simp only [Act.put, List.setIfInBounds_toArray, List.set_cons_zero, List.set_cons_succ]
        refine wpAnyH_take (i := 41) (oi := ({ dst := some 70, op := Op.pick (Operand.tmp 60) (Operand.tmp 69) (Operand.const (Value.bool false)), type := 4, pos := "law.go:86", after := #[{ on := 31, ground := Ground.data }, { on := 40, ground := Ground.data }], guard := none })) (v := ?_) rfl (by kernel_rfl) (by kernel_rfl) (by kernel_rfl) (fun _ _ _ h => h) (Or.inl ⟨by rfl, ?_⟩) (by assumption) ?_
        rotate_left
        · (intro wS hSw; go_simp; all_goals with_reducible rfl)
        try simp only [Act.put, List.setIfInBounds_toArray, List.set_cons_zero, List.set_cons_succ]
        refine wpAnyH_take (i := 42) (oi := ({ dst := some 6, op := Op.assign (Operand.tmp 70), type := 4, pos := "law.go:86", after := #[{ on := 41, ground := Ground.data }, { on := 36, ground := Ground.chain }, { on := 0, ground := Ground.phase }, { on := 1, ground := Ground.phase }, { on := 2, ground := Ground.phase }, { on := 3, ground := Ground.phase }, { on := 4, ground := Ground.phase }, { on := 5, ground := Ground.phase }, { on := 6, ground := Ground.phase }, { on := 7, ground := Ground.phase }, { on := 8, ground := Ground.phase }, { on := 9, ground := Ground.phase }, { on := 10, ground := Ground.phase }, { on := 11, ground := Ground.phase }, { on := 12, ground := Ground.phase }, { on := 13, ground := Ground.phase }, { on := 14, ground := Ground.phase }, { on := 15, ground := Ground.phase }, { on := 16, ground := Ground.phase }, { on := 17, ground := Ground.phase }, { on := 18, ground := Ground.phase }, { on := 19, ground := Ground.phase }, { on := 20, ground := Ground.phase }, { on := 21, ground := Ground.phase }, { on := 22, ground := Ground.phase }, { on := 23, ground := Ground.phase }, { on := 24, ground := Ground.phase }, { on := 25, ground := Ground.phase }, { on := 26, ground := Ground.phase }, { on := 27, ground := Ground.phase }, { on := 28, ground := Ground.phase }, { on := 29, ground := Ground.phase }, { on := 30, ground := Ground.phase }, { on := 31, ground := Ground.phase }, { on := 32, ground := Ground.phase }, { on := 33, ground := Ground.phase }, { on := 34, ground := Ground.phase }, { on := 35, ground := Ground.phase }, { on := 36, ground := Ground.phase }, { on := 37, ground := Ground.phase }, { on := 38, ground := Ground.phase }, { on := 39, ground := Ground.phase }, { on := 40, ground := Ground.phase }, { on := 41, ground := Ground.phase }], guard := none })) (v := ?_) rfl (by kernel_rfl) (by kernel_rfl) (by kernel_rfl) (fun _ _ _ h => h) (Or.inl ⟨by rfl, ?_⟩) (by assumption) ?_
        rotate_left
        · (intro wS hSw; go_simp; all_goals with_reducible rfl)
        try simp only [Act.put, List.setIfInBounds_toArray, List.set_cons_zero, List.set_cons_succ]
        refine wpAnyH_done (by kernel_rfl) ?_ _
        have kl := Lib.hid (Keeps.trans K5.out hHeld.2.2)
        clear heq
        go_wp2_with fail
        go_ret
        exact ⟨rfl, keeps_below (((K2.out.trans K3.out).trans' HKR.out (fun k hk e => by have e : k = w.heap.size + 1 := e; omega)).trans (K4.out.trans kl.out))⟩
      | false =>
        cases y with
        | true =>
          refine wpAnyH_take (i := 27) (oi := ({ dst := some 56, op := Op.move (Operand.tmp 10), type := 4, pos := "law.go:86", after := #[{ on := 26, ground := Ground.guard }], guard := some (26, true) })) (v := undef) rfl (by kernel_rfl) (by kernel_rfl) (by kernel_rfl) (fun _ _ _ h => h) (Or.inr ⟨by rfl, rfl⟩) (by assumption) ?_
          try simp only [Act.put, List.setIfInBounds_toArray, List.set_cons_zero, List.set_cons_succ]
          refine wpAnyH_take (i := 28) (oi := ({ dst := some 57, op := Op.pick (Operand.tmp 55) (Operand.tmp 56) (Operand.const (Value.bool false)), type := 4, pos := "law.go:86", after := #[{ on := 26, ground := Ground.data }, { on := 27, ground := Ground.data }, { on := 24, ground := Ground.guard }], guard := some (24, true) })) (v := ?_) rfl (by kernel_rfl) (by kernel_rfl) (by kernel_rfl) (fun _ _ _ h => h) (Or.inl ⟨by rfl, ?_⟩) (by assumption) ?_
          rotate_left
          · (intro wS hSw; go_simp; all_goals with_reducible rfl)
          try simp only [Act.put, List.setIfInBounds_toArray, List.set_cons_zero, List.set_cons_succ]
          refine wpAnyH_take (i := 29) (oi := ({ dst := some 58, op := Op.unOp UnOp.not 4 (Operand.tmp 57), type := 4, pos := "law.go:86", after := #[{ on := 28, ground := Ground.data }, { on := 24, ground := Ground.guard }], guard := some (24, true) })) (v := ?_) rfl (by kernel_rfl) (by kernel_rfl) (by kernel_rfl) (fun _ _ _ h => h) (Or.inl ⟨by rfl, ?_⟩) (by assumption) ?_
          rotate_left
          · (intro wS hSw; go_simp; all_goals with_reducible rfl)
          try simp only [Act.put, List.setIfInBounds_toArray, List.set_cons_zero, List.set_cons_succ]
          refine wpAnyH_take (i := 30) (oi := ({ dst := some 59, op := Op.pick (Operand.tmp 53) (Operand.tmp 58) (Operand.const (Value.bool false)), type := 4, pos := "law.go:86", after := #[{ on := 24, ground := Ground.data }, { on := 29, ground := Ground.data }], guard := none })) (v := ?_) rfl (by kernel_rfl) (by kernel_rfl) (by kernel_rfl) (fun _ _ _ h => h) (Or.inl ⟨by rfl, ?_⟩) (by assumption) ?_
          rotate_left
          · (intro wS hSw; go_simp; all_goals with_reducible rfl)
          try simp only [Act.put, List.setIfInBounds_toArray, List.set_cons_zero, List.set_cons_succ]
          refine wpAnyH_take (i := 31) (oi := ({ dst := some 60, op := Op.move (Operand.tmp 59), type := 4, pos := "law.go:86", after := #[{ on := 30, ground := Ground.data }, { on := 26, ground := Ground.chain }], guard := none })) (v := ?_) rfl (by kernel_rfl) (by kernel_rfl) (by kernel_rfl) (fun _ _ _ h => h) (Or.inl ⟨by rfl, ?_⟩) (by assumption) ?_
          rotate_left
          · (intro wS hSw; go_simp; all_goals with_reducible rfl)
          try simp only [Act.put, List.setIfInBounds_toArray, List.set_cons_zero, List.set_cons_succ]
          refine wpAnyH_take (i := 32) (oi := ({ dst := some 61, op := Op.move (Operand.tmp 9), type := 4, pos := "law.go:86", after := #[{ on := 31, ground := Ground.guard }], guard := some (31, true) })) (v := ?_) rfl (by kernel_rfl) (by kernel_rfl) (by kernel_rfl) (fun _ _ _ h => h) (Or.inl ⟨by rfl, ?_⟩) (by assumption) ?_
          rotate_left
          · (intro wS hSw; go_simp; all_goals with_reducible rfl)
          try simp only [Act.put, List.setIfInBounds_toArray, List.set_cons_zero, List.set_cons_succ]
          refine wpAnyH_take (i := 33) (oi := ({ dst := some 62, op := Op.move (Operand.tmp 61), type := 4, pos := "law.go:86", after := #[{ on := 32, ground := Ground.data }, { on := 31, ground := Ground.chain }, { on := 31, ground := Ground.guard }], guard := some (31, true) })) (v := ?_) rfl (by kernel_rfl) (by kernel_rfl) (by kernel_rfl) (fun _ _ _ h => h) (Or.inl ⟨by rfl, ?_⟩) (by assumption) ?_
          rotate_left
          · (intro wS hSw; go_simp; all_goals with_reducible rfl)
          try simp only [Act.put, List.setIfInBounds_toArray, List.set_cons_zero, List.set_cons_succ]
          refine wpAnyH_take (i := 34) (oi := ({ dst := some 63, op := Op.move (Operand.tmp 10), type := 4, pos := "law.go:86", after := #[{ on := 33, ground := Ground.guard }], guard := some (33, false) })) (v := ?_) rfl (by kernel_rfl) (by kernel_rfl) (by kernel_rfl) (fun _ _ _ h => h) (Or.inl ⟨by rfl, ?_⟩) (by assumption) ?_
          rotate_left
          · (intro wS hSw; go_simp; all_goals with_reducible rfl)
          try simp only [Act.put, List.setIfInBounds_toArray, List.set_cons_zero, List.set_cons_succ]
          refine wpAnyH_take (i := 35) (oi := ({ dst := some 64, op := Op.pick (Operand.tmp 62) (Operand.const (Value.bool true)) (Operand.tmp 63), type := 4, pos := "law.go:86", after := #[{ on := 33, ground := Ground.data }, { on := 34, ground := Ground.data }, { on := 31, ground := Ground.guard }], guard := some (31, true) })) (v := ?_) rfl (by kernel_rfl) (by kernel_rfl) (by kernel_rfl) (fun _ _ _ h => h) (Or.inl ⟨by rfl, ?_⟩) (by assumption) ?_
          rotate_left
          · (intro wS hSw; go_simp; all_goals with_reducible rfl)
          try simp only [Act.put, List.setIfInBounds_toArray, List.set_cons_zero, List.set_cons_succ]
          refine wpAnyH_take (i := 36) (oi := ({ dst := some 65, op := Op.move (Operand.tmp 64), type := 4, pos := "law.go:86", after := #[{ on := 35, ground := Ground.data }, { on := 33, ground := Ground.chain }, { on := 31, ground := Ground.guard }], guard := some (31, true) })) (v := ?_) rfl (by kernel_rfl) (by kernel_rfl) (by kernel_rfl) (fun _ _ _ h => h) (Or.inl ⟨by rfl, ?_⟩) (by assumption) ?_
          rotate_left
          · (intro wS hSw; go_simp; all_goals with_reducible rfl)
          try simp only [Act.put, List.setIfInBounds_toArray, List.set_cons_zero, List.set_cons_succ]
          refine wpAnyH_take (i := 37) (oi := ({ dst := some 66, op := Op.load 24 (Operand.tmp 3), type := 24, pos := "law.go:86", after := #[{ on := 36, ground := Ground.guard }], guard := some (36, false) })) (v := undef) rfl (by kernel_rfl) (by kernel_rfl) (by kernel_rfl) (fun _ _ _ h => h) (Or.inr ⟨by rfl, rfl⟩) (by assumption) ?_
          try simp only [Act.put, List.setIfInBounds_toArray, List.set_cons_zero, List.set_cons_succ]
          refine wpAnyH_take (i := 38) (oi := ({ dst := some 67, op := Op.load 24 (Operand.tmp 4), type := 24, pos := "law.go:86", after := #[{ on := 36, ground := Ground.guard }], guard := some (36, false) })) (v := undef) rfl (by kernel_rfl) (by kernel_rfl) (by kernel_rfl) (fun _ _ _ h => h) (Or.inr ⟨by rfl, rfl⟩) (by assumption) ?_
          try simp only [Act.put, List.setIfInBounds_toArray, List.set_cons_zero, List.set_cons_succ]
          refine wpAnyH_take (i := 39) (oi := ({ dst := some 68, op := Op.binOp BinOp.eql 24 (Operand.tmp 66) (Operand.tmp 67) 24, type := 4, pos := "law.go:86", after := #[{ on := 37, ground := Ground.data }, { on := 38, ground := Ground.data }, { on := 36, ground := Ground.guard }], guard := some (36, false) })) (v := undef) rfl (by kernel_rfl) (by kernel_rfl) (by kernel_rfl) (fun _ _ _ h => h) (Or.inr ⟨by rfl, rfl⟩) (by assumption) ?_
          try simp only [Act.put, List.setIfInBounds_toArray, List.set_cons_zero, List.set_cons_succ]
          refine wpAnyH_take (i := 40) (oi := ({ dst := some 69, op := Op.pick (Operand.tmp 65) (Operand.const (Value.bool true)) (Operand.tmp 68), type := 4, pos := "law.go:86", after := #[{ on := 36, ground := Ground.data }, { on := 39, ground := Ground.data }, { on := 31, ground := Ground.guard }], guard := some (31, true) })) (v := ?_) rfl (by kernel_rfl) (by kernel_rfl) (by kernel_rfl) (fun _ _ _ h => h) (Or.inl ⟨by rfl, ?_⟩) (by assumption) ?_
          rotate_left
          · (intro wS hSw; go_simp; all_goals with_reducible rfl)
          try simp only [Act.put, List.setIfInBounds_toArray, List.set_cons_zero, List.set_cons_succ]
          refine wpAnyH_take (i := 41) (oi := ({ dst := some 70, op := Op.pick (Operand.tmp 60) (Operand.tmp 69) (Operand.const (Value.bool false)), type := 4, pos := "law.go:86", after := #[{ on := 31, ground := Ground.data }, { on := 40, ground := Ground.data }], guard := none })) (v := ?_) rfl (by kernel_rfl) (by kernel_rfl) (by kernel_rfl) (fun _ _ _ h => h) (Or.inl ⟨by rfl, ?_⟩) (by assumption) ?_
          rotate_left
          · (intro wS hSw; go_simp; all_goals with_reducible rfl)
          try simp only [Act.put, List.setIfInBounds_toArray, List.set_cons_zero, List.set_cons_succ]
          refine wpAnyH_take (i := 42) (oi := ({ dst := some 6, op := Op.assign (Operand.tmp 70), type := 4, pos := "law.go:86", after := #[{ on := 41, ground := Ground.data }, { on := 36, ground := Ground.chain }, { on := 0, ground := Ground.phase }, { on := 1, ground := Ground.phase }, { on := 2, ground := Ground.phase }, { on := 3, ground := Ground.phase }, { on := 4, ground := Ground.phase }, { on := 5, ground := Ground.phase }, { on := 6, ground := Ground.phase }, { on := 7, ground := Ground.phase }, { on := 8, ground := Ground.phase }, { on := 9, ground := Ground.phase }, { on := 10, ground := Ground.phase }, { on := 11, ground := Ground.phase }, { on := 12, ground := Ground.phase }, { on := 13, ground := Ground.phase }, { on := 14, ground := Ground.phase }, { on := 15, ground := Ground.phase }, { on := 16, ground := Ground.phase }, { on := 17, ground := Ground.phase }, { on := 18, ground := Ground.phase }, { on := 19, ground := Ground.phase }, { on := 20, ground := Ground.phase }, { on := 21, ground := Ground.phase }, { on := 22, ground := Ground.phase }, { on := 23, ground := Ground.phase }, { on := 24, ground := Ground.phase }, { on := 25, ground := Ground.phase }, { on := 26, ground := Ground.phase }, { on := 27, ground := Ground.phase }, { on := 28, ground := Ground.phase }, { on := 29, ground := Ground.phase }, { on := 30, ground := Ground.phase }, { on := 31, ground := Ground.phase }, { on := 32, ground := Ground.phase }, { on := 33, ground := Ground.phase }, { on := 34, ground := Ground.phase }, { on := 35, ground := Ground.phase }, { on := 36, ground := Ground.phase }, { on := 37, ground := Ground.phase }, { on := 38, ground := Ground.phase }, { on := 39, ground := Ground.phase }, { on := 40, ground := Ground.phase }, { on := 41, ground := Ground.phase }], guard := none })) (v := ?_) rfl (by kernel_rfl) (by kernel_rfl) (by kernel_rfl) (fun _ _ _ h => h) (Or.inl ⟨by rfl, ?_⟩) (by assumption) ?_
          rotate_left
          · (intro wS hSw; go_simp; all_goals with_reducible rfl)
          try simp only [Act.put, List.setIfInBounds_toArray, List.set_cons_zero, List.set_cons_succ]
          refine wpAnyH_done (by kernel_rfl) ?_ _
          have kl := Lib.hid (Keeps.trans K5.out hHeld.2.2)
          clear heq
          go_wp2_with fail
          go_ret
          exact ⟨rfl, keeps_below (((K2.out.trans K3.out).trans' HKR.out (fun k hk e => by have e : k = w.heap.size + 1 := e; omega)).trans (K4.out.trans kl.out))⟩
        | false =>
          have hd := HTOT.out rfl rfl
          subst hd
          refine wpAnyH_take (i := 27) (oi := ({ dst := some 56, op := Op.move (Operand.tmp 10), type := 4, pos := "law.go:86", after := #[{ on := 26, ground := Ground.guard }], guard := some (26, true) })) (v := undef) rfl (by kernel_rfl) (by kernel_rfl) (by kernel_rfl) (fun _ _ _ h => h) (Or.inr ⟨by rfl, rfl⟩) (by assumption) ?_
          try simp only [Act.put, List.setIfInBounds_toArray, List.set_cons_zero, List.set_cons_succ]
          refine wpAnyH_take (i := 28) (oi := ({ dst := some 57, op := Op.pick (Operand.tmp 55) (Operand.tmp 56) (Operand.const (Value.bool false)), type := 4, pos := "law.go:86", after := #[{ on := 26, ground := Ground.data }, { on := 27, ground := Ground.data }, { on := 24, ground := Ground.guard }], guard := some (24, true) })) (v := ?_) rfl (by kernel_rfl) (by kernel_rfl) (by kernel_rfl) (fun _ _ _ h => h) (Or.inl ⟨by rfl, ?_⟩) (by assumption) ?_
          rotate_left
          · (intro wS hSw; go_simp; all_goals with_reducible rfl)
          try simp only [Act.put, List.setIfInBounds_toArray, List.set_cons_zero, List.set_cons_succ]
          refine wpAnyH_take (i := 29) (oi := ({ dst := some 58, op := Op.unOp UnOp.not 4 (Operand.tmp 57), type := 4, pos := "law.go:86", after := #[{ on := 28, ground := Ground.data }, { on := 24, ground := Ground.guard }], guard := some (24, true) })) (v := ?_) rfl (by kernel_rfl) (by kernel_rfl) (by kernel_rfl) (fun _ _ _ h => h) (Or.inl ⟨by rfl, ?_⟩) (by assumption) ?_
          rotate_left
          · (intro wS hSw; go_simp; all_goals with_reducible rfl)
          try simp only [Act.put, List.setIfInBounds_toArray, List.set_cons_zero, List.set_cons_succ]
          refine wpAnyH_take (i := 30) (oi := ({ dst := some 59, op := Op.pick (Operand.tmp 53) (Operand.tmp 58) (Operand.const (Value.bool false)), type := 4, pos := "law.go:86", after := #[{ on := 24, ground := Ground.data }, { on := 29, ground := Ground.data }], guard := none })) (v := ?_) rfl (by kernel_rfl) (by kernel_rfl) (by kernel_rfl) (fun _ _ _ h => h) (Or.inl ⟨by rfl, ?_⟩) (by assumption) ?_
          rotate_left
          · (intro wS hSw; go_simp; all_goals with_reducible rfl)
          try simp only [Act.put, List.setIfInBounds_toArray, List.set_cons_zero, List.set_cons_succ]
          refine wpAnyH_take (i := 31) (oi := ({ dst := some 60, op := Op.move (Operand.tmp 59), type := 4, pos := "law.go:86", after := #[{ on := 30, ground := Ground.data }, { on := 26, ground := Ground.chain }], guard := none })) (v := ?_) rfl (by kernel_rfl) (by kernel_rfl) (by kernel_rfl) (fun _ _ _ h => h) (Or.inl ⟨by rfl, ?_⟩) (by assumption) ?_
          rotate_left
          · (intro wS hSw; go_simp; all_goals with_reducible rfl)
          try simp only [Act.put, List.setIfInBounds_toArray, List.set_cons_zero, List.set_cons_succ]
          refine wpAnyH_take (i := 32) (oi := ({ dst := some 61, op := Op.move (Operand.tmp 9), type := 4, pos := "law.go:86", after := #[{ on := 31, ground := Ground.guard }], guard := some (31, true) })) (v := ?_) rfl (by kernel_rfl) (by kernel_rfl) (by kernel_rfl) (fun _ _ _ h => h) (Or.inl ⟨by rfl, ?_⟩) (by assumption) ?_
          rotate_left
          · (intro wS hSw; go_simp; all_goals with_reducible rfl)
          try simp only [Act.put, List.setIfInBounds_toArray, List.set_cons_zero, List.set_cons_succ]
          refine wpAnyH_take (i := 33) (oi := ({ dst := some 62, op := Op.move (Operand.tmp 61), type := 4, pos := "law.go:86", after := #[{ on := 32, ground := Ground.data }, { on := 31, ground := Ground.chain }, { on := 31, ground := Ground.guard }], guard := some (31, true) })) (v := ?_) rfl (by kernel_rfl) (by kernel_rfl) (by kernel_rfl) (fun _ _ _ h => h) (Or.inl ⟨by rfl, ?_⟩) (by assumption) ?_
          rotate_left
          · (intro wS hSw; go_simp; all_goals with_reducible rfl)
          try simp only [Act.put, List.setIfInBounds_toArray, List.set_cons_zero, List.set_cons_succ]
          refine wpAnyH_take (i := 34) (oi := ({ dst := some 63, op := Op.move (Operand.tmp 10), type := 4, pos := "law.go:86", after := #[{ on := 33, ground := Ground.guard }], guard := some (33, false) })) (v := ?_) rfl (by kernel_rfl) (by kernel_rfl) (by kernel_rfl) (fun _ _ _ h => h) (Or.inl ⟨by rfl, ?_⟩) (by assumption) ?_
          rotate_left
          · (intro wS hSw; go_simp; all_goals with_reducible rfl)
          try simp only [Act.put, List.setIfInBounds_toArray, List.set_cons_zero, List.set_cons_succ]
          refine wpAnyH_take (i := 35) (oi := ({ dst := some 64, op := Op.pick (Operand.tmp 62) (Operand.const (Value.bool true)) (Operand.tmp 63), type := 4, pos := "law.go:86", after := #[{ on := 33, ground := Ground.data }, { on := 34, ground := Ground.data }, { on := 31, ground := Ground.guard }], guard := some (31, true) })) (v := ?_) rfl (by kernel_rfl) (by kernel_rfl) (by kernel_rfl) (fun _ _ _ h => h) (Or.inl ⟨by rfl, ?_⟩) (by assumption) ?_
          rotate_left
          · (intro wS hSw; go_simp; all_goals with_reducible rfl)
          try simp only [Act.put, List.setIfInBounds_toArray, List.set_cons_zero, List.set_cons_succ]
          refine wpAnyH_take (i := 36) (oi := ({ dst := some 65, op := Op.move (Operand.tmp 64), type := 4, pos := "law.go:86", after := #[{ on := 35, ground := Ground.data }, { on := 33, ground := Ground.chain }, { on := 31, ground := Ground.guard }], guard := some (31, true) })) (v := ?_) rfl (by kernel_rfl) (by kernel_rfl) (by kernel_rfl) (fun _ _ _ h => h) (Or.inl ⟨by rfl, ?_⟩) (by assumption) ?_
          rotate_left
          · (intro wS hSw; go_simp; all_goals with_reducible rfl)
          try simp only [Act.put, List.setIfInBounds_toArray, List.set_cons_zero, List.set_cons_succ]
          refine wpAnyH_take (i := 37) (oi := ({ dst := some 66, op := Op.load 24 (Operand.tmp 3), type := 24, pos := "law.go:86", after := #[{ on := 36, ground := Ground.guard }], guard := some (36, false) })) (v := .agg RA.toArray) rfl (by kernel_rfl) (by kernel_rfl) (by kernel_rfl) (fun _ _ _ h => h) (yieldsIf_load_mid (by rfl) _ _ rfl (w.heap.size) 0 rfl RA _ (fun _ h => h.1) hund (by rfl) hinf) (by assumption) ?_
          try simp only [Act.put, List.setIfInBounds_toArray, List.set_cons_zero, List.set_cons_succ]
          refine wpAnyH_take (i := 38) (oi := ({ dst := some 67, op := Op.load 24 (Operand.tmp 4), type := 24, pos := "law.go:86", after := #[{ on := 36, ground := Ground.guard }], guard := some (36, false) })) (v := .agg RC.toArray) rfl (by kernel_rfl) (by kernel_rfl) (by kernel_rfl) (fun _ _ _ h => h) (yieldsIf_load_mid (by rfl) _ _ rfl (w.heap.size + 1) 0 rfl RC _ (fun _ h => h.2.1) hund (by rfl) hinf2) (by assumption) ?_
          try simp only [Act.put, List.setIfInBounds_toArray, List.set_cons_zero, List.set_cons_succ]
          refine wpAnyH_take (i := 39) (oi := ({ dst := some 68, op := Op.binOp BinOp.eql 24 (Operand.tmp 66) (Operand.tmp 67) 24, type := 4, pos := "law.go:86", after := #[{ on := 37, ground := Ground.data }, { on := 38, ground := Ground.data }, { on := 36, ground := Ground.guard }], guard := some (36, false) })) (v := ?_) rfl (by kernel_rfl) (by kernel_rfl) (by kernel_rfl) (fun _ _ _ h => h) (Or.inl ⟨by rfl, ?_⟩) (by assumption) ?_
          rotate_left
          · (intro wS hSw; go_simp; all_goals with_reducible rfl)
          try simp only [Act.put, List.setIfInBounds_toArray, List.set_cons_zero, List.set_cons_succ]
          refine wpAnyH_take (i := 40) (oi := ({ dst := some 69, op := Op.pick (Operand.tmp 65) (Operand.const (Value.bool true)) (Operand.tmp 68), type := 4, pos := "law.go:86", after := #[{ on := 36, ground := Ground.data }, { on := 39, ground := Ground.data }, { on := 31, ground := Ground.guard }], guard := some (31, true) })) (v := ?_) rfl (by kernel_rfl) (by kernel_rfl) (by kernel_rfl) (fun _ _ _ h => h) (Or.inl ⟨by rfl, ?_⟩) (by assumption) ?_
          rotate_left
          · (intro wS hSw; go_simp; all_goals with_reducible rfl)
          try simp only [Act.put, List.setIfInBounds_toArray, List.set_cons_zero, List.set_cons_succ]
          refine wpAnyH_take (i := 41) (oi := ({ dst := some 70, op := Op.pick (Operand.tmp 60) (Operand.tmp 69) (Operand.const (Value.bool false)), type := 4, pos := "law.go:86", after := #[{ on := 31, ground := Ground.data }, { on := 40, ground := Ground.data }], guard := none })) (v := ?_) rfl (by kernel_rfl) (by kernel_rfl) (by kernel_rfl) (fun _ _ _ h => h) (Or.inl ⟨by rfl, ?_⟩) (by assumption) ?_
          rotate_left
          · (intro wS hSw; go_simp; all_goals with_reducible rfl)
          try simp only [Act.put, List.setIfInBounds_toArray, List.set_cons_zero, List.set_cons_succ]
          refine wpAnyH_take (i := 42) (oi := ({ dst := some 6, op := Op.assign (Operand.tmp 70), type := 4, pos := "law.go:86", after := #[{ on := 41, ground := Ground.data }, { on := 36, ground := Ground.chain }, { on := 0, ground := Ground.phase }, { on := 1, ground := Ground.phase }, { on := 2, ground := Ground.phase }, { on := 3, ground := Ground.phase }, { on := 4, ground := Ground.phase }, { on := 5, ground := Ground.phase }, { on := 6, ground := Ground.phase }, { on := 7, ground := Ground.phase }, { on := 8, ground := Ground.phase }, { on := 9, ground := Ground.phase }, { on := 10, ground := Ground.phase }, { on := 11, ground := Ground.phase }, { on := 12, ground := Ground.phase }, { on := 13, ground := Ground.phase }, { on := 14, ground := Ground.phase }, { on := 15, ground := Ground.phase }, { on := 16, ground := Ground.phase }, { on := 17, ground := Ground.phase }, { on := 18, ground := Ground.phase }, { on := 19, ground := Ground.phase }, { on := 20, ground := Ground.phase }, { on := 21, ground := Ground.phase }, { on := 22, ground := Ground.phase }, { on := 23, ground := Ground.phase }, { on := 24, ground := Ground.phase }, { on := 25, ground := Ground.phase }, { on := 26, ground := Ground.phase }, { on := 27, ground := Ground.phase }, { on := 28, ground := Ground.phase }, { on := 29, ground := Ground.phase }, { on := 30, ground := Ground.phase }, { on := 31, ground := Ground.phase }, { on := 32, ground := Ground.phase }, { on := 33, ground := Ground.phase }, { on := 34, ground := Ground.phase }, { on := 35, ground := Ground.phase }, { on := 36, ground := Ground.phase }, { on := 37, ground := Ground.phase }, { on := 38, ground := Ground.phase }, { on := 39, ground := Ground.phase }, { on := 40, ground := Ground.phase }, { on := 41, ground := Ground.phase }], guard := none })) (v := ?_) rfl (by kernel_rfl) (by kernel_rfl) (by kernel_rfl) (fun _ _ _ h => h) (Or.inl ⟨by rfl, ?_⟩) (by assumption) ?_
          rotate_left
          · (intro wS hSw; go_simp; all_goals with_reducible rfl)
          try simp only [Act.put, List.setIfInBounds_toArray, List.set_cons_zero, List.set_cons_succ]
          refine wpAnyH_done (by kernel_rfl) ?_ _
          have kl := Lib.hid (Keeps.trans K5.out hHeld.2.2)
          clear heq
          go_wp2_with fail
          go_ret
          exact ⟨rfl, keeps_below (((K2.out.trans K3.out).trans' HKR.out (fun k hk e => by have e : k = w.heap.size + 1 := e; omega)).trans (K4.out.trans kl.out))⟩
end Go.Proofs.Yteikldemppbjpaa
