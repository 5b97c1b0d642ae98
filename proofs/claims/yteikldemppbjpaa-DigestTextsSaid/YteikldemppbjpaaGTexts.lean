/-
  DigestTexts: the law's walk: it returns true, and writes nothing that was there. No condition.
-/
import Derived.Test.YteikldemppbjpaaGHash
import Derived.Deep.RegionHeld3
namespace Go.Proofs.Yteikldemppbjpaa
open Go Go.RowKit
set_option linter.unusedVariables false

set_option maxHeartbeats 4000000 in
theorem texts_walk (a b : List UInt8) (w : World) (ha : a.length = 32) (hb : b.length = 32) : Calls Try.prog 6 #[.agg (bvs a).toArray, .agg (bvs b).toArray] w fun e w' => e = .returned (.bool true) ∧ Below w.heap.size w w' := by
  have z1 : ((w.alloc (Obj.cells (bvs a).toArray 24)).alloc (Obj.cells (bvs b).toArray 24)).heap[w.heap.size]? = some (.cells (bvs a).toArray 24 (0, 0)) := heap_alloc_at0
  have z2 : ((w.alloc (Obj.cells (bvs a).toArray 24)).alloc (Obj.cells (bvs b).toArray 24)).heap[w.heap.size + 1]? = some (.cells (bvs b).toArray 24 (0, 0)) := heap_alloc_at1
  obtain ⟨c, hc⟩ : ∃ c, c = (a == b) := ⟨_, rfl⟩
  have heq := eq_hash a b ha hb
  rw [← hc] at heq
  obtain ⟨sA, hsA⟩ : ∃ s, s = str (textL a) := ⟨_, rfl⟩
  obtain ⟨sB, hsB⟩ : ∃ s, s = str (textL b) := ⟨_, rfl⟩
  have hbeq : (sA.toList == sB.toList) = c := by
    rw [hsA, hsB, toList_str, toList_str, hc]
    by_cases e : a = b
    · subst e; rw [beq_self_eq_true, beq_self_eq_true]
    · have e2 : ¬ textL a = textL b := fun h => e (textL_inj a b h)
      rw [beq_eq_false_iff_ne.2 e2, beq_eq_false_iff_ne.2 e]
  have hsz : sA.size = 64 := by rw [hsA, size_str, textL_length, ha]
  have ht1 : ∀ W, Calls Try.prog 16 #[.agg (bvs a).toArray] W fun e w' => e = .returned (.string sA) ∧ Keeps noBlock W w' := fun W => by rw [hsA]; exact text_any a W ha
  have ht2 : ∀ W, Calls Try.prog 16 #[.agg (bvs b).toArray] W fun e w' => e = .returned (.string sB) ∧ Keeps noBlock W w' := fun W => by rw [hsB]; exact text_any b W hb
  have ht3 : ∀ W, Calls Try.prog 17 #[.agg (bvs a).toArray] W fun e w' => e = .returned (.string sA) ∧ Keeps noBlock W w' := fun W => by rw [hsA]; exact rtext_any a W ha
  have hr1 : (bvs a).length = 32 := by rw [length_bvs, ha]
  have hr2 : (bvs b).length = 32 := by rw [length_bvs, hb]
  obtain ⟨RA, hRA⟩ : ∃ R, R = bvs a := ⟨_, rfl⟩
  obtain ⟨RB, hRB⟩ : ∃ R, R = bvs b := ⟨_, rfl⟩
  rw [← hRA] at z1 z2 heq ht1 ht3 hr1
  rw [← hRB] at z1 z2 heq ht2 hr2
  rw [← hRA, ← hRB]
  have k0 : Keeps noBlock w ((w.alloc (Obj.cells RA.toArray 24)).alloc (Obj.cells RB.toArray 24)) := ((Keeps.refl _ _).alloc _).alloc _
  have HT1 := Lib.hid ht1; have HT2 := Lib.hid ht2; have HT3 := Lib.hid ht3; have Z1 := Lib.hid z1; have Z2 := Lib.hid z2; have K0 := Lib.hid k0
  have hund := Try.underlying24
  have hinf : (Try.prog.info? 24).map (·.size) = some RA.length := by rw [hr1]; kernel_rfl
  have hinf2 : (Try.prog.info? 24).map (·.size) = some RB.length := by rw [hr2]; kernel_rfl
  have HINF := Lib.hid hinf; have HINF2 := Lib.hid hinf2
  clear hc hsA hsB hRA hRB ha hb z1 z2 ht1 ht2 ht3 k0 hinf hinf2
  go_enter Try.func6, Try.ntmps6
  go_wp2_with fail
  refine (sanity_any _).mono ?_
  rintro e w1 ⟨rfl, k1⟩
  have K1 := Lib.hid k1; clear k1
  go_wp2_with fail
  have hall : ∀ W, Keeps noBlock w1 W → (W.rangeAt w.heap.size 0 RA ∧ W.rangeAt (w.heap.size + 1) 0 RB ∧ Keeps noBlock w1 W) := by
    intro W hW
    have hk := K1.out.trans hW
    refine ⟨fun j v hv => ?_, fun j v hv => ?_, hW⟩
    · rw [Nat.zero_add, cell_of_heap (hk.heap Z1.out (fun e => e))]
      simpa using hv
    · rw [Nat.zero_add, cell_of_heap (hk.heap Z2.out (fun e => e))]
      simpa using hv
  have HA := Lib.hid hall
  have hinf := HINF.out; have hinf2 := HINF2.out
  clear hall
  refine wp_region_held_drew (S := fun w' => w'.rangeAt w.heap.size 0 RA ∧ w'.rangeAt (w.heap.size + 1) 0 RB ∧ Keeps noBlock w1 w') (by kernel_rfl) (HA.out _ (Keeps.refl _ _).drew) (fun hHeld => ?_)
  refine wpAnyH_take (i := 0) (oi := ({ dst := some 7, op := Op.move (Operand.tmp 5), type := 4, pos := "law.go:55", after := #[], guard := none })) (v := ?_) rfl (by kernel_rfl) (by kernel_rfl) (by kernel_rfl) (fun _ _ _ h => h) (Or.inl ⟨by rfl, ?_⟩) (by assumption) ?_
  rotate_left
  · (intro wS hSw; go_simp; all_goals with_reducible rfl)
  try simp only [Act.put, List.setIfInBounds_toArray, List.set_cons_zero, List.set_cons_succ]
  refine wpAnyH_take (i := 1) (oi := ({ dst := some 8, op := Op.move (Operand.tmp 7), type := 4, pos := "law.go:55", after := #[{ on := 0, ground := Ground.data }], guard := none })) (v := ?_) rfl (by kernel_rfl) (by kernel_rfl) (by kernel_rfl) (fun _ _ _ h => h) (Or.inl ⟨by rfl, ?_⟩) (by assumption) ?_
  rotate_left
  · (intro wS hSw; go_simp; all_goals with_reducible rfl)
  try simp only [Act.put, List.setIfInBounds_toArray, List.set_cons_zero, List.set_cons_succ]
  refine wpAnyH_take (i := 2) (oi := ({ dst := some 9, op := Op.load 24 (Operand.tmp 2), type := 24, pos := "law.go:55", after := #[{ on := 1, ground := Ground.guard }], guard := some (1, true) })) (v := .agg RA.toArray) rfl (by kernel_rfl) (by kernel_rfl) (by kernel_rfl) (fun _ _ _ h => h) (yieldsIf_load_mid (by rfl) _ _ rfl (w.heap.size) 0 rfl RA _ (fun _ h => h.1) hund (by rfl) hinf) (by assumption) ?_
  try simp only [Act.put, List.setIfInBounds_toArray, List.set_cons_zero, List.set_cons_succ]
  refine wpAnyH_take (i := 4) (oi := ({ dst := some 11, op := Op.load 24 (Operand.tmp 2), type := 24, pos := "law.go:55", after := #[{ on := 1, ground := Ground.guard }], guard := some (1, true) })) (v := .agg RA.toArray) rfl (by kernel_rfl) (by kernel_rfl) (by kernel_rfl) (fun _ _ _ h => h) (yieldsIf_load_mid (by rfl) _ _ rfl (w.heap.size) 0 rfl RA _ (fun _ h => h.1) hund (by rfl) hinf) (by assumption) ?_
  try simp only [Act.put, List.setIfInBounds_toArray, List.set_cons_zero, List.set_cons_succ]
  refine wpAnyH_ready (rs := [3]) (by kernel_rfl) (by simp) ?_
  refine AllReadyH.cons (o := ({ dst := some 10, op := Op.call { callee := Callee.value (Operand.func 16), args := #[Operand.tmp 9], argTypes := #[24] }, type := 9, pos := "law.go:55", after := #[{ on := 2, ground := Ground.data }, { on := 1, ground := Ground.chain }, { on := 1, ground := Ground.guard }], guard := some (1, true) })) rfl (fun K hK => ?_) AllReadyH.nil
  go_simp
  refine (HT1.out _).mono ?_
  rintro e wC ⟨rfl, kC⟩
  go_wp2_with fail
  refine hK.out _ _ (HA.out _ (Keeps.trans hHeld.2.2 kC)) (fun hHeldN => ?_)
  clear hK K hHeld kC
  have hHeld := hHeldN
  clear hHeldN
  try simp only [Act.put, List.setIfInBounds_toArray, List.set_cons_zero, List.set_cons_succ]
  refine wpAnyH_ready (rs := [5]) (by kernel_rfl) (by simp) ?_
  refine AllReadyH.cons (o := ({ dst := some 12, op := Op.call { callee := Callee.value (Operand.func 17), args := #[Operand.tmp 11], argTypes := #[24] }, type := 9, pos := "law.go:55", after := #[{ on := 4, ground := Ground.data }, { on := 3, ground := Ground.chain }, { on := 1, ground := Ground.guard }], guard := some (1, true) })) rfl (fun K hK => ?_) AllReadyH.nil
  go_simp
  refine (HT3.out _).mono ?_
  rintro e wC ⟨rfl, kC⟩
  go_wp2_with fail
  refine hK.out _ _ (HA.out _ (Keeps.trans hHeld.2.2 kC)) (fun hHeldN => ?_)
  clear hK K hHeld kC
  have hHeld := hHeldN
  clear hHeldN
  try simp only [Act.put, List.setIfInBounds_toArray, List.set_cons_zero, List.set_cons_succ]
  refine wpAnyH_take (i := 6) (oi := ({ dst := some 13, op := Op.binOp BinOp.eql 9 (Operand.tmp 10) (Operand.tmp 12) 9, type := 4, pos := "law.go:55", after := #[{ on := 3, ground := Ground.data }, { on := 5, ground := Ground.data }, { on := 1, ground := Ground.guard }], guard := some (1, true) })) (v := ?_) rfl (by kernel_rfl) (by kernel_rfl) (by kernel_rfl) (fun _ _ _ h => h) (Or.inl ⟨by rfl, ?_⟩) (by assumption) ?_
  rotate_left
  · (intro wS hSw; go_simp; all_goals with_reducible rfl)
  try simp only [Act.put, List.setIfInBounds_toArray, List.set_cons_zero, List.set_cons_succ]
  refine wpAnyH_take (i := 7) (oi := ({ dst := some 14, op := Op.pick (Operand.tmp 8) (Operand.tmp 13) (Operand.const (Value.bool false)), type := 4, pos := "law.go:55", after := #[{ on := 1, ground := Ground.data }, { on := 6, ground := Ground.data }], guard := none })) (v := ?_) rfl (by kernel_rfl) (by kernel_rfl) (by kernel_rfl) (fun _ _ _ h => h) (Or.inl ⟨by rfl, ?_⟩) (by assumption) ?_
  rotate_left
  · (intro wS hSw; go_simp; all_goals with_reducible rfl)
  try simp only [Act.put, List.setIfInBounds_toArray, List.set_cons_zero, List.set_cons_succ]
  refine wpAnyH_take (i := 8) (oi := ({ dst := some 15, op := Op.move (Operand.tmp 14), type := 4, pos := "law.go:55", after := #[{ on := 7, ground := Ground.data }, { on := 5, ground := Ground.chain }], guard := none })) (v := ?_) rfl (by kernel_rfl) (by kernel_rfl) (by kernel_rfl) (fun _ _ _ h => h) (Or.inl ⟨by rfl, ?_⟩) (by assumption) ?_
  rotate_left
  · (intro wS hSw; go_simp; all_goals with_reducible rfl)
  try simp only [Act.put, List.setIfInBounds_toArray, List.set_cons_zero, List.set_cons_succ]
  refine wpAnyH_take (i := 9) (oi := ({ dst := some 16, op := Op.load 24 (Operand.tmp 2), type := 24, pos := "law.go:55", after := #[{ on := 8, ground := Ground.guard }], guard := some (8, true) })) (v := .agg RA.toArray) rfl (by kernel_rfl) (by kernel_rfl) (by kernel_rfl) (fun _ _ _ h => h) (yieldsIf_load_mid (by rfl) _ _ rfl (w.heap.size) 0 rfl RA _ (fun _ h => h.1) hund (by rfl) hinf) (by assumption) ?_
  try simp only [Act.put, List.setIfInBounds_toArray, List.set_cons_zero, List.set_cons_succ]
  refine wpAnyH_ready (rs := [10]) (by kernel_rfl) (by simp) ?_
  refine AllReadyH.cons (o := ({ dst := some 17, op := Op.call { callee := Callee.value (Operand.func 16), args := #[Operand.tmp 16], argTypes := #[24] }, type := 9, pos := "law.go:55", after := #[{ on := 9, ground := Ground.data }, { on := 8, ground := Ground.chain }, { on := 8, ground := Ground.guard }], guard := some (8, true) })) rfl (fun K hK => ?_) AllReadyH.nil
  go_simp
  refine (HT1.out _).mono ?_
  rintro e wC ⟨rfl, kC⟩
  go_wp2_with fail
  refine hK.out _ _ (HA.out _ (Keeps.trans hHeld.2.2 kC)) (fun hHeldN => ?_)
  clear hK K hHeld kC
  have hHeld := hHeldN
  clear hHeldN
  try simp only [Act.put, List.setIfInBounds_toArray, List.set_cons_zero, List.set_cons_succ]
  refine wpAnyH_take (i := 11) (oi := ({ dst := some 18, op := Op.call { callee := Callee.builtin Builtin.len, args := #[Operand.tmp 17], argTypes := #[9] }, type := 3, pos := "law.go:55", after := #[{ on := 10, ground := Ground.data }, { on := 8, ground := Ground.guard }], guard := some (8, true) })) (v := ?_) rfl (by kernel_rfl) (by kernel_rfl) (by kernel_rfl) (fun _ _ _ h => h) (Or.inl ⟨by rfl, ?_⟩) (by assumption) ?_
  rotate_left
  · (intro wS hSw; go_simp; all_goals with_reducible rfl)
  try simp only [Act.put, List.setIfInBounds_toArray, List.set_cons_zero, List.set_cons_succ]
  refine wpAnyH_take (i := 12) (oi := ({ dst := some 19, op := Op.binOp BinOp.eql 3 (Operand.tmp 18) (Operand.const (Value.int IntKind.i64 64)) 3, type := 4, pos := "law.go:55", after := #[{ on := 11, ground := Ground.data }, { on := 8, ground := Ground.guard }], guard := some (8, true) })) (v := ?_) rfl (by kernel_rfl) (by kernel_rfl) (by kernel_rfl) (fun _ _ _ h => h) (Or.inl ⟨by rfl, ?_⟩) (by assumption) ?_
  rotate_left
  · (intro wS hSw; go_simp; all_goals with_reducible rfl)
  try simp only [Act.put, List.setIfInBounds_toArray, List.set_cons_zero, List.set_cons_succ]
  refine wpAnyH_take (i := 13) (oi := ({ dst := some 20, op := Op.pick (Operand.tmp 15) (Operand.tmp 19) (Operand.const (Value.bool false)), type := 4, pos := "law.go:55", after := #[{ on := 8, ground := Ground.data }, { on := 12, ground := Ground.data }], guard := none })) (v := ?_) rfl (by kernel_rfl) (by kernel_rfl) (by kernel_rfl) (fun _ _ _ h => h) (Or.inl ⟨by rfl, ?_⟩) (by assumption) ?_
  rotate_left
  · (intro wS hSw; go_simp; all_goals with_reducible rfl)
  try simp only [Act.put, List.setIfInBounds_toArray, List.set_cons_zero, List.set_cons_succ]
  refine wpAnyH_take (i := 14) (oi := ({ dst := some 21, op := Op.move (Operand.tmp 20), type := 4, pos := "law.go:55", after := #[{ on := 13, ground := Ground.data }, { on := 10, ground := Ground.chain }], guard := none })) (v := ?_) rfl (by kernel_rfl) (by kernel_rfl) (by kernel_rfl) (fun _ _ _ h => h) (Or.inl ⟨by rfl, ?_⟩) (by assumption) ?_
  rotate_left
  · (intro wS hSw; go_simp; all_goals with_reducible rfl)
  try simp only [Act.put, List.setIfInBounds_toArray, List.set_cons_zero, List.set_cons_succ]
  refine wpAnyH_take (i := 15) (oi := ({ dst := some 22, op := Op.load 24 (Operand.tmp 2), type := 24, pos := "law.go:55", after := #[{ on := 14, ground := Ground.guard }], guard := some (14, true) })) (v := .agg RA.toArray) rfl (by kernel_rfl) (by kernel_rfl) (by kernel_rfl) (fun _ _ _ h => h) (yieldsIf_load_mid (by rfl) _ _ rfl (w.heap.size) 0 rfl RA _ (fun _ h => h.1) hund (by rfl) hinf) (by assumption) ?_
  try simp only [Act.put, List.setIfInBounds_toArray, List.set_cons_zero, List.set_cons_succ]
  refine wpAnyH_take (i := 17) (oi := ({ dst := some 24, op := Op.load 24 (Operand.tmp 3), type := 24, pos := "law.go:55", after := #[{ on := 14, ground := Ground.guard }], guard := some (14, true) })) (v := .agg RB.toArray) rfl (by kernel_rfl) (by kernel_rfl) (by kernel_rfl) (fun _ _ _ h => h) (yieldsIf_load_mid (by rfl) _ _ rfl (w.heap.size + 1) 0 rfl RB _ (fun _ h => h.2.1) hund (by rfl) hinf2) (by assumption) ?_
  try simp only [Act.put, List.setIfInBounds_toArray, List.set_cons_zero, List.set_cons_succ]
  refine wpAnyH_take (i := 20) (oi := ({ dst := some 27, op := Op.load 24 (Operand.tmp 2), type := 24, pos := "law.go:55", after := #[{ on := 14, ground := Ground.guard }], guard := some (14, true) })) (v := .agg RA.toArray) rfl (by kernel_rfl) (by kernel_rfl) (by kernel_rfl) (fun _ _ _ h => h) (yieldsIf_load_mid (by rfl) _ _ rfl (w.heap.size) 0 rfl RA _ (fun _ h => h.1) hund (by rfl) hinf) (by assumption) ?_
  try simp only [Act.put, List.setIfInBounds_toArray, List.set_cons_zero, List.set_cons_succ]
  refine wpAnyH_take (i := 21) (oi := ({ dst := some 28, op := Op.load 24 (Operand.tmp 3), type := 24, pos := "law.go:55", after := #[{ on := 14, ground := Ground.guard }], guard := some (14, true) })) (v := .agg RB.toArray) rfl (by kernel_rfl) (by kernel_rfl) (by kernel_rfl) (fun _ _ _ h => h) (yieldsIf_load_mid (by rfl) _ _ rfl (w.heap.size + 1) 0 rfl RB _ (fun _ h => h.2.1) hund (by rfl) hinf2) (by assumption) ?_
  try simp only [Act.put, List.setIfInBounds_toArray, List.set_cons_zero, List.set_cons_succ]
  refine wpAnyH_take (i := 22) (oi := ({ dst := some 29, op := Op.binOp BinOp.eql 24 (Operand.tmp 27) (Operand.tmp 28) 24, type := 4, pos := "law.go:55", after := #[{ on := 20, ground := Ground.data }, { on := 21, ground := Ground.data }, { on := 14, ground := Ground.guard }], guard := some (14, true) })) (v := ?_) rfl (by kernel_rfl) (by kernel_rfl) (by kernel_rfl) (fun _ _ _ h => h) (Or.inl ⟨by rfl, ?_⟩) (by assumption) ?_
  rotate_left
  · (intro wS hSw; go_simp; all_goals with_reducible rfl)
  try simp only [Act.put, List.setIfInBounds_toArray, List.set_cons_zero, List.set_cons_succ]
  refine wpAnyH_ready (rs := [16]) (by kernel_rfl) (by simp) ?_
  refine AllReadyH.cons (o := ({ dst := some 23, op := Op.call { callee := Callee.value (Operand.func 16), args := #[Operand.tmp 22], argTypes := #[24] }, type := 9, pos := "law.go:55", after := #[{ on := 15, ground := Ground.data }, { on := 14, ground := Ground.chain }, { on := 14, ground := Ground.guard }], guard := some (14, true) })) rfl (fun K hK => ?_) AllReadyH.nil
  go_simp
  refine (HT1.out _).mono ?_
  rintro e wC ⟨rfl, kC⟩
  go_wp2_with fail
  refine hK.out _ _ (HA.out _ (Keeps.trans hHeld.2.2 kC)) (fun hHeldN => ?_)
  clear hK K hHeld kC
  have hHeld := hHeldN
  clear hHeldN
  try simp only [Act.put, List.setIfInBounds_toArray, List.set_cons_zero, List.set_cons_succ]
  refine wpAnyH_ready (rs := [18]) (by kernel_rfl) (by simp) ?_
  refine AllReadyH.cons (o := ({ dst := some 25, op := Op.call { callee := Callee.value (Operand.func 16), args := #[Operand.tmp 24], argTypes := #[24] }, type := 9, pos := "law.go:55", after := #[{ on := 17, ground := Ground.data }, { on := 16, ground := Ground.chain }, { on := 14, ground := Ground.guard }], guard := some (14, true) })) rfl (fun K hK => ?_) AllReadyH.nil
  go_simp
  refine (HT2.out _).mono ?_
  rintro e wC ⟨rfl, kC⟩
  go_wp2_with fail
  refine hK.out _ _ (HA.out _ (Keeps.trans hHeld.2.2 kC)) (fun hHeldN => ?_)
  clear hK K hHeld kC
  have hHeld := hHeldN
  clear hHeldN
  try simp only [Act.put, List.setIfInBounds_toArray, List.set_cons_zero, List.set_cons_succ]
  refine wpAnyH_take (i := 19) (oi := ({ dst := some 26, op := Op.binOp BinOp.eql 9 (Operand.tmp 23) (Operand.tmp 25) 9, type := 4, pos := "law.go:55", after := #[{ on := 16, ground := Ground.data }, { on := 18, ground := Ground.data }, { on := 14, ground := Ground.guard }], guard := some (14, true) })) (v := ?_) rfl (by kernel_rfl) (by kernel_rfl) (by kernel_rfl) (fun _ _ _ h => h) (Or.inl ⟨by rfl, ?_⟩) (by assumption) ?_
  rotate_left
  · (intro wS hSw; go_simp; all_goals with_reducible rfl)
  try simp only [Act.put, List.setIfInBounds_toArray, List.set_cons_zero, List.set_cons_succ]
  refine wpAnyH_take (i := 23) (oi := ({ dst := some 30, op := Op.binOp BinOp.eql 4 (Operand.tmp 26) (Operand.tmp 29) 4, type := 4, pos := "law.go:55", after := #[{ on := 19, ground := Ground.data }, { on := 22, ground := Ground.data }, { on := 14, ground := Ground.guard }], guard := some (14, true) })) (v := ?_) rfl (by kernel_rfl) (by kernel_rfl) (by kernel_rfl) (fun _ _ _ h => h) (Or.inl ⟨by rfl, ?_⟩) (by assumption) ?_
  rotate_left
  · (intro wS hSw; go_simp; all_goals with_reducible rfl)
  try simp only [Act.put, List.setIfInBounds_toArray, List.set_cons_zero, List.set_cons_succ]
  refine wpAnyH_take (i := 24) (oi := ({ dst := some 31, op := Op.pick (Operand.tmp 21) (Operand.tmp 30) (Operand.const (Value.bool false)), type := 4, pos := "law.go:55", after := #[{ on := 14, ground := Ground.data }, { on := 23, ground := Ground.data }], guard := none })) (v := ?_) rfl (by kernel_rfl) (by kernel_rfl) (by kernel_rfl) (fun _ _ _ h => h) (Or.inl ⟨by rfl, ?_⟩) (by assumption) ?_
  rotate_left
  · (intro wS hSw; go_simp; all_goals with_reducible rfl)
  try simp only [Act.put, List.setIfInBounds_toArray, List.set_cons_zero, List.set_cons_succ]
  refine wpAnyH_take (i := 25) (oi := ({ dst := some 4, op := Op.assign (Operand.tmp 31), type := 4, pos := "law.go:55", after := #[{ on := 24, ground := Ground.data }, { on := 18, ground := Ground.chain }, { on := 0, ground := Ground.phase }, { on := 1, ground := Ground.phase }, { on := 2, ground := Ground.phase }, { on := 3, ground := Ground.phase }, { on := 4, ground := Ground.phase }, { on := 5, ground := Ground.phase }, { on := 6, ground := Ground.phase }, { on := 7, ground := Ground.phase }, { on := 8, ground := Ground.phase }, { on := 9, ground := Ground.phase }, { on := 10, ground := Ground.phase }, { on := 11, ground := Ground.phase }, { on := 12, ground := Ground.phase }, { on := 13, ground := Ground.phase }, { on := 14, ground := Ground.phase }, { on := 15, ground := Ground.phase }, { on := 16, ground := Ground.phase }, { on := 17, ground := Ground.phase }, { on := 18, ground := Ground.phase }, { on := 19, ground := Ground.phase }, { on := 20, ground := Ground.phase }, { on := 21, ground := Ground.phase }, { on := 22, ground := Ground.phase }, { on := 23, ground := Ground.phase }, { on := 24, ground := Ground.phase }], guard := none })) (v := ?_) rfl (by kernel_rfl) (by kernel_rfl) (by kernel_rfl) (fun _ _ _ h => h) (Or.inl ⟨by rfl, ?_⟩) (by assumption) ?_
  rotate_left
  · (intro wS hSw; go_simp; all_goals with_reducible rfl)
  try simp only [Act.put, List.setIfInBounds_toArray, List.set_cons_zero, List.set_cons_succ]
  refine wpAnyH_done (by kernel_rfl) ?_ _
  have kl := Lib.hid (Keeps.trans (K0.out.trans K1.out) hHeld.2.2)
  clear heq
  go_wp2_with fail
  go_ret
  exact ⟨rfl, keeps_below kl.out⟩
end Go.Proofs.Yteikldemppbjpaa
