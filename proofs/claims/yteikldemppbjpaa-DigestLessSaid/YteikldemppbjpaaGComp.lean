/-
  The contracts of cmp.Compare and slices.Compare at bytes. No condition but on lengths.
-/
import Derived.Test.YteikldemppbjpaaGLess
namespace Go.Proofs.Yteikldemppbjpaa
open Go Go.RowKit
set_option linter.unusedVariables false

theorem isnan_any (x : UInt8) (w : World) : Calls Try.prog 45 #[.int .u8 (x.toNat : Int)] w fun e w' => e = .returned (.bool false) ∧ w = w' := by
  go_enter Try.func45, Try.ntmps45
  go_wp2_with fail
  go_ret
  exact ⟨rfl, rfl⟩
theorem lessL_self : ∀ l : List UInt8, lessL l l = false
  | [] => rfl
  | a :: l => by rw [lessL_eq a a l l rfl]; exact lessL_self l
def cmpB (x y : UInt8) : Int := if x.toNat < y.toNat then -1 else if y.toNat < x.toNat then 1 else 0
theorem ccompare_any (x y : UInt8) (w : World) : Calls Try.prog 40 #[.int .u8 (x.toNat : Int), .int .u8 (y.toNat : Int)] w fun e w' => e = .returned (.int .i64 (cmpB x y)) ∧ w = w' := by
  go_enter Try.func40, Try.ntmps40
  go_wp2_with fail
  refine (isnan_any x w).mono ?_
  rintro e w' ⟨rfl, rfl⟩
  go_wp2_with fail
  refine (isnan_any y w).mono ?_
  rintro e w' ⟨rfl, rfl⟩
  rcases Nat.lt_trichotomy x.toNat y.toNat with hc | hc | hc
  · go_wp2_with fail
    go_ret
    exact ⟨by rw [cmpB, if_pos hc]; rfl, rfl⟩
  · have c1 : ¬ x.toNat < y.toNat := by omega
    have c2 : ¬ y.toNat < x.toNat := by omega
    go_wp2_with fail
    go_ret
    exact ⟨by rw [cmpB, if_neg c1, if_neg c2]; rfl, rfl⟩
  · have c1 : ¬ x.toNat < y.toNat := by omega
    go_wp2_with fail
    go_ret
    exact ⟨by rw [cmpB, if_neg c1, if_pos hc]; rfl, rfl⟩
set_option maxRecDepth 100000 in
set_option maxHeartbeats 1000000 in
theorem scompare_any (a b : List UInt8) (w : World) (g h : Nat) (ha : a.length = 32) (hb : b.length = 32)
    (h1 : w.heap[g]? = some (.cells (bvs a).toArray 24 (0, 0))) (h2 : w.heap[h]? = some (.cells (bvs b).toArray 24 (0, 0))) :
    Calls Try.prog 31 #[.slice (some ⟨g, 0, none⟩) 32 32, .slice (some ⟨h, 0, none⟩) 32 32] w fun e w' => (∃ c : Int, e = .returned (.int .i64 c) ∧ (c < 0 ↔ lessL a b = true)) ∧ Keeps noBlock w w' := by
  have H1 := Lib.hid h1; have H2 := Lib.hid h2; have HA := Lib.hid ha; have HB := Lib.hid hb
  clear h1 h2 ha hb
  go_enter Try.func31, Try.ntmps31
  go_wp2_with fail
  go_loopw [11] (RLessRel w a b) (fun i _ => 32 - (intOf i).toNat)
  case atStart => exact ⟨0, rfl, by omega, rfl, Keeps.refl _ _⟩
  case round =>
    obtain ⟨k, rfl, hk, hl, hkr⟩ := hrel
    by_cases hlt : k < 32
    · have hca := hash_cell (hkr.heap H1.out (fun e => e)) k (by rw [HA.out]; exact hlt)
      have hcb := hash_cell (hkr.heap H2.out (fun e => e)) k (by rw [HB.out]; exact hlt)
      rw [drop_getD a k (by rw [HA.out]; exact hlt), drop_getD b k (by rw [HB.out]; exact hlt)] at hl
      obtain ⟨x, hx⟩ : ∃ x, x = a.getD k 0 := ⟨_, rfl⟩
      obtain ⟨y, hy⟩ : ∃ x, x = b.getD k 0 := ⟨_, rfl⟩
      rw [← hx] at hca hl
      rw [← hy] at hcb hl
      have hk0 : (0 : Int) ≤ (k : Int) := by omega
      have hk1 : (k : Int) < 32 := by omega
      have hk2 : ¬ (32 : Int) ≤ (k : Int) := by omega
      have HKR := Lib.hid hkr
      clear hx hy hkr
      rcases Nat.lt_trichotomy x.toNat y.toNat with hc | hc | hc
      · rw [lessL_lt x y _ _ hc] at hl
        have hcc : cmpB x y = -1 := by rw [cmpB, if_pos hc]
        have HL := Lib.hid hl
        clear hl hc
        go_wp2_with fail
        refine (ccompare_any x y wr).mono ?_
        rintro e w' ⟨rfl, rfl⟩
        rw [hcc]
        go_wp2_with fail
        go_ret
        exact ⟨⟨-1, rfl, by rw [HL.out]; decide⟩, HKR.out⟩
      · rw [lessL_eq x y _ _ hc] at hl
        have hcc : cmpB x y = 0 := by rw [cmpB, if_neg (by omega), if_neg (by omega)]
        have HL := Lib.hid hl
        clear hl hc
        go_wp2_with fail
        refine (ccompare_any x y wr).mono ?_
        rintro e w' ⟨rfl, rfl⟩
        rw [hcc]
        go_wp2_with fail
        go_roundw
        case rel => exact ⟨k + 1, by simp, hlt, HL.out, HKR.out⟩
        case measure => simp [intOf]; omega
      · rw [lessL_gt x y _ _ hc] at hl
        have hcc : cmpB x y = 1 := by rw [cmpB, if_neg (by omega), if_pos hc]
        have HL := Lib.hid hl
        clear hl hc
        go_wp2_with fail
        refine (ccompare_any x y wr).mono ?_
        rintro e w' ⟨rfl, rfl⟩
        rw [hcc]
        go_wp2_with fail
        go_ret
        exact ⟨⟨1, rfl, by rw [HL.out]; decide⟩, HKR.out⟩
    · obtain rfl : k = 32 := by omega
      have HL := Lib.hid hl
      clear hl
      have hk1 : ¬ ((32 : Nat) : Int) < 32 := by omega
      go_wp2_with fail
      go_ret
      refine ⟨⟨0, rfl, ?_⟩, hkr⟩
      rw [HL.out, List.drop_eq_nil_of_le (by rw [HA.out]; exact Nat.le_refl _), List.drop_eq_nil_of_le (by rw [HB.out]; exact Nat.le_refl _)]
      decide
set_option maxRecDepth 100000 in
set_option maxHeartbeats 1000000 in
theorem less_any (a b : List UInt8) (w : World) (ha : a.length = 32) (hb : b.length = 32) : Calls Try.prog 20 #[.agg (bvs a).toArray, .agg (bvs b).toArray] w fun e w' => e = .returned (.bool (lessL a b)) ∧ Keeps noBlock w w' := by
  have z1 : ((w.alloc (Obj.cells (bvs a).toArray 24)).alloc (Obj.cells (bvs b).toArray 24)).heap[w.heap.size]? = some (.cells (bvs a).toArray 24 (0, 0)) := heap_alloc_at0
  have z2 : ((w.alloc (Obj.cells (bvs a).toArray 24)).alloc (Obj.cells (bvs b).toArray 24)).heap[w.heap.size + 1]? = some (.cells (bvs b).toArray 24 (0, 0)) := heap_alloc_at1
  obtain ⟨c, hc⟩ : ∃ c, c = (a == b) := ⟨_, rfl⟩
  have heq := eq_hash a b ha hb
  rw [← hc] at heq
  obtain ⟨w1, hw1⟩ : ∃ w1, w1 = (w.alloc (Obj.cells (bvs a).toArray 24)).alloc (Obj.cells (bvs b).toArray 24) := ⟨_, rfl⟩
  rw [← hw1] at z1 z2
  have k0 : Keeps noBlock w w1 := by rw [hw1]; exact ((Keeps.refl _ _).alloc _).alloc _
  have hct : ∀ W, Keeps noBlock w1 W → Calls Try.prog 31 #[.slice (some ⟨w.heap.size, 0, none⟩) 32 32, .slice (some ⟨w.heap.size + 1, 0, none⟩) 32 32] W fun e w' => (∃ c : Int, e = .returned (.int .i64 c) ∧ (c < 0 ↔ lessL a b = true)) ∧ Keeps noBlock W w' := fun W hW =>
    scompare_any a b W _ _ ha hb (hW.heap z1 (fun e => e)) (hW.heap z2 (fun e => e))
  have hr1 : (bvs a).length = 32 := by rw [length_bvs, ha]
  have hr2 : (bvs b).length = 32 := by rw [length_bvs, hb]
  obtain ⟨LT, hLT⟩ : ∃ b0, b0 = lessL a b := ⟨_, rfl⟩
  have hsame : c = true → LT = false := by
    intro h
    rw [h] at hc
    have e := eq_of_beq hc.symm
    subst e
    rw [hLT]; exact lessL_self a
  rw [← hLT] at hct
  rw [← hLT]
  obtain ⟨RA, hRA⟩ : ∃ R, R = bvs a := ⟨_, rfl⟩
  obtain ⟨RB, hRB⟩ : ∃ R, R = bvs b := ⟨_, rfl⟩
  rw [← hRA] at z1 heq hr1 hw1
  rw [← hRB] at z2 heq hr2 hw1
  rw [← hRA, ← hRB]
  have hinf : (Try.prog.info? 24).map (·.size) = some RA.length := by rw [hr1]; kernel_rfl
  have hinf2 : (Try.prog.info? 24).map (·.size) = some RB.length := by rw [hr2]; kernel_rfl
  have HW1 := Lib.hid hw1; have Z1 := Lib.hid z1; have Z2 := Lib.hid z2; have K0 := Lib.hid k0; have HCT := Lib.hid hct; have HINF := Lib.hid hinf; have HINF2 := Lib.hid hinf2; have HSAME := Lib.hid hsame
  have hund := Try.underlying24
  clear hc hw1 z1 z2 k0 hct hinf hinf2 hRA hRB ha hb hsame hLT
  go_enter Try.func20, Try.ntmps20
  go_wp2_with fail
  rw [← HW1.out]
  have hall : ∀ W, Keeps noBlock w1 W → (W.rangeAt w.heap.size 0 RA ∧ W.rangeAt (w.heap.size + 1) 0 RB ∧ Keeps noBlock w1 W) := by
    intro W hW
    refine ⟨fun j v hv => ?_, fun j v hv => ?_, hW⟩
    · rw [Nat.zero_add, cell_of_heap (hW.heap Z1.out (fun e => e))]
      simpa using hv
    · rw [Nat.zero_add, cell_of_heap (hW.heap Z2.out (fun e => e))]
      simpa using hv
  have HA := Lib.hid hall
  have hinf := HINF.out; have hinf2 := HINF2.out
  clear hall
  refine wp_region_held_drew (S := fun w' => w'.rangeAt w.heap.size 0 RA ∧ w'.rangeAt (w.heap.size + 1) 0 RB ∧ Keeps noBlock w1 w') (by kernel_rfl) (HA.out _ (Keeps.refl _ _).drew) (fun hHeld => ?_)
  cases c with
  | true =>
    refine wpAnyH_take (i := 0) (oi := ({ dst := some 5, op := Op.load 24 (Operand.tmp 2), type := 24, pos := "digest.go:122", after := #[], guard := none })) (v := .agg RA.toArray) rfl (by kernel_rfl) (by kernel_rfl) (by kernel_rfl) (fun _ _ _ h => h) (yieldsIf_load_mid (by rfl) _ _ rfl (w.heap.size) 0 rfl RA _ (fun _ h => h.1) hund (by rfl) hinf) (by assumption) ?_
    try simp only [Act.put, List.setIfInBounds_toArray, List.set_cons_zero, List.set_cons_succ]
    refine wpAnyH_take (i := 1) (oi := ({ dst := some 6, op := Op.load 24 (Operand.tmp 3), type := 24, pos := "digest.go:122", after := #[], guard := none })) (v := .agg RB.toArray) rfl (by kernel_rfl) (by kernel_rfl) (by kernel_rfl) (fun _ _ _ h => h) (yieldsIf_load_mid (by rfl) _ _ rfl (w.heap.size + 1) 0 rfl RB _ (fun _ h => h.2.1) hund (by rfl) hinf2) (by assumption) ?_
    try simp only [Act.put, List.setIfInBounds_toArray, List.set_cons_zero, List.set_cons_succ]
    refine wpAnyH_take (i := 2) (oi := ({ dst := some 7, op := Op.binOp BinOp.neq 24 (Operand.tmp 5) (Operand.tmp 6) 24, type := 4, pos := "digest.go:122", after := #[{ on := 0, ground := Ground.data }, { on := 1, ground := Ground.data }], guard := none })) (v := ?_) rfl (by kernel_rfl) (by kernel_rfl) (by kernel_rfl) (fun _ _ _ h => h) (Or.inl ⟨by rfl, ?_⟩) (by assumption) ?_
    rotate_left
    · (intro wS hSw; go_simp; all_goals with_reducible rfl)
    try simp only [Act.put, List.setIfInBounds_toArray, List.set_cons_zero, List.set_cons_succ]
    refine wpAnyH_take (i := 3) (oi := ({ dst := some 8, op := Op.move (Operand.tmp 7), type := 4, pos := "digest.go:122", after := #[{ on := 2, ground := Ground.data }], guard := none })) (v := ?_) rfl (by kernel_rfl) (by kernel_rfl) (by kernel_rfl) (fun _ _ _ h => h) (Or.inl ⟨by rfl, ?_⟩) (by assumption) ?_
    rotate_left
    · (intro wS hSw; go_simp; all_goals with_reducible rfl)
    try simp only [Act.put, List.setIfInBounds_toArray, List.set_cons_zero, List.set_cons_succ]
    refine wpAnyH_take (i := 4) (oi := ({ dst := some 9, op := Op.slice 24 (Operand.tmp 2) none none none, type := 33, pos := "digest.go:122", after := #[{ on := 3, ground := Ground.guard }], guard := some (3, true) })) (v := undef) rfl (by kernel_rfl) (by kernel_rfl) (by kernel_rfl) (fun _ _ _ h => h) (Or.inr ⟨by rfl, rfl⟩) (by assumption) ?_
    try simp only [Act.put, List.setIfInBounds_toArray, List.set_cons_zero, List.set_cons_succ]
    refine wpAnyH_take (i := 5) (oi := ({ dst := some 10, op := Op.slice 24 (Operand.tmp 3) none none none, type := 33, pos := "digest.go:122", after := #[{ on := 3, ground := Ground.guard }], guard := some (3, true) })) (v := undef) rfl (by kernel_rfl) (by kernel_rfl) (by kernel_rfl) (fun _ _ _ h => h) (Or.inr ⟨by rfl, rfl⟩) (by assumption) ?_
    try simp only [Act.put, List.setIfInBounds_toArray, List.set_cons_zero, List.set_cons_succ]
    refine wpAnyH_take (i := 6) (oi := ({ dst := some 11, op := Op.call { callee := Callee.value (Operand.func 31), args := #[Operand.tmp 9, Operand.tmp 10], argTypes := #[33, 33] }, type := 3, pos := "digest.go:122", after := #[{ on := 4, ground := Ground.data }, { on := 5, ground := Ground.data }, { on := 3, ground := Ground.chain }, { on := 3, ground := Ground.guard }], guard := some (3, true) })) (v := undef) rfl (by kernel_rfl) (by kernel_rfl) (by kernel_rfl) (fun _ _ _ h => h) (Or.inr ⟨by rfl, rfl⟩) (by assumption) ?_
    try simp only [Act.put, List.setIfInBounds_toArray, List.set_cons_zero, List.set_cons_succ]
    refine wpAnyH_take (i := 7) (oi := ({ dst := some 12, op := Op.binOp BinOp.lss 3 (Operand.tmp 11) (Operand.const (Value.int IntKind.i64 0)) 3, type := 4, pos := "digest.go:122", after := #[{ on := 6, ground := Ground.data }, { on := 3, ground := Ground.guard }], guard := some (3, true) })) (v := undef) rfl (by kernel_rfl) (by kernel_rfl) (by kernel_rfl) (fun _ _ _ h => h) (Or.inr ⟨by rfl, rfl⟩) (by assumption) ?_
    try simp only [Act.put, List.setIfInBounds_toArray, List.set_cons_zero, List.set_cons_succ]
    refine wpAnyH_take (i := 8) (oi := ({ dst := some 13, op := Op.pick (Operand.tmp 8) (Operand.tmp 12) (Operand.const (Value.bool false)), type := 4, pos := "digest.go:122", after := #[{ on := 3, ground := Ground.data }, { on := 7, ground := Ground.data }], guard := none })) (v := ?_) rfl (by kernel_rfl) (by kernel_rfl) (by kernel_rfl) (fun _ _ _ h => h) (Or.inl ⟨by rfl, ?_⟩) (by assumption) ?_
    rotate_left
    · (intro wS hSw; go_simp; all_goals with_reducible rfl)
    try simp only [Act.put, List.setIfInBounds_toArray, List.set_cons_zero, List.set_cons_succ]
    refine wpAnyH_take (i := 9) (oi := ({ dst := some 4, op := Op.assign (Operand.tmp 13), type := 4, pos := "digest.go:122", after := #[{ on := 8, ground := Ground.data }, { on := 6, ground := Ground.chain }, { on := 0, ground := Ground.phase }, { on := 1, ground := Ground.phase }, { on := 2, ground := Ground.phase }, { on := 3, ground := Ground.phase }, { on := 4, ground := Ground.phase }, { on := 5, ground := Ground.phase }, { on := 6, ground := Ground.phase }, { on := 7, ground := Ground.phase }, { on := 8, ground := Ground.phase }], guard := none })) (v := ?_) rfl (by kernel_rfl) (by kernel_rfl) (by kernel_rfl) (fun _ _ _ h => h) (Or.inl ⟨by rfl, ?_⟩) (by assumption) ?_
    rotate_left
    · (intro wS hSw; go_simp; all_goals with_reducible rfl)
    try simp only [Act.put, List.setIfInBounds_toArray, List.set_cons_zero, List.set_cons_succ]
    refine wpAnyH_done (by kernel_rfl) ?_ _
    have kl := Lib.hid (Keeps.trans K0.out hHeld.2.2)
    have hs := HSAME.out rfl
    subst hs
    clear heq
    go_wp2_with fail
    go_ret
    exact ⟨rfl, kl.out⟩
  | false =>
    refine wpAnyH_take (i := 0) (oi := ({ dst := some 5, op := Op.load 24 (Operand.tmp 2), type := 24, pos := "digest.go:122", after := #[], guard := none })) (v := .agg RA.toArray) rfl (by kernel_rfl) (by kernel_rfl) (by kernel_rfl) (fun _ _ _ h => h) (yieldsIf_load_mid (by rfl) _ _ rfl (w.heap.size) 0 rfl RA _ (fun _ h => h.1) hund (by rfl) hinf) (by assumption) ?_
    try simp only [Act.put, List.setIfInBounds_toArray, List.set_cons_zero, List.set_cons_succ]
    refine wpAnyH_take (i := 1) (oi := ({ dst := some 6, op := Op.load 24 (Operand.tmp 3), type := 24, pos := "digest.go:122", after := #[], guard := none })) (v := .agg RB.toArray) rfl (by kernel_rfl) (by kernel_rfl) (by kernel_rfl) (fun _ _ _ h => h) (yieldsIf_load_mid (by rfl) _ _ rfl (w.heap.size + 1) 0 rfl RB _ (fun _ h => h.2.1) hund (by rfl) hinf2) (by assumption) ?_
    try simp only [Act.put, List.setIfInBounds_toArray, List.set_cons_zero, List.set_cons_succ]
    refine wpAnyH_take (i := 2) (oi := ({ dst := some 7, op := Op.binOp BinOp.neq 24 (Operand.tmp 5) (Operand.tmp 6) 24, type := 4, pos := "digest.go:122", after := #[{ on := 0, ground := Ground.data }, { on := 1, ground := Ground.data }], guard := none })) (v := ?_) rfl (by kernel_rfl) (by kernel_rfl) (by kernel_rfl) (fun _ _ _ h => h) (Or.inl ⟨by rfl, ?_⟩) (by assumption) ?_
    rotate_left
    · (intro wS hSw; go_simp; all_goals with_reducible rfl)
    try simp only [Act.put, List.setIfInBounds_toArray, List.set_cons_zero, List.set_cons_succ]
    refine wpAnyH_take (i := 3) (oi := ({ dst := some 8, op := Op.move (Operand.tmp 7), type := 4, pos := "digest.go:122", after := #[{ on := 2, ground := Ground.data }], guard := none })) (v := ?_) rfl (by kernel_rfl) (by kernel_rfl) (by kernel_rfl) (fun _ _ _ h => h) (Or.inl ⟨by rfl, ?_⟩) (by assumption) ?_
    rotate_left
    · (intro wS hSw; go_simp; all_goals with_reducible rfl)
    try simp only [Act.put, List.setIfInBounds_toArray, List.set_cons_zero, List.set_cons_succ]
    refine wpAnyH_take (i := 4) (oi := ({ dst := some 9, op := Op.slice 24 (Operand.tmp 2) none none none, type := 33, pos := "digest.go:122", after := #[{ on := 3, ground := Ground.guard }], guard := some (3, true) })) (v := ?_) rfl (by kernel_rfl) (by kernel_rfl) (by kernel_rfl) (fun _ _ _ h => h) (Or.inl ⟨by rfl, ?_⟩) (by assumption) ?_
    rotate_left
    · (intro wS hSw; go_simp; all_goals with_reducible rfl)
    try simp only [Act.put, List.setIfInBounds_toArray, List.set_cons_zero, List.set_cons_succ]
    refine wpAnyH_take (i := 5) (oi := ({ dst := some 10, op := Op.slice 24 (Operand.tmp 3) none none none, type := 33, pos := "digest.go:122", after := #[{ on := 3, ground := Ground.guard }], guard := some (3, true) })) (v := ?_) rfl (by kernel_rfl) (by kernel_rfl) (by kernel_rfl) (fun _ _ _ h => h) (Or.inl ⟨by rfl, ?_⟩) (by assumption) ?_
    rotate_left
    · (intro wS hSw; go_simp; all_goals with_reducible rfl)
    try simp only [Act.put, List.setIfInBounds_toArray, List.set_cons_zero, List.set_cons_succ]
    refine wpAnyH_ready (rs := [6]) (by kernel_rfl) (by simp) ?_
    refine AllReadyH.cons (o := ({ dst := some 11, op := Op.call { callee := Callee.value (Operand.func 31), args := #[Operand.tmp 9, Operand.tmp 10], argTypes := #[33, 33] }, type := 3, pos := "digest.go:122", after := #[{ on := 4, ground := Ground.data }, { on := 5, ground := Ground.data }, { on := 3, ground := Ground.chain }, { on := 3, ground := Ground.guard }], guard := some (3, true) })) rfl (fun K hK => ?_) AllReadyH.nil
    go_simp
    refine (HCT.out _ hHeld.2.2).mono ?_
    rintro e wC ⟨⟨cv, rfl, hcv⟩, kC⟩
    go_wp2_with fail
    refine hK.out _ _ (HA.out _ (Keeps.trans hHeld.2.2 kC)) (fun hHeldN => ?_)
    clear hK K hHeld kC
    have hHeld := hHeldN
    clear hHeldN
    try simp only [Act.put, List.setIfInBounds_toArray, List.set_cons_zero, List.set_cons_succ]
    refine wpAnyH_take (i := 7) (oi := ({ dst := some 12, op := Op.binOp BinOp.lss 3 (Operand.tmp 11) (Operand.const (Value.int IntKind.i64 0)) 3, type := 4, pos := "digest.go:122", after := #[{ on := 6, ground := Ground.data }, { on := 3, ground := Ground.guard }], guard := some (3, true) })) (v := ?_) rfl (by kernel_rfl) (by kernel_rfl) (by kernel_rfl) (fun _ _ _ h => h) (Or.inl ⟨by rfl, ?_⟩) (by assumption) ?_
    rotate_left
    · (intro wS hSw; go_simp; all_goals with_reducible rfl)
    try simp only [Act.put, List.setIfInBounds_toArray, List.set_cons_zero, List.set_cons_succ]
    refine wpAnyH_take (i := 8) (oi := ({ dst := some 13, op := Op.pick (Operand.tmp 8) (Operand.tmp 12) (Operand.const (Value.bool false)), type := 4, pos := "digest.go:122", after := #[{ on := 3, ground := Ground.data }, { on := 7, ground := Ground.data }], guard := none })) (v := ?_) rfl (by kernel_rfl) (by kernel_rfl) (by kernel_rfl) (fun _ _ _ h => h) (Or.inl ⟨by rfl, ?_⟩) (by assumption) ?_
    rotate_left
    · (intro wS hSw; go_simp; all_goals with_reducible rfl)
    try simp only [Act.put, List.setIfInBounds_toArray, List.set_cons_zero, List.set_cons_succ]
    refine wpAnyH_take (i := 9) (oi := ({ dst := some 4, op := Op.assign (Operand.tmp 13), type := 4, pos := "digest.go:122", after := #[{ on := 8, ground := Ground.data }, { on := 6, ground := Ground.chain }, { on := 0, ground := Ground.phase }, { on := 1, ground := Ground.phase }, { on := 2, ground := Ground.phase }, { on := 3, ground := Ground.phase }, { on := 4, ground := Ground.phase }, { on := 5, ground := Ground.phase }, { on := 6, ground := Ground.phase }, { on := 7, ground := Ground.phase }, { on := 8, ground := Ground.phase }], guard := none })) (v := ?_) rfl (by kernel_rfl) (by kernel_rfl) (by kernel_rfl) (fun _ _ _ h => h) (Or.inl ⟨by rfl, ?_⟩) (by assumption) ?_
    rotate_left
    · (intro wS hSw; go_simp; all_goals with_reducible rfl)
    try simp only [Act.put, List.setIfInBounds_toArray, List.set_cons_zero, List.set_cons_succ]
    refine wpAnyH_done (by kernel_rfl) ?_ _
    have kl := Lib.hid (Keeps.trans K0.out hHeld.2.2)
    have hd : decide (cv < 0) = LT := by cases LT <;> simp_all
    have HD := Lib.hid hd
    clear heq hcv hd
    go_wp2_with fail
    go_ret
    exact ⟨by rw [← HD.out]; rfl, kl.out⟩
end Go.Proofs.Yteikldemppbjpaa
