/-
  DiskLimits: the law's walk: it returns true, and writes nothing that was there. No condition.
-/
import Derived.Test.YtmigbpfeobjhkaaDPlays
import Derived.Test.YtmigbpfeobjhkaaDLaws2
namespace Go.Proofs.Ytmigbpfeobjhkaa
open Go Go.RowKit Go.ChangeShapes Go.WideShapes Go.ChangeAt
attribute [local go_sem ↓] Go.wp_at_zero Go.wp_at_succ
set_option linter.unusedVariables false

set_option maxHeartbeats 1000000 in
theorem limits_walk (n0 n1 n2 : Int) (w : World) (hn0 : (Lit.int .i64 n0).wf = true) (hn1 : (Lit.int .i64 n1).wf = true) (hn2 : (Lit.int .i64 n2).wf = true) :
    Calls Try.prog 11 #[.int .i64 n0, .int .i64 n1, .int .i64 n2] w fun e w' => e = .returned (.bool true) ∧ Below w.heap.size w w' := by
  clear hn0 hn1 hn2
  obtain ⟨j, hj⟩ : ∃ j : Nat, n1 % 70 = j := ⟨(n1 % 70).toNat, by omega⟩
  have hj70 : j < 70 := by omega
  have HJ := Lib.hid hj
  clear hj
  go_enter Try.func11, Try.ntmps11
  go_wp2_with fail
  refine (sanity_any w).mono ?_
  rintro e w1 ⟨rfl, k1⟩
  have K1 := Lib.hid k1; have z1 := k1.size; clear k1
  go_wp2_with fail
  refine (new_in w1).mono ?_
  rintro e w2 ⟨rfl, d2, k2⟩
  have K2 := Lib.hid k2; have D2 := Lib.hid d2; have z2 := k2.size; clear k2 d2
  go_wp2_with fail
  refine (rnew_any w2).mono ?_
  rintro e w3 ⟨rfl, r3, k3⟩
  have K3 := Lib.hid k3; have R3 := Lib.hid r3; have z3 := k3.size; clear k3 r3
  obtain ⟨w4, hw4⟩ : ∃ w4, w4 = w3.alloc (.cells #[.pointer (some ⟨w1.heap.size, 0, none⟩), .pointer (some ⟨w2.heap.size, 0, none⟩)] 30) := ⟨_, rfl⟩
  obtain ⟨x, hx⟩ : ∃ x, x = w3.heap.size := ⟨_, rfl⟩
  have hd4 := desk_made w1 w2 w3 w4 w1.heap.size w2.heap.size DS.zero D2.out K2.out R3.out K3.out hw4
  have k14 : Keeps (from_ w.heap.size) w w4 := (K1.out.any _).trans (hd4.2.lower z1)
  have d4 : DeskIn w4 x w.heap.size w4.heap.size DS.zero := by
    rw [hx]
    obtain ⟨F, hF, h⟩ := hd4.1
    exact ⟨F, fun k e => ⟨Nat.le_trans z1 (hF k e).1, (hF k e).2⟩, h⟩
  have z4 := k14.size
  have K4 := Lib.hid k14
  have D4 := Lib.hid d4
  have HW4 := Lib.hid hw4
  have HX := Lib.hid hx
  clear hd4 hw4 k14 d4 hx
  go_wp2_with fail
  rw [← HW4.out, ← HX.out]
  clear K2 D2 z2 K3 R3 z3
  refine (mod_any n1 70 w4 (by decide) (by decide)).mono ?_
  rintro e w' ⟨rfl, rfl⟩
  rw [HJ.out]
  go_wp2_with fail
  refine (repeated_any 113 j w4 (by omega)).mono ?_
  rintro e w5 ⟨rfl, k5⟩
  have hszr : (str (List.replicate j 113)).size = j := by rw [size_str, List.length_replicate]
  obtain ⟨r, hr⟩ : ∃ r, r = n0 % 7 := ⟨_, rfl⟩
  have hr7 : 0 ≤ r ∧ r < 7 := by omega
  have HR := Lib.hid hr.symm
  obtain ⟨o, ho⟩ : ∃ o : Int, o = 16777216 - j - 3 + r := ⟨_, rfl⟩
  have ho1 : o ≤ 9223372036854775807 := by omega
  have hw1 : IntKind.i64.wrap (16777216 - (j : Int)) = 16777216 - j := IntWalk.i64_in _ (by omega)
  have hw2 : IntKind.i64.wrap (16777216 - (j : Int) - 3) = 16777216 - j - 3 := IntWalk.i64_in _ (by omega)
  have hw3 : IntKind.i64.wrap (16777216 - (j : Int) - 3 + r) = o := by rw [ho]; exact IntWalk.i64_in _ (by omega)
  have hll : (List.replicate j (113 : UInt8)).length ≤ 4611686018427387904 := by simp; omega
  have d5 := D4.out.still k5
  obtain ⟨bd, bm, Fd, Fm, e0, e1, hdd, hrr, hFd, hFm, hdis, hxd, hxm, hx0, hx1⟩ := DeskIn.open2 d5
  have hdd2 : DiskP w5.drew bd Fd DS.zero := hdd.keep ((Keeps.refl noBlock w5).drew) (fun _ _ e => e)
  have hrr2 : RefP w5.drew bm Fm DS.zero := hrr.keep ((Keeps.refl noBlock w5).drew) (fun _ _ e => e)
  have HDD := Lib.hid hdd2; have HRR := Lib.hid hrr2; have HFd := Lib.hid hFd; have HFm := Lib.hid hFm; have HDIS := Lib.hid hdis; have HXD := Lib.hid hxd; have HXM := Lib.hid hxm
  have K5 := Lib.hid k5; have z5 := k5.size
  clear hr ho d5 hdd hrr hdd2 hrr2 hFd hFm hdis hxd hxm k5
  go_wp2_with fail
  go_region_held3 (fun w' => w'.cell? ⟨x, 0, none⟩ = some (.pointer (some ⟨bd, 0, none⟩)) ∧ w'.cell? ⟨x, 1, none⟩ = some (.pointer (some ⟨bm, 0, none⟩)))
    (first
      | go_keep
      | (go_split_ands; exact ⟨k6.cell (by assumption) HXD.out, k6.cell (by assumption) HXD.out⟩))
    (first
      | (go_at_call 22; refine (mod_any n0 7 _ (by decide) (by decide)).mono ?_; rintro e w' ⟨rfl, rfl⟩; rw [HR.out])
      | (go_at_call 27; refine (write_any _ bd Fd DS.zero 0 o (List.replicate j 113) HDD.out DS.Fine.zero (by decide) ho1 hll).mono ?_; rintro e w6 ⟨rfl, h6, k6⟩))
  have e0' : w6.cell? ⟨x, 0, none⟩ = some (.pointer (some ⟨bd, 0, none⟩)) := k6.cell ((Keeps.refl noBlock w5).drew.cell e0 (fun h => h)) HXD.out
  have e1' : w6.cell? ⟨x, 1, none⟩ = some (.pointer (some ⟨bm, 0, none⟩)) := k6.cell ((Keeps.refl noBlock w5).drew.cell e1 (fun h => h)) HXD.out
  have z6 : w5.heap.size ≤ w6.heap.size := k6.size
  have hrr6 := (HRR.out.keep k6 (fun k e e2 => HDIS.out k e2 e)).keep (Keeps.refl noBlock w6).drew (fun _ _ e => e)
  have k6' : Keeps (from_ w.heap.size) w w6 := ((K4.out.trans (K5.out.any _)).trans (((Keeps.refl noBlock w5).drew).any _)).trans (k6.mono fun k _ e => (HFd.out k e).1)
  have HDD6 := Lib.hid h6; have HRR6 := Lib.hid hrr6; have K6 := Lib.hid k6'
  clear hrr6 k6 k6' h6 e0 e1
  go_wp2_with fail
  go_region_held3 (fun w' => w'.cell? ⟨x, 0, none⟩ = some (.pointer (some ⟨bd, 0, none⟩)) ∧ w'.cell? ⟨x, 1, none⟩ = some (.pointer (some ⟨bm, 0, none⟩)))
    (first
      | go_keep
      | (go_split_ands; exact ⟨k7.cell (by assumption) HXM.out, k7.cell (by assumption) HXM.out⟩))
    (first
      | (go_at_call 22; refine (mod_any n0 7 _ (by decide) (by decide)).mono ?_; rintro e w' ⟨rfl, rfl⟩; rw [HR.out])
      | (go_at_call 32; refine (rwrite_any _ bm Fm DS.zero 0 o (List.replicate j 113) HRR6.out DS.Fine.zero (by decide) ho1 hll).mono ?_; rintro e w7 ⟨rfl, h7, k7⟩))
  have e0 : w7.cell? ⟨x, 0, none⟩ = some (.pointer (some ⟨bd, 0, none⟩)) := k7.cell ((Keeps.refl noBlock w6).drew.cell e0' (fun h => h)) HXM.out
  have e1 : w7.cell? ⟨x, 1, none⟩ = some (.pointer (some ⟨bm, 0, none⟩)) := k7.cell ((Keeps.refl noBlock w6).drew.cell e1' (fun h => h)) HXM.out
  have z7 : w6.heap.size ≤ w7.heap.size := k7.size
  have k7' : Keeps (from_ w.heap.size) w w7 := (K6.out.trans (((Keeps.refl noBlock w6).drew).any _)).trans (k7.mono fun k _ e => (HFm.out k e).1)
  have hdd7 : DiskP w7 bd _ _ := (HDD6.out.keep (Keeps.refl noBlock w6).drew (fun _ _ e => e)).keep k7 (fun k e e2 => by
    rcases e with e | e
    · exact HDIS.out k e e2
    · have := (HFm.out k e2).2; have : w5.heap.size ≤ k := e.1; have := z4; have := z5; omega)
  have HDD7 := Lib.hid hdd7; have HRR7 := Lib.hid h7; have K7 := Lib.hid k7'
  have hx7 : x < w7.heap.size := by omega
  clear k7 k7' h7 e0' e1' hdd7 hx0 hx1
  go_wp2_with fail
  refine (new_in w7).mono ?_
  rintro e w8 ⟨rfl, d8, k8⟩
  have e0' := k8.cell e0 (fun e => by have : w7.heap.size ≤ x := e; omega)
  have e1' := k8.cell e1 (fun e => by have : w7.heap.size ≤ x := e; omega)
  have K8 := Lib.hid k8; have D8 := Lib.hid d8; have z8 := k8.size; clear k8 d8 e0 e1
  obtain ⟨kk, hkk⟩ : ∃ kk : Nat, n2 % 500 = kk := ⟨(n2 % 500).toNat, by omega⟩
  have hk5 : kk < 500 := by omega
  go_wp2_with fail
  refine (mod_any n2 500 _ (by decide) (by decide)).mono ?_
  rintro e w' ⟨rfl, rfl⟩
  rw [hkk]
  go_wp2_with fail
  have a8 := writeR_ok DS.zero kk [] rfl (fits_of _ _ (by omega) (by simp; omega))
  refine (write_far w8 _ w7.heap.size _ DS.zero 0 kk [] D8.out DS.Fine.zero (by decide) (by omega) (by decide) z8).mono ?_
  rintro e w9 ⟨rfl, d9, k9⟩
  rw [a8.1]
  have e0 := k9.cell e0' (fun e => by have : w7.heap.size ≤ x := e.1; omega)
  have e1 := k9.cell e1' (fun e => by have : w7.heap.size ≤ x := e.1; omega)
  have K9 := Lib.hid k9; have D9 := Lib.hid d9; have z9 := k9.size; clear k9 d9 e0' e1'
  have HDD9 := Lib.hid (show ∀ W : World, Keeps noBlock w9 W → DiskP W bd _ _ from fun W hk => ((HDD7.out.keep K8.out (fun k e e2 => by have := HDD7.out.lt k e; have : w7.heap.size ≤ k := e2; omega)).keep K9.out (fun k e e2 => by have := HDD7.out.lt k e; have := e2.1; omega)).keep hk (fun _ _ e => e))
  have HRR9 := Lib.hid (show ∀ W, Keeps noBlock w9 W → RefP W bm _ _ from fun W hk => ((HRR7.out.keep K8.out (fun k e e2 => by have := HRR7.out.lt k e; have : w7.heap.size ≤ k := e2; omega)).keep K9.out (fun k e e2 => by have := HRR7.out.lt k e; have := e2.1; omega)).keep hk (fun _ _ e => e))
  have HD9 := Lib.hid (show ∀ W, Keeps noBlock w9 W → DiskIn W w7.heap.size w7.heap.size w9.heap.size (DS.zero.write kk []) from fun W hk => D9.out.still hk)
  have KK9 := Lib.hid ((K7.out.trans (K8.out.lower (by omega))).trans (K9.out.up (by omega)))
  obtain ⟨B, hB⟩ : ∃ B : Obj, B = .cells (madeCells (Value.int .u8 0).cells kk) 5 := ⟨_, rfl⟩
  obtain ⟨i0, hi, hz0, hz1, hz2⟩ := info_parts infoU8
  have hmk : ∀ W : World, (Instr.makeSlice 56 (.int .i64 (kk : Int)) (.int .i64 (kk : Int))).run Try.prog W = .ok (.slice (some ⟨W.heap.size, 0, none⟩) kk kk) (W.alloc B) := fun W => by
    have h := run_make (P := Try.prog) W 56 5 i0 (.int .u8 0) Try.underlying56 hi hz0 .i64 .i64 (kk : Int) (kk : Int) (by omega) (by omega) (by rw [hz2]; omega) (by omega)
    rw [hz1, Int.toNat_natCast, Nat.mul_one, ← hB] at h
    exact h
  have HCV := Lib.hid (show ∀ (W W' : World), Keeps noBlock (W.alloc B) W' → (convert 56 9 (.slice (some ⟨W.heap.size, 0, none⟩) kk kk)).run Try.prog W' = .ok (.string (str (List.replicate kk 0))) W' from fun W W' hk => by
    refine run_string_of (P := Try.prog) W' 56 9 5 _ kk kk (List.replicate kk 0) Try.underlying56 Try.underlying5 Try.underlying9 (by simp) (fun _ => ⟨_, rfl, fun i hi => ?_⟩)
    have hh : (W.alloc B).heap[W.heap.size]? = some (.cells (madeCells (Value.int .u8 0).cells kk) 5 (0, 0)) := by rw [hB]; exact heap_alloc_at
    have hh2 := hk.heap hh (fun e => e)
    rw [addr_add, Nat.zero_add, cell_of_heap hh2, ← Array.getElem?_toList, bvs_zeros]
    simp only [List.length_replicate] at hi
    simp [bvs, hi])
  have hcv : ∀ W : World, (convert 56 9 (.slice (some ⟨W.heap.size, 0, none⟩) kk kk)).run Try.prog (W.alloc B) = .ok (.string (str (List.replicate kk 0))) (W.alloc B) := fun W => HCV.out W _ (Keeps.refl _ _)
  have hcvd : ∀ W : World, (convert 56 9 (.slice (some ⟨W.heap.size, 0, none⟩) kk kk)).run Try.prog (W.alloc B).drew = .ok (.string (str (List.replicate kk 0))) (W.alloc B).drew := fun W => HCV.out W _ (Keeps.refl _ _).drew
  obtain ⟨k1, hk1⟩ : ∃ k1 : Nat, k1 = kk + 1 := ⟨_, rfl⟩
  have hwa : IntKind.i64.wrap ((kk : Int) + 1) = (k1 : Int) := by rw [hk1]; rw [IntWalk.i64_in _ (by omega)]; simp
  obtain ⟨o1, ho1'⟩ : ∃ o1 : Int, o1 = -1 - kk := ⟨_, rfl⟩
  have hwb : IntKind.i64.wrap ((-1 : Int) - (kk : Int)) = o1 := by rw [ho1']; exact IntWalk.i64_in _ (by omega)
  obtain ⟨o2, ho2'⟩ : ∃ o2 : Int, o2 = 9223372036854775807 - kk := ⟨_, rfl⟩
  have hwc : IntKind.i64.wrap ((9223372036854775807 : Int) - (kk : Int)) = o2 := by rw [ho2']; exact IntWalk.i64_in _ (by omega)
  have hfit1 : fits o1 [] = false := by simp [fits]; omega
  have hfit2 : fits o2 [97, 98] = false := by simp [fits]; omega
  have HO1 := Lib.hid (show o1 ≤ 9223372036854775807 by omega)
  have HO2 := Lib.hid (show o2 ≤ 9223372036854775807 by omega)
  have HF1 := Lib.hid hfit1
  have HF2 := Lib.hid hfit2
  have hrd : readL (DS.zero.write kk []).now 0 (k1 : Int) = List.replicate kk 0 := by
    rw [a8.2.2.2]
    have e : putL DS.zero.now (kk : Int).toNat [] = List.replicate kk 0 := by simp [putL, splice, DS.zero]
    rw [e]
    unfold readL
    split
    · rename_i h
      simp at h
      have : kk = 0 := by omega
      subst this; rfl
    · rw [hk1]
      simp
  have hsz8 : ((DS.zero.write kk []).now.length : Int) = (kk : Int) := by rw [a8.2.2.2]; simp [putL, splice, DS.zero]
  have HRD := Lib.hid hrd
  have HK1 := Lib.hid (show (k1 : Int) ≤ 9223372036854775807 by omega)
  have HS8 := Lib.hid hsz8
  have hwr : DS.zero.writeR o (List.replicate j 113) = DS.zero.writeR o (List.replicate j 113) := rfl
  obtain ⟨er, her⟩ : ∃ er, er = DS.zero.writeR o (List.replicate j 113) := ⟨_, rfl⟩
  rw [← her]
  have HLN := Lib.hid (show (DS.zero.write kk []).now.length ≤ 16777216 by omega)
  clear hB hi hz0 hz1 hz2 hk1 ho1' ho2' hfit1 hfit2 hrd hsz8 a8 hkk her hwr hw1 hw2 hw3
  go_wp2_with fail
  refine wp_region_held_drew (S := fun w' => w'.cell? ⟨x, 0, none⟩ = some (.pointer (some ⟨bd, 0, none⟩)) ∧ w'.cell? ⟨x, 1, none⟩ = some (.pointer (some ⟨bm, 0, none⟩))) (by kernel_rfl) ?_ (fun hHeld => ?_)
  · go_keep
  refine wpAnyH_take (i := 0) (oi := ({ dst := some 60, op := Op.move (Operand.tmp 7), type := 4, pos := "law.go:268", after := #[], guard := none })) (v := ?_) rfl (by kernel_rfl) (by kernel_rfl) (by kernel_rfl) (fun _ _ _ h => h) (Or.inl ⟨by rfl, ?_⟩) (by assumption) ?_
  rotate_left
  · (intro wS hSw; (try dsimp only at hSw); go_simp; all_goals with_reducible rfl)
  try simp only [Act.put, List.setIfInBounds_toArray, List.set_cons_zero, List.set_cons_succ]
  refine wpAnyH_take (i := 1) (oi := ({ dst := some 61, op := Op.move (Operand.tmp 60), type := 4, pos := "law.go:268", after := #[{ on := 0, ground := Ground.data }], guard := none })) (v := ?_) rfl (by kernel_rfl) (by kernel_rfl) (by kernel_rfl) (fun _ _ _ h => h) (Or.inl ⟨by rfl, ?_⟩) (by assumption) ?_
  rotate_left
  · (intro wS hSw; (try dsimp only at hSw); go_simp; all_goals with_reducible rfl)
  try simp only [Act.put, List.setIfInBounds_toArray, List.set_cons_zero, List.set_cons_succ]
  refine wpAnyH_take (i := 2) (oi := ({ dst := some 62, op := Op.move (Operand.tmp 10), type := 44, pos := "law.go:268", after := #[{ on := 1, ground := Ground.guard }], guard := some (1, true) })) (v := ?_) rfl (by kernel_rfl) (by kernel_rfl) (by kernel_rfl) (fun _ _ _ h => h) (Or.inl ⟨by rfl, ?_⟩) (by assumption) ?_
  rotate_left
  · (intro wS hSw; (try dsimp only at hSw); go_simp; all_goals with_reducible rfl)
  try simp only [Act.put, List.setIfInBounds_toArray, List.set_cons_zero, List.set_cons_succ]
  refine wpAnyH_take (i := 3) (oi := ({ dst := some 63, op := Op.move (Operand.tmp 11), type := 44, pos := "law.go:268", after := #[{ on := 1, ground := Ground.guard }], guard := some (1, true) })) (v := ?_) rfl (by kernel_rfl) (by kernel_rfl) (by kernel_rfl) (fun _ _ _ h => h) (Or.inl ⟨by rfl, ?_⟩) (by assumption) ?_
  rotate_left
  · (intro wS hSw; (try dsimp only at hSw); go_simp; all_goals with_reducible rfl)
  try simp only [Act.put, List.setIfInBounds_toArray, List.set_cons_zero, List.set_cons_succ]
  refine wpAnyH_take (i := 4) (oi := ({ dst := some 64, op := Op.binOp BinOp.eql 44 (Operand.tmp 62) (Operand.tmp 63) 44, type := 4, pos := "law.go:268", after := #[{ on := 2, ground := Ground.data }, { on := 3, ground := Ground.data }, { on := 1, ground := Ground.guard }], guard := some (1, true) })) (v := ?_) rfl (by kernel_rfl) (by kernel_rfl) (by kernel_rfl) (fun _ _ _ h => h) (Or.inl ⟨by rfl, ?_⟩) (by assumption) ?_
  rotate_left
  · (intro wS hSw; (try dsimp only at hSw); go_simp; all_goals with_reducible rfl)
  try simp only [Act.put, List.setIfInBounds_toArray, List.set_cons_zero, List.set_cons_succ]
  refine wpAnyH_take (i := 5) (oi := ({ dst := some 65, op := Op.pick (Operand.tmp 61) (Operand.tmp 64) (Operand.const (Value.bool false)), type := 4, pos := "law.go:268", after := #[{ on := 1, ground := Ground.data }, { on := 4, ground := Ground.data }], guard := none })) (v := ?_) rfl (by kernel_rfl) (by kernel_rfl) (by kernel_rfl) (fun _ _ _ h => h) (Or.inl ⟨by rfl, ?_⟩) (by assumption) ?_
  rotate_left
  · (intro wS hSw; (try dsimp only at hSw); go_simp; all_goals with_reducible rfl)
  try simp only [Act.put, List.setIfInBounds_toArray, List.set_cons_zero, List.set_cons_succ]
  refine wpAnyH_take (i := 6) (oi := ({ dst := some 66, op := Op.move (Operand.tmp 65), type := 4, pos := "law.go:268", after := #[{ on := 5, ground := Ground.data }, { on := 1, ground := Ground.chain }], guard := none })) (v := ?_) rfl (by kernel_rfl) (by kernel_rfl) (by kernel_rfl) (fun _ _ _ h => h) (Or.inl ⟨by rfl, ?_⟩) (by assumption) ?_
  rotate_left
  · (intro wS hSw; (try dsimp only at hSw); go_simp; all_goals with_reducible rfl)
  try simp only [Act.put, List.setIfInBounds_toArray, List.set_cons_zero, List.set_cons_succ]
  refine wpAnyH_take (i := 7) (oi := ({ dst := some 67, op := Op.move (Operand.tmp 8), type := 24, pos := "law.go:268", after := #[{ on := 6, ground := Ground.guard }], guard := some (6, true) })) (v := ?_) rfl (by kernel_rfl) (by kernel_rfl) (by kernel_rfl) (fun _ _ _ h => h) (Or.inl ⟨by rfl, ?_⟩) (by assumption) ?_
  rotate_left
  · (intro wS hSw; (try dsimp only at hSw); go_simp; all_goals with_reducible rfl)
  try simp only [Act.put, List.setIfInBounds_toArray, List.set_cons_zero, List.set_cons_succ]
  refine wpAnyH_take (i := 8) (oi := ({ dst := some 68, op := Op.nilCheck (Operand.tmp 67), type := 0, pos := "law.go:268", after := #[{ on := 7, ground := Ground.data }, { on := 6, ground := Ground.guard }], guard := some (6, true) })) (v := ?_) rfl (by kernel_rfl) (by kernel_rfl) (by kernel_rfl) (fun _ _ _ h => h) (Or.inl ⟨by rfl, ?_⟩) (by assumption) ?_
  rotate_left
  · (intro wS hSw; (try dsimp only at hSw); go_simp; all_goals with_reducible rfl)
  try simp only [Act.put, List.setIfInBounds_toArray, List.set_cons_zero, List.set_cons_succ]
  refine wpAnyH_take (i := 9) (oi := ({ dst := some 69, op := Op.fieldAddr 30 (Operand.tmp 68) 0, type := 0, pos := "law.go:268", after := #[{ on := 8, ground := Ground.data }, { on := 6, ground := Ground.guard }], guard := some (6, true) })) (v := ?_) rfl (by kernel_rfl) (by kernel_rfl) (by kernel_rfl) (fun _ _ _ h => h) (Or.inl ⟨by rfl, ?_⟩) (by assumption) ?_
  rotate_left
  · (intro wS hSw; (try dsimp only at hSw); go_simp; all_goals with_reducible rfl)
  try simp only [Act.put, List.setIfInBounds_toArray, List.set_cons_zero, List.set_cons_succ]
  refine wpAnyH_take (i := 10) (oi := ({ dst := some 70, op := Op.load 25 (Operand.tmp 69), type := 25, pos := "law.go:268", after := #[{ on := 9, ground := Ground.data }, { on := 6, ground := Ground.guard }], guard := some (6, true) })) (v := ?_) rfl (by kernel_rfl) (by kernel_rfl) (by kernel_rfl) (fun _ _ _ h => h) (Or.inl ⟨by rfl, ?_⟩) (by assumption) ?_
  rotate_left
  · (intro wS hSw; (try dsimp only at hSw); go_simp; all_goals with_reducible rfl)
  try simp only [Act.put, List.setIfInBounds_toArray, List.set_cons_zero, List.set_cons_succ]
  refine wpAnyH_take (i := 12) (oi := ({ dst := some 72, op := Op.move (Operand.tmp 8), type := 24, pos := "law.go:268", after := #[{ on := 6, ground := Ground.guard }], guard := some (6, true) })) (v := ?_) rfl (by kernel_rfl) (by kernel_rfl) (by kernel_rfl) (fun _ _ _ h => h) (Or.inl ⟨by rfl, ?_⟩) (by assumption) ?_
  rotate_left
  · (intro wS hSw; (try dsimp only at hSw); go_simp; all_goals with_reducible rfl)
  try simp only [Act.put, List.setIfInBounds_toArray, List.set_cons_zero, List.set_cons_succ]
  refine wpAnyH_take (i := 13) (oi := ({ dst := some 73, op := Op.nilCheck (Operand.tmp 72), type := 0, pos := "law.go:268", after := #[{ on := 12, ground := Ground.data }, { on := 6, ground := Ground.guard }], guard := some (6, true) })) (v := ?_) rfl (by kernel_rfl) (by kernel_rfl) (by kernel_rfl) (fun _ _ _ h => h) (Or.inl ⟨by rfl, ?_⟩) (by assumption) ?_
  rotate_left
  · (intro wS hSw; (try dsimp only at hSw); go_simp; all_goals with_reducible rfl)
  try simp only [Act.put, List.setIfInBounds_toArray, List.set_cons_zero, List.set_cons_succ]
  refine wpAnyH_take (i := 14) (oi := ({ dst := some 74, op := Op.fieldAddr 30 (Operand.tmp 73) 1, type := 0, pos := "law.go:268", after := #[{ on := 13, ground := Ground.data }, { on := 6, ground := Ground.guard }], guard := some (6, true) })) (v := ?_) rfl (by kernel_rfl) (by kernel_rfl) (by kernel_rfl) (fun _ _ _ h => h) (Or.inl ⟨by rfl, ?_⟩) (by assumption) ?_
  rotate_left
  · (intro wS hSw; (try dsimp only at hSw); go_simp; all_goals with_reducible rfl)
  try simp only [Act.put, List.setIfInBounds_toArray, List.set_cons_zero, List.set_cons_succ]
  refine wpAnyH_take (i := 15) (oi := ({ dst := some 75, op := Op.load 27 (Operand.tmp 74), type := 27, pos := "law.go:268", after := #[{ on := 14, ground := Ground.data }, { on := 6, ground := Ground.guard }], guard := some (6, true) })) (v := ?_) rfl (by kernel_rfl) (by kernel_rfl) (by kernel_rfl) (fun _ _ _ h => h) (Or.inl ⟨by rfl, ?_⟩) (by assumption) ?_
  rotate_left
  · (intro wS hSw; (try dsimp only at hSw); go_simp; all_goals with_reducible rfl)
  try simp only [Act.put, List.setIfInBounds_toArray, List.set_cons_zero, List.set_cons_succ]
  refine wpAnyH_ready (rs := [11]) (by kernel_rfl) (by simp) ?_
  refine (AllReadyH.cons (o := ({ dst := some 71, op := Op.call { callee := Callee.value (Operand.func 17), args := #[Operand.tmp 70], argTypes := #[25] }, type := 3, pos := "law.go:268", after := #[{ on := 10, ground := Ground.data }, { on := 6, ground := Ground.chain }, { on := 6, ground := Ground.guard }], guard := some (6, true) })) rfl (fun K hK => ?_) AllReadyH.nil)
  go_simp
  refine (size_any _ bd _ _ (HDD9.out _ (Keeps.refl _ _).drew)).mono ?_
  rintro e w' ⟨rfl, rfl⟩
  go_wp2_with fail
  refine hK.out _ _ (hHeld) (fun hHeldN => ?_)
  clear hK K hHeld
  have hHeld := hHeldN
  clear hHeldN
  try simp only [Act.put, List.setIfInBounds_toArray, List.set_cons_zero, List.set_cons_succ]
  refine wpAnyH_ready (rs := [16]) (by kernel_rfl) (by simp) ?_
  refine (AllReadyH.cons (o := ({ dst := some 76, op := Op.call { callee := Callee.value (Operand.func 18), args := #[Operand.tmp 75], argTypes := #[27] }, type := 3, pos := "law.go:268", after := #[{ on := 15, ground := Ground.data }, { on := 11, ground := Ground.chain }, { on := 6, ground := Ground.guard }], guard := some (6, true) })) rfl (fun K hK => ?_) AllReadyH.nil)
  go_simp
  refine (rsize_any _ bm _ _ (HRR9.out _ (Keeps.refl _ _).drew)).mono ?_
  rintro e w' ⟨rfl, rfl⟩
  go_wp2_with fail
  refine hK.out _ _ (hHeld) (fun hHeldN => ?_)
  clear hK K hHeld
  have hHeld := hHeldN
  clear hHeldN
  try simp only [Act.put, List.setIfInBounds_toArray, List.set_cons_zero, List.set_cons_succ]
  refine wpAnyH_take (i := 17) (oi := ({ dst := some 77, op := Op.binOp BinOp.eql 3 (Operand.tmp 71) (Operand.tmp 76) 3, type := 4, pos := "law.go:268", after := #[{ on := 11, ground := Ground.data }, { on := 16, ground := Ground.data }, { on := 6, ground := Ground.guard }], guard := some (6, true) })) (v := ?_) rfl (by kernel_rfl) (by kernel_rfl) (by kernel_rfl) (fun _ _ _ h => h) (Or.inl ⟨by rfl, ?_⟩) (by assumption) ?_
  rotate_left
  · (intro wS hSw; (try dsimp only at hSw); go_simp; all_goals with_reducible rfl)
  try simp only [Act.put, List.setIfInBounds_toArray, List.set_cons_zero, List.set_cons_succ]
  refine wpAnyH_take (i := 18) (oi := ({ dst := some 78, op := Op.pick (Operand.tmp 66) (Operand.tmp 77) (Operand.const (Value.bool false)), type := 4, pos := "law.go:268", after := #[{ on := 6, ground := Ground.data }, { on := 17, ground := Ground.data }], guard := none })) (v := ?_) rfl (by kernel_rfl) (by kernel_rfl) (by kernel_rfl) (fun _ _ _ h => h) (Or.inl ⟨by rfl, ?_⟩) (by assumption) ?_
  rotate_left
  · (intro wS hSw; (try dsimp only at hSw); go_simp; all_goals with_reducible rfl)
  try simp only [Act.put, List.setIfInBounds_toArray, List.set_cons_zero, List.set_cons_succ]
  refine wpAnyH_take (i := 19) (oi := ({ dst := some 79, op := Op.move (Operand.tmp 78), type := 4, pos := "law.go:268", after := #[{ on := 18, ground := Ground.data }, { on := 16, ground := Ground.chain }], guard := none })) (v := ?_) rfl (by kernel_rfl) (by kernel_rfl) (by kernel_rfl) (fun _ _ _ h => h) (Or.inl ⟨by rfl, ?_⟩) (by assumption) ?_
  rotate_left
  · (intro wS hSw; (try dsimp only at hSw); go_simp; all_goals with_reducible rfl)
  try simp only [Act.put, List.setIfInBounds_toArray, List.set_cons_zero, List.set_cons_succ]
  refine wpAnyH_take (i := 20) (oi := ({ dst := some 80, op := Op.move (Operand.tmp 14), type := 44, pos := "law.go:268", after := #[{ on := 19, ground := Ground.guard }], guard := some (19, true) })) (v := ?_) rfl (by kernel_rfl) (by kernel_rfl) (by kernel_rfl) (fun _ _ _ h => h) (Or.inl ⟨by rfl, ?_⟩) (by assumption) ?_
  rotate_left
  · (intro wS hSw; (try dsimp only at hSw); go_simp; all_goals with_reducible rfl)
  try simp only [Act.put, List.setIfInBounds_toArray, List.set_cons_zero, List.set_cons_succ]
  refine wpAnyH_take (i := 21) (oi := ({ dst := some 81, op := Op.binOp BinOp.eql 44 (Operand.tmp 80) (Operand.const (Value.int IntKind.i64 0)) 44, type := 4, pos := "law.go:268", after := #[{ on := 20, ground := Ground.data }, { on := 19, ground := Ground.guard }], guard := some (19, true) })) (v := ?_) rfl (by kernel_rfl) (by kernel_rfl) (by kernel_rfl) (fun _ _ _ h => h) (Or.inl ⟨by rfl, ?_⟩) (by assumption) ?_
  rotate_left
  · (intro wS hSw; (try dsimp only at hSw); go_simp; all_goals with_reducible rfl)
  try simp only [Act.put, List.setIfInBounds_toArray, List.set_cons_zero, List.set_cons_succ]
  refine wpAnyH_take (i := 22) (oi := ({ dst := some 82, op := Op.pick (Operand.tmp 79) (Operand.tmp 81) (Operand.const (Value.bool false)), type := 4, pos := "law.go:268", after := #[{ on := 19, ground := Ground.data }, { on := 21, ground := Ground.data }], guard := none })) (v := ?_) rfl (by kernel_rfl) (by kernel_rfl) (by kernel_rfl) (fun _ _ _ h => h) (Or.inl ⟨by rfl, ?_⟩) (by assumption) ?_
  rotate_left
  · (intro wS hSw; (try dsimp only at hSw); go_simp; all_goals with_reducible rfl)
  try simp only [Act.put, List.setIfInBounds_toArray, List.set_cons_zero, List.set_cons_succ]
  refine wpAnyH_take (i := 23) (oi := ({ dst := some 83, op := Op.move (Operand.tmp 82), type := 4, pos := "law.go:268", after := #[{ on := 22, ground := Ground.data }, { on := 19, ground := Ground.chain }], guard := none })) (v := ?_) rfl (by kernel_rfl) (by kernel_rfl) (by kernel_rfl) (fun _ _ _ h => h) (Or.inl ⟨by rfl, ?_⟩) (by assumption) ?_
  rotate_left
  · (intro wS hSw; (try dsimp only at hSw); go_simp; all_goals with_reducible rfl)
  try simp only [Act.put, List.setIfInBounds_toArray, List.set_cons_zero, List.set_cons_succ]
  refine wpAnyH_take (i := 24) (oi := ({ dst := some 84, op := Op.move (Operand.tmp 12), type := 25, pos := "law.go:268", after := #[{ on := 23, ground := Ground.guard }], guard := some (23, true) })) (v := ?_) rfl (by kernel_rfl) (by kernel_rfl) (by kernel_rfl) (fun _ _ _ h => h) (Or.inl ⟨by rfl, ?_⟩) (by assumption) ?_
  rotate_left
  · (intro wS hSw; (try dsimp only at hSw); go_simp; all_goals with_reducible rfl)
  try simp only [Act.put, List.setIfInBounds_toArray, List.set_cons_zero, List.set_cons_succ]
  refine wpAnyH_take (i := 26) (oi := ({ dst := some 86, op := Op.move (Operand.tmp 13), type := 3, pos := "law.go:268", after := #[{ on := 23, ground := Ground.guard }], guard := some (23, true) })) (v := ?_) rfl (by kernel_rfl) (by kernel_rfl) (by kernel_rfl) (fun _ _ _ h => h) (Or.inl ⟨by rfl, ?_⟩) (by assumption) ?_
  rotate_left
  · (intro wS hSw; (try dsimp only at hSw); go_simp; all_goals with_reducible rfl)
  try simp only [Act.put, List.setIfInBounds_toArray, List.set_cons_zero, List.set_cons_succ]
  refine wpAnyH_ready (rs := [25]) (by kernel_rfl) (by simp) ?_
  refine (AllReadyH.cons (o := ({ dst := some 85, op := Op.call { callee := Callee.value (Operand.func 17), args := #[Operand.tmp 84], argTypes := #[25] }, type := 3, pos := "law.go:268", after := #[{ on := 24, ground := Ground.data }, { on := 23, ground := Ground.chain }, { on := 23, ground := Ground.guard }], guard := some (23, true) })) rfl (fun K hK => ?_) AllReadyH.nil)
  go_simp
  refine (size_in _ w7.heap.size _ _ _ (HD9.out _ (Keeps.refl _ _).drew)).mono ?_
  rintro e w' ⟨rfl, rfl⟩
  rw [HS8.out]
  go_wp2_with fail
  refine hK.out _ _ (hHeld) (fun hHeldN => ?_)
  clear hK K hHeld
  have hHeld := hHeldN
  clear hHeldN
  try simp only [Act.put, List.setIfInBounds_toArray, List.set_cons_zero, List.set_cons_succ]
  refine wpAnyH_take (i := 27) (oi := ({ dst := some 87, op := Op.binOp BinOp.eql 3 (Operand.tmp 85) (Operand.tmp 86) 3, type := 4, pos := "law.go:268", after := #[{ on := 25, ground := Ground.data }, { on := 26, ground := Ground.data }, { on := 23, ground := Ground.guard }], guard := some (23, true) })) (v := ?_) rfl (by kernel_rfl) (by kernel_rfl) (by kernel_rfl) (fun _ _ _ h => h) (Or.inl ⟨by rfl, ?_⟩) (by assumption) ?_
  rotate_left
  · (intro wS hSw; (try dsimp only at hSw); go_simp; all_goals with_reducible rfl)
  try simp only [Act.put, List.setIfInBounds_toArray, List.set_cons_zero, List.set_cons_succ]
  refine wpAnyH_take (i := 28) (oi := ({ dst := some 88, op := Op.pick (Operand.tmp 83) (Operand.tmp 87) (Operand.const (Value.bool false)), type := 4, pos := "law.go:268", after := #[{ on := 23, ground := Ground.data }, { on := 27, ground := Ground.data }], guard := none })) (v := ?_) rfl (by kernel_rfl) (by kernel_rfl) (by kernel_rfl) (fun _ _ _ h => h) (Or.inl ⟨by rfl, ?_⟩) (by assumption) ?_
  rotate_left
  · (intro wS hSw; (try dsimp only at hSw); go_simp; all_goals with_reducible rfl)
  try simp only [Act.put, List.setIfInBounds_toArray, List.set_cons_zero, List.set_cons_succ]
  refine wpAnyH_take (i := 29) (oi := ({ dst := some 89, op := Op.move (Operand.tmp 88), type := 4, pos := "law.go:268", after := #[{ on := 28, ground := Ground.data }, { on := 25, ground := Ground.chain }], guard := none })) (v := ?_) rfl (by kernel_rfl) (by kernel_rfl) (by kernel_rfl) (fun _ _ _ h => h) (Or.inl ⟨by rfl, ?_⟩) (by assumption) ?_
  rotate_left
  · (intro wS hSw; (try dsimp only at hSw); go_simp; all_goals with_reducible rfl)
  try simp only [Act.put, List.setIfInBounds_toArray, List.set_cons_zero, List.set_cons_succ]
  refine wpAnyH_take (i := 30) (oi := ({ dst := some 90, op := Op.move (Operand.tmp 12), type := 25, pos := "law.go:268", after := #[{ on := 29, ground := Ground.guard }], guard := some (29, true) })) (v := ?_) rfl (by kernel_rfl) (by kernel_rfl) (by kernel_rfl) (fun _ _ _ h => h) (Or.inl ⟨by rfl, ?_⟩) (by assumption) ?_
  rotate_left
  · (intro wS hSw; (try dsimp only at hSw); go_simp; all_goals with_reducible rfl)
  try simp only [Act.put, List.setIfInBounds_toArray, List.set_cons_zero, List.set_cons_succ]
  refine wpAnyH_take (i := 31) (oi := ({ dst := some 91, op := Op.move (Operand.tmp 13), type := 3, pos := "law.go:268", after := #[{ on := 29, ground := Ground.guard }], guard := some (29, true) })) (v := ?_) rfl (by kernel_rfl) (by kernel_rfl) (by kernel_rfl) (fun _ _ _ h => h) (Or.inl ⟨by rfl, ?_⟩) (by assumption) ?_
  rotate_left
  · (intro wS hSw; (try dsimp only at hSw); go_simp; all_goals with_reducible rfl)
  try simp only [Act.put, List.setIfInBounds_toArray, List.set_cons_zero, List.set_cons_succ]
  refine wpAnyH_take (i := 32) (oi := ({ dst := some 92, op := Op.binOp BinOp.add 3 (Operand.tmp 91) (Operand.const (Value.int IntKind.i64 1)) 3, type := 3, pos := "law.go:268", after := #[{ on := 31, ground := Ground.data }, { on := 29, ground := Ground.guard }], guard := some (29, true) })) (v := ?_) rfl (by kernel_rfl) (by kernel_rfl) (by kernel_rfl) (fun _ _ _ h => h) (Or.inl ⟨by rfl, ?_⟩) (by assumption) ?_
  rotate_left
  · (intro wS hSw; (try dsimp only at hSw); go_simp; all_goals with_reducible rfl)
  try simp only [Act.put, List.setIfInBounds_toArray, List.set_cons_zero, List.set_cons_succ]
  refine wpAnyH_take (i := 34) (oi := ({ dst := some 94, op := Op.move (Operand.tmp 13), type := 3, pos := "law.go:268", after := #[{ on := 29, ground := Ground.guard }], guard := some (29, true) })) (v := ?_) rfl (by kernel_rfl) (by kernel_rfl) (by kernel_rfl) (fun _ _ _ h => h) (Or.inl ⟨by rfl, ?_⟩) (by assumption) ?_
  rotate_left
  · (intro wS hSw; (try dsimp only at hSw); go_simp; all_goals with_reducible rfl)
  try simp only [Act.put, List.setIfInBounds_toArray, List.set_cons_zero, List.set_cons_succ]
  refine wpAnyH_ready (rs := [33, 35]) (by kernel_rfl) (by simp) ?_
  refine (AllReadyH.cons (o := ({ dst := some 93, op := Op.call { callee := Callee.value (Operand.func 29), args := #[Operand.tmp 90, Operand.const (Value.int IntKind.i64 0), Operand.tmp 92], argTypes := #[25, 3, 3] }, type := 9, pos := "law.go:268", after := #[{ on := 30, ground := Ground.data }, { on := 32, ground := Ground.data }, { on := 29, ground := Ground.chain }, { on := 29, ground := Ground.guard }], guard := some (29, true) })) rfl (fun K hK => ?_) (AllReadyH.cons (o := ({ dst := some 95, op := Op.makeSlice 56 (Operand.tmp 94) (Operand.tmp 94), type := 56, pos := "law.go:268", after := #[{ on := 34, ground := Ground.data }, { on := 34, ground := Ground.data }, { on := 29, ground := Ground.guard }], guard := some (29, true) })) rfl (fun K hK => ?_) AllReadyH.nil))
  · skip
    go_simp
    refine (read_in _ w7.heap.size _ _ _ 0 (k1 : Int) (HD9.out _ ((Keeps.refl _ _).drew)) HLN.out HK1.out).mono ?_
    rintro e w10 ⟨rfl, k10⟩
    rw [HRD.out]
    go_wp2_with fail
    refine hK.out _ _ (⟨k10.cell hHeld.1 (fun h => h), k10.cell hHeld.2 (fun h => h)⟩) (fun hHeldN => ?_)
    clear hK K hHeld
    have hHeld := hHeldN
    clear hHeldN
    try simp only [Act.put, List.setIfInBounds_toArray, List.set_cons_zero, List.set_cons_succ]
    refine wpAnyH_ready (rs := [35]) (by kernel_rfl) (by simp) ?_
    refine (AllReadyH.cons (o := ({ dst := some 95, op := Op.makeSlice 56 (Operand.tmp 94) (Operand.tmp 94), type := 56, pos := "law.go:268", after := #[{ on := 34, ground := Ground.data }, { on := 34, ground := Ground.data }, { on := 29, ground := Ground.guard }], guard := some (29, true) })) rfl (fun K hK => ?_) AllReadyH.nil)
    go_simp
    refine hK.out _ _ (⟨((Keeps.refl noBlock w10).alloc B).cell hHeld.1 (fun h => h), ((Keeps.refl noBlock w10).alloc B).cell hHeld.2 (fun h => h)⟩) (fun hHeldN => ?_)
    clear hK K hHeld
    have hHeld := hHeldN
    clear hHeldN
    try simp only [Act.put, List.setIfInBounds_toArray, List.set_cons_zero, List.set_cons_succ]
    refine wpAnyH_ready (rs := [36]) (by kernel_rfl) (by simp) ?_
    refine (AllReadyH.cons (o := ({ dst := some 96, op := Op.convert 56 9 (Operand.tmp 95), type := 9, pos := "law.go:268", after := #[{ on := 35, ground := Ground.data }, { on := 29, ground := Ground.guard }], guard := some (29, true) })) rfl (fun K hK => ?_) AllReadyH.nil)
    go_simp
    refine hK.out _ _ (hHeld) (fun hHeldN => ?_)
    clear hK K hHeld
    have hHeld := hHeldN
    clear hHeldN
    try simp only [Act.put, List.setIfInBounds_toArray, List.set_cons_zero, List.set_cons_succ]
    have kx : Keeps noBlock w9 (w10.alloc B) := ((Keeps.refl noBlock w9).drew.trans k10).alloc B
    refine wpAnyH_take (i := 37) (oi := ({ dst := some 97, op := Op.binOp BinOp.eql 9 (Operand.tmp 93) (Operand.tmp 96) 9, type := 4, pos := "law.go:268", after := #[{ on := 33, ground := Ground.data }, { on := 36, ground := Ground.data }, { on := 29, ground := Ground.guard }], guard := some (29, true) })) (v := ?_) rfl (by kernel_rfl) (by kernel_rfl) (by kernel_rfl) (fun _ _ _ h => h) (Or.inl ⟨by rfl, ?_⟩) (by assumption) ?_
    rotate_left
    · (intro wS hSw; (try dsimp only at hSw); go_simp; all_goals with_reducible rfl)
    try simp only [Act.put, List.setIfInBounds_toArray, List.set_cons_zero, List.set_cons_succ]
    refine wpAnyH_take (i := 38) (oi := ({ dst := some 98, op := Op.pick (Operand.tmp 89) (Operand.tmp 97) (Operand.const (Value.bool false)), type := 4, pos := "law.go:268", after := #[{ on := 29, ground := Ground.data }, { on := 37, ground := Ground.data }], guard := none })) (v := ?_) rfl (by kernel_rfl) (by kernel_rfl) (by kernel_rfl) (fun _ _ _ h => h) (Or.inl ⟨by rfl, ?_⟩) (by assumption) ?_
    rotate_left
    · (intro wS hSw; (try dsimp only at hSw); go_simp; all_goals with_reducible rfl)
    try simp only [Act.put, List.setIfInBounds_toArray, List.set_cons_zero, List.set_cons_succ]
    refine wpAnyH_take (i := 39) (oi := ({ dst := some 99, op := Op.move (Operand.tmp 98), type := 4, pos := "law.go:268", after := #[{ on := 38, ground := Ground.data }, { on := 33, ground := Ground.chain }], guard := none })) (v := ?_) rfl (by kernel_rfl) (by kernel_rfl) (by kernel_rfl) (fun _ _ _ h => h) (Or.inl ⟨by rfl, ?_⟩) (by assumption) ?_
    rotate_left
    · (intro wS hSw; (try dsimp only at hSw); go_simp; all_goals with_reducible rfl)
    try simp only [Act.put, List.setIfInBounds_toArray, List.set_cons_zero, List.set_cons_succ]
    refine wpAnyH_take (i := 40) (oi := ({ dst := some 100, op := Op.move (Operand.tmp 12), type := 25, pos := "law.go:268", after := #[{ on := 39, ground := Ground.guard }], guard := some (39, true) })) (v := ?_) rfl (by kernel_rfl) (by kernel_rfl) (by kernel_rfl) (fun _ _ _ h => h) (Or.inl ⟨by rfl, ?_⟩) (by assumption) ?_
    rotate_left
    · (intro wS hSw; (try dsimp only at hSw); go_simp; all_goals with_reducible rfl)
    try simp only [Act.put, List.setIfInBounds_toArray, List.set_cons_zero, List.set_cons_succ]
    refine wpAnyH_take (i := 41) (oi := ({ dst := some 101, op := Op.move (Operand.tmp 13), type := 3, pos := "law.go:268", after := #[{ on := 39, ground := Ground.guard }], guard := some (39, true) })) (v := ?_) rfl (by kernel_rfl) (by kernel_rfl) (by kernel_rfl) (fun _ _ _ h => h) (Or.inl ⟨by rfl, ?_⟩) (by assumption) ?_
    rotate_left
    · (intro wS hSw; (try dsimp only at hSw); go_simp; all_goals with_reducible rfl)
    try simp only [Act.put, List.setIfInBounds_toArray, List.set_cons_zero, List.set_cons_succ]
    refine wpAnyH_take (i := 42) (oi := ({ dst := some 102, op := Op.binOp BinOp.sub 3 (Operand.const (Value.int IntKind.i64 (-1))) (Operand.tmp 101) 3, type := 3, pos := "law.go:268", after := #[{ on := 41, ground := Ground.data }, { on := 39, ground := Ground.guard }], guard := some (39, true) })) (v := ?_) rfl (by kernel_rfl) (by kernel_rfl) (by kernel_rfl) (fun _ _ _ h => h) (Or.inl ⟨by rfl, ?_⟩) (by assumption) ?_
    rotate_left
    · (intro wS hSw; (try dsimp only at hSw); go_simp; all_goals with_reducible rfl)
    try simp only [Act.put, List.setIfInBounds_toArray, List.set_cons_zero, List.set_cons_succ]
    refine wpAnyH_ready (rs := [43]) (by kernel_rfl) (by simp) ?_
    refine (AllReadyH.cons (o := ({ dst := some 103, op := Op.call { callee := Callee.value (Operand.func 27), args := #[Operand.tmp 100, Operand.tmp 102, Operand.const (Value.string { data := #[] })], argTypes := #[25, 3, 9] }, type := 44, pos := "law.go:268", after := #[{ on := 40, ground := Ground.data }, { on := 42, ground := Ground.data }, { on := 39, ground := Ground.chain }, { on := 39, ground := Ground.guard }], guard := some (39, true) })) rfl (fun K hK => ?_) AllReadyH.nil)
    go_simp
    refine (write_bad _ _ o1 [] (.inr HF1.out) ⟨_, rfl⟩ HO1.out (by decide)).mono ?_
    rintro e w' ⟨rfl, rfl⟩
    go_wp2_with fail
    refine hK.out _ _ (hHeld) (fun hHeldN => ?_)
    clear hK K hHeld
    have hHeld := hHeldN
    clear hHeldN
    try simp only [Act.put, List.setIfInBounds_toArray, List.set_cons_zero, List.set_cons_succ]
    refine wpAnyH_take (i := 44) (oi := ({ dst := some 104, op := Op.binOp BinOp.eql 44 (Operand.tmp 103) (Operand.const (Value.int IntKind.i64 1)) 44, type := 4, pos := "law.go:268", after := #[{ on := 43, ground := Ground.data }, { on := 39, ground := Ground.guard }], guard := some (39, true) })) (v := ?_) rfl (by kernel_rfl) (by kernel_rfl) (by kernel_rfl) (fun _ _ _ h => h) (Or.inl ⟨by rfl, ?_⟩) (by assumption) ?_
    rotate_left
    · (intro wS hSw; (try dsimp only at hSw); go_simp; all_goals with_reducible rfl)
    try simp only [Act.put, List.setIfInBounds_toArray, List.set_cons_zero, List.set_cons_succ]
    refine wpAnyH_take (i := 45) (oi := ({ dst := some 105, op := Op.pick (Operand.tmp 99) (Operand.tmp 104) (Operand.const (Value.bool false)), type := 4, pos := "law.go:268", after := #[{ on := 39, ground := Ground.data }, { on := 44, ground := Ground.data }], guard := none })) (v := ?_) rfl (by kernel_rfl) (by kernel_rfl) (by kernel_rfl) (fun _ _ _ h => h) (Or.inl ⟨by rfl, ?_⟩) (by assumption) ?_
    rotate_left
    · (intro wS hSw; (try dsimp only at hSw); go_simp; all_goals with_reducible rfl)
    try simp only [Act.put, List.setIfInBounds_toArray, List.set_cons_zero, List.set_cons_succ]
    refine wpAnyH_take (i := 46) (oi := ({ dst := some 106, op := Op.move (Operand.tmp 105), type := 4, pos := "law.go:268", after := #[{ on := 45, ground := Ground.data }, { on := 43, ground := Ground.chain }], guard := none })) (v := ?_) rfl (by kernel_rfl) (by kernel_rfl) (by kernel_rfl) (fun _ _ _ h => h) (Or.inl ⟨by rfl, ?_⟩) (by assumption) ?_
    rotate_left
    · (intro wS hSw; (try dsimp only at hSw); go_simp; all_goals with_reducible rfl)
    try simp only [Act.put, List.setIfInBounds_toArray, List.set_cons_zero, List.set_cons_succ]
    refine wpAnyH_take (i := 47) (oi := ({ dst := some 107, op := Op.move (Operand.tmp 12), type := 25, pos := "law.go:268", after := #[{ on := 46, ground := Ground.guard }], guard := some (46, true) })) (v := ?_) rfl (by kernel_rfl) (by kernel_rfl) (by kernel_rfl) (fun _ _ _ h => h) (Or.inl ⟨by rfl, ?_⟩) (by assumption) ?_
    rotate_left
    · (intro wS hSw; (try dsimp only at hSw); go_simp; all_goals with_reducible rfl)
    try simp only [Act.put, List.setIfInBounds_toArray, List.set_cons_zero, List.set_cons_succ]
    refine wpAnyH_take (i := 48) (oi := ({ dst := some 108, op := Op.move (Operand.tmp 13), type := 3, pos := "law.go:268", after := #[{ on := 46, ground := Ground.guard }], guard := some (46, true) })) (v := ?_) rfl (by kernel_rfl) (by kernel_rfl) (by kernel_rfl) (fun _ _ _ h => h) (Or.inl ⟨by rfl, ?_⟩) (by assumption) ?_
    rotate_left
    · (intro wS hSw; (try dsimp only at hSw); go_simp; all_goals with_reducible rfl)
    try simp only [Act.put, List.setIfInBounds_toArray, List.set_cons_zero, List.set_cons_succ]
    refine wpAnyH_take (i := 49) (oi := ({ dst := some 109, op := Op.binOp BinOp.sub 3 (Operand.const (Value.int IntKind.i64 9223372036854775807)) (Operand.tmp 108) 3, type := 3, pos := "law.go:268", after := #[{ on := 48, ground := Ground.data }, { on := 46, ground := Ground.guard }], guard := some (46, true) })) (v := ?_) rfl (by kernel_rfl) (by kernel_rfl) (by kernel_rfl) (fun _ _ _ h => h) (Or.inl ⟨by rfl, ?_⟩) (by assumption) ?_
    rotate_left
    · (intro wS hSw; (try dsimp only at hSw); go_simp; all_goals with_reducible rfl)
    try simp only [Act.put, List.setIfInBounds_toArray, List.set_cons_zero, List.set_cons_succ]
    refine wpAnyH_ready (rs := [50]) (by kernel_rfl) (by simp) ?_
    refine (AllReadyH.cons (o := ({ dst := some 110, op := Op.call { callee := Callee.value (Operand.func 27), args := #[Operand.tmp 107, Operand.tmp 109, Operand.const (Value.string { data := #[97, 98] })], argTypes := #[25, 3, 9] }, type := 44, pos := "law.go:268", after := #[{ on := 47, ground := Ground.data }, { on := 49, ground := Ground.data }, { on := 46, ground := Ground.chain }, { on := 46, ground := Ground.guard }], guard := some (46, true) })) rfl (fun K hK => ?_) AllReadyH.nil)
    go_simp
    refine (write_bad _ _ o2 [97, 98] (.inr HF2.out) ⟨_, rfl⟩ HO2.out (by decide)).mono ?_
    rintro e w' ⟨rfl, rfl⟩
    go_wp2_with fail
    refine hK.out _ _ (hHeld) (fun hHeldN => ?_)
    clear hK K hHeld
    have hHeld := hHeldN
    clear hHeldN
    try simp only [Act.put, List.setIfInBounds_toArray, List.set_cons_zero, List.set_cons_succ]
    refine wpAnyH_take (i := 51) (oi := ({ dst := some 111, op := Op.binOp BinOp.eql 44 (Operand.tmp 110) (Operand.const (Value.int IntKind.i64 1)) 44, type := 4, pos := "law.go:268", after := #[{ on := 50, ground := Ground.data }, { on := 46, ground := Ground.guard }], guard := some (46, true) })) (v := ?_) rfl (by kernel_rfl) (by kernel_rfl) (by kernel_rfl) (fun _ _ _ h => h) (Or.inl ⟨by rfl, ?_⟩) (by assumption) ?_
    rotate_left
    · (intro wS hSw; (try dsimp only at hSw); go_simp; all_goals with_reducible rfl)
    try simp only [Act.put, List.setIfInBounds_toArray, List.set_cons_zero, List.set_cons_succ]
    refine wpAnyH_take (i := 52) (oi := ({ dst := some 112, op := Op.pick (Operand.tmp 106) (Operand.tmp 111) (Operand.const (Value.bool false)), type := 4, pos := "law.go:268", after := #[{ on := 46, ground := Ground.data }, { on := 51, ground := Ground.data }], guard := none })) (v := ?_) rfl (by kernel_rfl) (by kernel_rfl) (by kernel_rfl) (fun _ _ _ h => h) (Or.inl ⟨by rfl, ?_⟩) (by assumption) ?_
    rotate_left
    · (intro wS hSw; (try dsimp only at hSw); go_simp; all_goals with_reducible rfl)
    try simp only [Act.put, List.setIfInBounds_toArray, List.set_cons_zero, List.set_cons_succ]
    refine wpAnyH_take (i := 53) (oi := ({ dst := some 6, op := Op.assign (Operand.tmp 112), type := 4, pos := "law.go:268", after := #[{ on := 52, ground := Ground.data }, { on := 50, ground := Ground.chain }, { on := 0, ground := Ground.phase }, { on := 1, ground := Ground.phase }, { on := 2, ground := Ground.phase }, { on := 3, ground := Ground.phase }, { on := 4, ground := Ground.phase }, { on := 5, ground := Ground.phase }, { on := 6, ground := Ground.phase }, { on := 7, ground := Ground.phase }, { on := 8, ground := Ground.phase }, { on := 9, ground := Ground.phase }, { on := 10, ground := Ground.phase }, { on := 11, ground := Ground.phase }, { on := 12, ground := Ground.phase }, { on := 13, ground := Ground.phase }, { on := 14, ground := Ground.phase }, { on := 15, ground := Ground.phase }, { on := 16, ground := Ground.phase }, { on := 17, ground := Ground.phase }, { on := 18, ground := Ground.phase }, { on := 19, ground := Ground.phase }, { on := 20, ground := Ground.phase }, { on := 21, ground := Ground.phase }, { on := 22, ground := Ground.phase }, { on := 23, ground := Ground.phase }, { on := 24, ground := Ground.phase }, { on := 25, ground := Ground.phase }, { on := 26, ground := Ground.phase }, { on := 27, ground := Ground.phase }, { on := 28, ground := Ground.phase }, { on := 29, ground := Ground.phase }, { on := 30, ground := Ground.phase }, { on := 31, ground := Ground.phase }, { on := 32, ground := Ground.phase }, { on := 33, ground := Ground.phase }, { on := 34, ground := Ground.phase }, { on := 35, ground := Ground.phase }, { on := 36, ground := Ground.phase }, { on := 37, ground := Ground.phase }, { on := 38, ground := Ground.phase }, { on := 39, ground := Ground.phase }, { on := 40, ground := Ground.phase }, { on := 41, ground := Ground.phase }, { on := 42, ground := Ground.phase }, { on := 43, ground := Ground.phase }, { on := 44, ground := Ground.phase }, { on := 45, ground := Ground.phase }, { on := 46, ground := Ground.phase }, { on := 47, ground := Ground.phase }, { on := 48, ground := Ground.phase }, { on := 49, ground := Ground.phase }, { on := 50, ground := Ground.phase }, { on := 51, ground := Ground.phase }, { on := 52, ground := Ground.phase }], guard := none })) (v := ?_) rfl (by kernel_rfl) (by kernel_rfl) (by kernel_rfl) (fun _ _ _ h => h) (Or.inl ⟨by rfl, ?_⟩) (by assumption) ?_
    rotate_left
    · (intro wS hSw; (try dsimp only at hSw); go_simp; all_goals with_reducible rfl)
    try simp only [Act.put, List.setIfInBounds_toArray, List.set_cons_zero, List.set_cons_succ]
    refine wpAnyH_done (by kernel_rfl) ?_ _
    clear hmk hcv hcvd hHeld
    go_wp2_with fail
    go_ret
    exact ⟨rfl, (KK9.out.trans (kx.any _)).below (Nat.le_refl _) (fun k hk e => by have : w.heap.size ≤ k := e; omega)⟩
  · skip
    go_simp
    refine hK.out _ _ (⟨(((Keeps.refl noBlock w9).alloc B).drew).cell e0 (fun h => h), (((Keeps.refl noBlock w9).alloc B).drew).cell e1 (fun h => h)⟩) (fun hHeldN => ?_)
    clear hK K hHeld
    have hHeld := hHeldN
    clear hHeldN
    try simp only [Act.put, List.setIfInBounds_toArray, List.set_cons_zero, List.set_cons_succ]
    refine wpAnyH_ready (rs := [33, 36]) (by kernel_rfl) (by simp) ?_
    refine (AllReadyH.cons (o := ({ dst := some 93, op := Op.call { callee := Callee.value (Operand.func 29), args := #[Operand.tmp 90, Operand.const (Value.int IntKind.i64 0), Operand.tmp 92], argTypes := #[25, 3, 3] }, type := 9, pos := "law.go:268", after := #[{ on := 30, ground := Ground.data }, { on := 32, ground := Ground.data }, { on := 29, ground := Ground.chain }, { on := 29, ground := Ground.guard }], guard := some (29, true) })) rfl (fun K hK => ?_) (AllReadyH.cons (o := ({ dst := some 96, op := Op.convert 56 9 (Operand.tmp 95), type := 9, pos := "law.go:268", after := #[{ on := 35, ground := Ground.data }, { on := 29, ground := Ground.guard }], guard := some (29, true) })) rfl (fun K hK => ?_) AllReadyH.nil))
    · skip
      go_simp
      refine (read_in _ w7.heap.size _ _ _ 0 (k1 : Int) (HD9.out _ (((Keeps.refl _ _).alloc _).drew)) HLN.out HK1.out).mono ?_
      rintro e w10 ⟨rfl, k10⟩
      rw [HRD.out]
      have hcvr := HCV.out w9 w10 ((Keeps.refl noBlock (w9.alloc B)).drew.trans k10)
      go_wp2_with fail
      refine hK.out _ _ (⟨k10.cell hHeld.1 (fun h => h), k10.cell hHeld.2 (fun h => h)⟩) (fun hHeldN => ?_)
      clear hK K hHeld
      have hHeld := hHeldN
      clear hHeldN
      try simp only [Act.put, List.setIfInBounds_toArray, List.set_cons_zero, List.set_cons_succ]
      refine wpAnyH_ready (rs := [36]) (by kernel_rfl) (by simp) ?_
      refine (AllReadyH.cons (o := ({ dst := some 96, op := Op.convert 56 9 (Operand.tmp 95), type := 9, pos := "law.go:268", after := #[{ on := 35, ground := Ground.data }, { on := 29, ground := Ground.guard }], guard := some (29, true) })) rfl (fun K hK => ?_) AllReadyH.nil)
      go_simp
      refine hK.out _ _ (hHeld) (fun hHeldN => ?_)
      clear hK K hHeld
      have hHeld := hHeldN
      clear hHeldN
      try simp only [Act.put, List.setIfInBounds_toArray, List.set_cons_zero, List.set_cons_succ]
      have kx : Keeps noBlock w9 w10 := (((Keeps.refl noBlock w9).alloc B).drew).trans k10
      clear hcvr
      refine wpAnyH_take (i := 37) (oi := ({ dst := some 97, op := Op.binOp BinOp.eql 9 (Operand.tmp 93) (Operand.tmp 96) 9, type := 4, pos := "law.go:268", after := #[{ on := 33, ground := Ground.data }, { on := 36, ground := Ground.data }, { on := 29, ground := Ground.guard }], guard := some (29, true) })) (v := ?_) rfl (by kernel_rfl) (by kernel_rfl) (by kernel_rfl) (fun _ _ _ h => h) (Or.inl ⟨by rfl, ?_⟩) (by assumption) ?_
      rotate_left
      · (intro wS hSw; (try dsimp only at hSw); go_simp; all_goals with_reducible rfl)
      try simp only [Act.put, List.setIfInBounds_toArray, List.set_cons_zero, List.set_cons_succ]
      refine wpAnyH_take (i := 38) (oi := ({ dst := some 98, op := Op.pick (Operand.tmp 89) (Operand.tmp 97) (Operand.const (Value.bool false)), type := 4, pos := "law.go:268", after := #[{ on := 29, ground := Ground.data }, { on := 37, ground := Ground.data }], guard := none })) (v := ?_) rfl (by kernel_rfl) (by kernel_rfl) (by kernel_rfl) (fun _ _ _ h => h) (Or.inl ⟨by rfl, ?_⟩) (by assumption) ?_
      rotate_left
      · (intro wS hSw; (try dsimp only at hSw); go_simp; all_goals with_reducible rfl)
      try simp only [Act.put, List.setIfInBounds_toArray, List.set_cons_zero, List.set_cons_succ]
      refine wpAnyH_take (i := 39) (oi := ({ dst := some 99, op := Op.move (Operand.tmp 98), type := 4, pos := "law.go:268", after := #[{ on := 38, ground := Ground.data }, { on := 33, ground := Ground.chain }], guard := none })) (v := ?_) rfl (by kernel_rfl) (by kernel_rfl) (by kernel_rfl) (fun _ _ _ h => h) (Or.inl ⟨by rfl, ?_⟩) (by assumption) ?_
      rotate_left
      · (intro wS hSw; (try dsimp only at hSw); go_simp; all_goals with_reducible rfl)
      try simp only [Act.put, List.setIfInBounds_toArray, List.set_cons_zero, List.set_cons_succ]
      refine wpAnyH_take (i := 40) (oi := ({ dst := some 100, op := Op.move (Operand.tmp 12), type := 25, pos := "law.go:268", after := #[{ on := 39, ground := Ground.guard }], guard := some (39, true) })) (v := ?_) rfl (by kernel_rfl) (by kernel_rfl) (by kernel_rfl) (fun _ _ _ h => h) (Or.inl ⟨by rfl, ?_⟩) (by assumption) ?_
      rotate_left
      · (intro wS hSw; (try dsimp only at hSw); go_simp; all_goals with_reducible rfl)
      try simp only [Act.put, List.setIfInBounds_toArray, List.set_cons_zero, List.set_cons_succ]
      refine wpAnyH_take (i := 41) (oi := ({ dst := some 101, op := Op.move (Operand.tmp 13), type := 3, pos := "law.go:268", after := #[{ on := 39, ground := Ground.guard }], guard := some (39, true) })) (v := ?_) rfl (by kernel_rfl) (by kernel_rfl) (by kernel_rfl) (fun _ _ _ h => h) (Or.inl ⟨by rfl, ?_⟩) (by assumption) ?_
      rotate_left
      · (intro wS hSw; (try dsimp only at hSw); go_simp; all_goals with_reducible rfl)
      try simp only [Act.put, List.setIfInBounds_toArray, List.set_cons_zero, List.set_cons_succ]
      refine wpAnyH_take (i := 42) (oi := ({ dst := some 102, op := Op.binOp BinOp.sub 3 (Operand.const (Value.int IntKind.i64 (-1))) (Operand.tmp 101) 3, type := 3, pos := "law.go:268", after := #[{ on := 41, ground := Ground.data }, { on := 39, ground := Ground.guard }], guard := some (39, true) })) (v := ?_) rfl (by kernel_rfl) (by kernel_rfl) (by kernel_rfl) (fun _ _ _ h => h) (Or.inl ⟨by rfl, ?_⟩) (by assumption) ?_
      rotate_left
      · (intro wS hSw; (try dsimp only at hSw); go_simp; all_goals with_reducible rfl)
      try simp only [Act.put, List.setIfInBounds_toArray, List.set_cons_zero, List.set_cons_succ]
      refine wpAnyH_ready (rs := [43]) (by kernel_rfl) (by simp) ?_
      refine (AllReadyH.cons (o := ({ dst := some 103, op := Op.call { callee := Callee.value (Operand.func 27), args := #[Operand.tmp 100, Operand.tmp 102, Operand.const (Value.string { data := #[] })], argTypes := #[25, 3, 9] }, type := 44, pos := "law.go:268", after := #[{ on := 40, ground := Ground.data }, { on := 42, ground := Ground.data }, { on := 39, ground := Ground.chain }, { on := 39, ground := Ground.guard }], guard := some (39, true) })) rfl (fun K hK => ?_) AllReadyH.nil)
      go_simp
      refine (write_bad _ _ o1 [] (.inr HF1.out) ⟨_, rfl⟩ HO1.out (by decide)).mono ?_
      rintro e w' ⟨rfl, rfl⟩
      go_wp2_with fail
      refine hK.out _ _ (hHeld) (fun hHeldN => ?_)
      clear hK K hHeld
      have hHeld := hHeldN
      clear hHeldN
      try simp only [Act.put, List.setIfInBounds_toArray, List.set_cons_zero, List.set_cons_succ]
      refine wpAnyH_take (i := 44) (oi := ({ dst := some 104, op := Op.binOp BinOp.eql 44 (Operand.tmp 103) (Operand.const (Value.int IntKind.i64 1)) 44, type := 4, pos := "law.go:268", after := #[{ on := 43, ground := Ground.data }, { on := 39, ground := Ground.guard }], guard := some (39, true) })) (v := ?_) rfl (by kernel_rfl) (by kernel_rfl) (by kernel_rfl) (fun _ _ _ h => h) (Or.inl ⟨by rfl, ?_⟩) (by assumption) ?_
      rotate_left
      · (intro wS hSw; (try dsimp only at hSw); go_simp; all_goals with_reducible rfl)
      try simp only [Act.put, List.setIfInBounds_toArray, List.set_cons_zero, List.set_cons_succ]
      refine wpAnyH_take (i := 45) (oi := ({ dst := some 105, op := Op.pick (Operand.tmp 99) (Operand.tmp 104) (Operand.const (Value.bool false)), type := 4, pos := "law.go:268", after := #[{ on := 39, ground := Ground.data }, { on := 44, ground := Ground.data }], guard := none })) (v := ?_) rfl (by kernel_rfl) (by kernel_rfl) (by kernel_rfl) (fun _ _ _ h => h) (Or.inl ⟨by rfl, ?_⟩) (by assumption) ?_
      rotate_left
      · (intro wS hSw; (try dsimp only at hSw); go_simp; all_goals with_reducible rfl)
      try simp only [Act.put, List.setIfInBounds_toArray, List.set_cons_zero, List.set_cons_succ]
      refine wpAnyH_take (i := 46) (oi := ({ dst := some 106, op := Op.move (Operand.tmp 105), type := 4, pos := "law.go:268", after := #[{ on := 45, ground := Ground.data }, { on := 43, ground := Ground.chain }], guard := none })) (v := ?_) rfl (by kernel_rfl) (by kernel_rfl) (by kernel_rfl) (fun _ _ _ h => h) (Or.inl ⟨by rfl, ?_⟩) (by assumption) ?_
      rotate_left
      · (intro wS hSw; (try dsimp only at hSw); go_simp; all_goals with_reducible rfl)
      try simp only [Act.put, List.setIfInBounds_toArray, List.set_cons_zero, List.set_cons_succ]
      refine wpAnyH_take (i := 47) (oi := ({ dst := some 107, op := Op.move (Operand.tmp 12), type := 25, pos := "law.go:268", after := #[{ on := 46, ground := Ground.guard }], guard := some (46, true) })) (v := ?_) rfl (by kernel_rfl) (by kernel_rfl) (by kernel_rfl) (fun _ _ _ h => h) (Or.inl ⟨by rfl, ?_⟩) (by assumption) ?_
      rotate_left
      · (intro wS hSw; (try dsimp only at hSw); go_simp; all_goals with_reducible rfl)
      try simp only [Act.put, List.setIfInBounds_toArray, List.set_cons_zero, List.set_cons_succ]
      refine wpAnyH_take (i := 48) (oi := ({ dst := some 108, op := Op.move (Operand.tmp 13), type := 3, pos := "law.go:268", after := #[{ on := 46, ground := Ground.guard }], guard := some (46, true) })) (v := ?_) rfl (by kernel_rfl) (by kernel_rfl) (by kernel_rfl) (fun _ _ _ h => h) (Or.inl ⟨by rfl, ?_⟩) (by assumption) ?_
      rotate_left
      · (intro wS hSw; (try dsimp only at hSw); go_simp; all_goals with_reducible rfl)
      try simp only [Act.put, List.setIfInBounds_toArray, List.set_cons_zero, List.set_cons_succ]
      refine wpAnyH_take (i := 49) (oi := ({ dst := some 109, op := Op.binOp BinOp.sub 3 (Operand.const (Value.int IntKind.i64 9223372036854775807)) (Operand.tmp 108) 3, type := 3, pos := "law.go:268", after := #[{ on := 48, ground := Ground.data }, { on := 46, ground := Ground.guard }], guard := some (46, true) })) (v := ?_) rfl (by kernel_rfl) (by kernel_rfl) (by kernel_rfl) (fun _ _ _ h => h) (Or.inl ⟨by rfl, ?_⟩) (by assumption) ?_
      rotate_left
      · (intro wS hSw; (try dsimp only at hSw); go_simp; all_goals with_reducible rfl)
      try simp only [Act.put, List.setIfInBounds_toArray, List.set_cons_zero, List.set_cons_succ]
      refine wpAnyH_ready (rs := [50]) (by kernel_rfl) (by simp) ?_
      refine (AllReadyH.cons (o := ({ dst := some 110, op := Op.call { callee := Callee.value (Operand.func 27), args := #[Operand.tmp 107, Operand.tmp 109, Operand.const (Value.string { data := #[97, 98] })], argTypes := #[25, 3, 9] }, type := 44, pos := "law.go:268", after := #[{ on := 47, ground := Ground.data }, { on := 49, ground := Ground.data }, { on := 46, ground := Ground.chain }, { on := 46, ground := Ground.guard }], guard := some (46, true) })) rfl (fun K hK => ?_) AllReadyH.nil)
      go_simp
      refine (write_bad _ _ o2 [97, 98] (.inr HF2.out) ⟨_, rfl⟩ HO2.out (by decide)).mono ?_
      rintro e w' ⟨rfl, rfl⟩
      go_wp2_with fail
      refine hK.out _ _ (hHeld) (fun hHeldN => ?_)
      clear hK K hHeld
      have hHeld := hHeldN
      clear hHeldN
      try simp only [Act.put, List.setIfInBounds_toArray, List.set_cons_zero, List.set_cons_succ]
      refine wpAnyH_take (i := 51) (oi := ({ dst := some 111, op := Op.binOp BinOp.eql 44 (Operand.tmp 110) (Operand.const (Value.int IntKind.i64 1)) 44, type := 4, pos := "law.go:268", after := #[{ on := 50, ground := Ground.data }, { on := 46, ground := Ground.guard }], guard := some (46, true) })) (v := ?_) rfl (by kernel_rfl) (by kernel_rfl) (by kernel_rfl) (fun _ _ _ h => h) (Or.inl ⟨by rfl, ?_⟩) (by assumption) ?_
      rotate_left
      · (intro wS hSw; (try dsimp only at hSw); go_simp; all_goals with_reducible rfl)
      try simp only [Act.put, List.setIfInBounds_toArray, List.set_cons_zero, List.set_cons_succ]
      refine wpAnyH_take (i := 52) (oi := ({ dst := some 112, op := Op.pick (Operand.tmp 106) (Operand.tmp 111) (Operand.const (Value.bool false)), type := 4, pos := "law.go:268", after := #[{ on := 46, ground := Ground.data }, { on := 51, ground := Ground.data }], guard := none })) (v := ?_) rfl (by kernel_rfl) (by kernel_rfl) (by kernel_rfl) (fun _ _ _ h => h) (Or.inl ⟨by rfl, ?_⟩) (by assumption) ?_
      rotate_left
      · (intro wS hSw; (try dsimp only at hSw); go_simp; all_goals with_reducible rfl)
      try simp only [Act.put, List.setIfInBounds_toArray, List.set_cons_zero, List.set_cons_succ]
      refine wpAnyH_take (i := 53) (oi := ({ dst := some 6, op := Op.assign (Operand.tmp 112), type := 4, pos := "law.go:268", after := #[{ on := 52, ground := Ground.data }, { on := 50, ground := Ground.chain }, { on := 0, ground := Ground.phase }, { on := 1, ground := Ground.phase }, { on := 2, ground := Ground.phase }, { on := 3, ground := Ground.phase }, { on := 4, ground := Ground.phase }, { on := 5, ground := Ground.phase }, { on := 6, ground := Ground.phase }, { on := 7, ground := Ground.phase }, { on := 8, ground := Ground.phase }, { on := 9, ground := Ground.phase }, { on := 10, ground := Ground.phase }, { on := 11, ground := Ground.phase }, { on := 12, ground := Ground.phase }, { on := 13, ground := Ground.phase }, { on := 14, ground := Ground.phase }, { on := 15, ground := Ground.phase }, { on := 16, ground := Ground.phase }, { on := 17, ground := Ground.phase }, { on := 18, ground := Ground.phase }, { on := 19, ground := Ground.phase }, { on := 20, ground := Ground.phase }, { on := 21, ground := Ground.phase }, { on := 22, ground := Ground.phase }, { on := 23, ground := Ground.phase }, { on := 24, ground := Ground.phase }, { on := 25, ground := Ground.phase }, { on := 26, ground := Ground.phase }, { on := 27, ground := Ground.phase }, { on := 28, ground := Ground.phase }, { on := 29, ground := Ground.phase }, { on := 30, ground := Ground.phase }, { on := 31, ground := Ground.phase }, { on := 32, ground := Ground.phase }, { on := 33, ground := Ground.phase }, { on := 34, ground := Ground.phase }, { on := 35, ground := Ground.phase }, { on := 36, ground := Ground.phase }, { on := 37, ground := Ground.phase }, { on := 38, ground := Ground.phase }, { on := 39, ground := Ground.phase }, { on := 40, ground := Ground.phase }, { on := 41, ground := Ground.phase }, { on := 42, ground := Ground.phase }, { on := 43, ground := Ground.phase }, { on := 44, ground := Ground.phase }, { on := 45, ground := Ground.phase }, { on := 46, ground := Ground.phase }, { on := 47, ground := Ground.phase }, { on := 48, ground := Ground.phase }, { on := 49, ground := Ground.phase }, { on := 50, ground := Ground.phase }, { on := 51, ground := Ground.phase }, { on := 52, ground := Ground.phase }], guard := none })) (v := ?_) rfl (by kernel_rfl) (by kernel_rfl) (by kernel_rfl) (fun _ _ _ h => h) (Or.inl ⟨by rfl, ?_⟩) (by assumption) ?_
      rotate_left
      · (intro wS hSw; (try dsimp only at hSw); go_simp; all_goals with_reducible rfl)
      try simp only [Act.put, List.setIfInBounds_toArray, List.set_cons_zero, List.set_cons_succ]
      refine wpAnyH_done (by kernel_rfl) ?_ _
      clear hmk hcv hcvd hHeld
      go_wp2_with fail
      go_ret
      exact ⟨rfl, (KK9.out.trans (kx.any _)).below (Nat.le_refl _) (fun k hk e => by have : w.heap.size ≤ k := e; omega)⟩
    · skip
      go_simp
      refine hK.out _ _ (hHeld) (fun hHeldN => ?_)
      clear hK K hHeld
      have hHeld := hHeldN
      clear hHeldN
      try simp only [Act.put, List.setIfInBounds_toArray, List.set_cons_zero, List.set_cons_succ]
      refine wpAnyH_ready (rs := [33]) (by kernel_rfl) (by simp) ?_
      refine (AllReadyH.cons (o := ({ dst := some 93, op := Op.call { callee := Callee.value (Operand.func 29), args := #[Operand.tmp 90, Operand.const (Value.int IntKind.i64 0), Operand.tmp 92], argTypes := #[25, 3, 3] }, type := 9, pos := "law.go:268", after := #[{ on := 30, ground := Ground.data }, { on := 32, ground := Ground.data }, { on := 29, ground := Ground.chain }, { on := 29, ground := Ground.guard }], guard := some (29, true) })) rfl (fun K hK => ?_) AllReadyH.nil)
      go_simp
      refine (read_in _ w7.heap.size _ _ _ 0 (k1 : Int) (HD9.out _ (((Keeps.refl _ _).alloc _).drew)) HLN.out HK1.out).mono ?_
      rintro e w10 ⟨rfl, k10⟩
      rw [HRD.out]
      go_wp2_with fail
      refine hK.out _ _ (⟨k10.cell hHeld.1 (fun h => h), k10.cell hHeld.2 (fun h => h)⟩) (fun hHeldN => ?_)
      clear hK K hHeld
      have hHeld := hHeldN
      clear hHeldN
      try simp only [Act.put, List.setIfInBounds_toArray, List.set_cons_zero, List.set_cons_succ]
      have kx : Keeps noBlock w9 w10 := (((Keeps.refl noBlock w9).alloc B).drew).trans k10
      refine wpAnyH_take (i := 37) (oi := ({ dst := some 97, op := Op.binOp BinOp.eql 9 (Operand.tmp 93) (Operand.tmp 96) 9, type := 4, pos := "law.go:268", after := #[{ on := 33, ground := Ground.data }, { on := 36, ground := Ground.data }, { on := 29, ground := Ground.guard }], guard := some (29, true) })) (v := ?_) rfl (by kernel_rfl) (by kernel_rfl) (by kernel_rfl) (fun _ _ _ h => h) (Or.inl ⟨by rfl, ?_⟩) (by assumption) ?_
      rotate_left
      · (intro wS hSw; (try dsimp only at hSw); go_simp; all_goals with_reducible rfl)
      try simp only [Act.put, List.setIfInBounds_toArray, List.set_cons_zero, List.set_cons_succ]
      refine wpAnyH_take (i := 38) (oi := ({ dst := some 98, op := Op.pick (Operand.tmp 89) (Operand.tmp 97) (Operand.const (Value.bool false)), type := 4, pos := "law.go:268", after := #[{ on := 29, ground := Ground.data }, { on := 37, ground := Ground.data }], guard := none })) (v := ?_) rfl (by kernel_rfl) (by kernel_rfl) (by kernel_rfl) (fun _ _ _ h => h) (Or.inl ⟨by rfl, ?_⟩) (by assumption) ?_
      rotate_left
      · (intro wS hSw; (try dsimp only at hSw); go_simp; all_goals with_reducible rfl)
      try simp only [Act.put, List.setIfInBounds_toArray, List.set_cons_zero, List.set_cons_succ]
      refine wpAnyH_take (i := 39) (oi := ({ dst := some 99, op := Op.move (Operand.tmp 98), type := 4, pos := "law.go:268", after := #[{ on := 38, ground := Ground.data }, { on := 33, ground := Ground.chain }], guard := none })) (v := ?_) rfl (by kernel_rfl) (by kernel_rfl) (by kernel_rfl) (fun _ _ _ h => h) (Or.inl ⟨by rfl, ?_⟩) (by assumption) ?_
      rotate_left
      · (intro wS hSw; (try dsimp only at hSw); go_simp; all_goals with_reducible rfl)
      try simp only [Act.put, List.setIfInBounds_toArray, List.set_cons_zero, List.set_cons_succ]
      refine wpAnyH_take (i := 40) (oi := ({ dst := some 100, op := Op.move (Operand.tmp 12), type := 25, pos := "law.go:268", after := #[{ on := 39, ground := Ground.guard }], guard := some (39, true) })) (v := ?_) rfl (by kernel_rfl) (by kernel_rfl) (by kernel_rfl) (fun _ _ _ h => h) (Or.inl ⟨by rfl, ?_⟩) (by assumption) ?_
      rotate_left
      · (intro wS hSw; (try dsimp only at hSw); go_simp; all_goals with_reducible rfl)
      try simp only [Act.put, List.setIfInBounds_toArray, List.set_cons_zero, List.set_cons_succ]
      refine wpAnyH_take (i := 41) (oi := ({ dst := some 101, op := Op.move (Operand.tmp 13), type := 3, pos := "law.go:268", after := #[{ on := 39, ground := Ground.guard }], guard := some (39, true) })) (v := ?_) rfl (by kernel_rfl) (by kernel_rfl) (by kernel_rfl) (fun _ _ _ h => h) (Or.inl ⟨by rfl, ?_⟩) (by assumption) ?_
      rotate_left
      · (intro wS hSw; (try dsimp only at hSw); go_simp; all_goals with_reducible rfl)
      try simp only [Act.put, List.setIfInBounds_toArray, List.set_cons_zero, List.set_cons_succ]
      refine wpAnyH_take (i := 42) (oi := ({ dst := some 102, op := Op.binOp BinOp.sub 3 (Operand.const (Value.int IntKind.i64 (-1))) (Operand.tmp 101) 3, type := 3, pos := "law.go:268", after := #[{ on := 41, ground := Ground.data }, { on := 39, ground := Ground.guard }], guard := some (39, true) })) (v := ?_) rfl (by kernel_rfl) (by kernel_rfl) (by kernel_rfl) (fun _ _ _ h => h) (Or.inl ⟨by rfl, ?_⟩) (by assumption) ?_
      rotate_left
      · (intro wS hSw; (try dsimp only at hSw); go_simp; all_goals with_reducible rfl)
      try simp only [Act.put, List.setIfInBounds_toArray, List.set_cons_zero, List.set_cons_succ]
      refine wpAnyH_ready (rs := [43]) (by kernel_rfl) (by simp) ?_
      refine (AllReadyH.cons (o := ({ dst := some 103, op := Op.call { callee := Callee.value (Operand.func 27), args := #[Operand.tmp 100, Operand.tmp 102, Operand.const (Value.string { data := #[] })], argTypes := #[25, 3, 9] }, type := 44, pos := "law.go:268", after := #[{ on := 40, ground := Ground.data }, { on := 42, ground := Ground.data }, { on := 39, ground := Ground.chain }, { on := 39, ground := Ground.guard }], guard := some (39, true) })) rfl (fun K hK => ?_) AllReadyH.nil)
      go_simp
      refine (write_bad _ _ o1 [] (.inr HF1.out) ⟨_, rfl⟩ HO1.out (by decide)).mono ?_
      rintro e w' ⟨rfl, rfl⟩
      go_wp2_with fail
      refine hK.out _ _ (hHeld) (fun hHeldN => ?_)
      clear hK K hHeld
      have hHeld := hHeldN
      clear hHeldN
      try simp only [Act.put, List.setIfInBounds_toArray, List.set_cons_zero, List.set_cons_succ]
      refine wpAnyH_take (i := 44) (oi := ({ dst := some 104, op := Op.binOp BinOp.eql 44 (Operand.tmp 103) (Operand.const (Value.int IntKind.i64 1)) 44, type := 4, pos := "law.go:268", after := #[{ on := 43, ground := Ground.data }, { on := 39, ground := Ground.guard }], guard := some (39, true) })) (v := ?_) rfl (by kernel_rfl) (by kernel_rfl) (by kernel_rfl) (fun _ _ _ h => h) (Or.inl ⟨by rfl, ?_⟩) (by assumption) ?_
      rotate_left
      · (intro wS hSw; (try dsimp only at hSw); go_simp; all_goals with_reducible rfl)
      try simp only [Act.put, List.setIfInBounds_toArray, List.set_cons_zero, List.set_cons_succ]
      refine wpAnyH_take (i := 45) (oi := ({ dst := some 105, op := Op.pick (Operand.tmp 99) (Operand.tmp 104) (Operand.const (Value.bool false)), type := 4, pos := "law.go:268", after := #[{ on := 39, ground := Ground.data }, { on := 44, ground := Ground.data }], guard := none })) (v := ?_) rfl (by kernel_rfl) (by kernel_rfl) (by kernel_rfl) (fun _ _ _ h => h) (Or.inl ⟨by rfl, ?_⟩) (by assumption) ?_
      rotate_left
      · (intro wS hSw; (try dsimp only at hSw); go_simp; all_goals with_reducible rfl)
      try simp only [Act.put, List.setIfInBounds_toArray, List.set_cons_zero, List.set_cons_succ]
      refine wpAnyH_take (i := 46) (oi := ({ dst := some 106, op := Op.move (Operand.tmp 105), type := 4, pos := "law.go:268", after := #[{ on := 45, ground := Ground.data }, { on := 43, ground := Ground.chain }], guard := none })) (v := ?_) rfl (by kernel_rfl) (by kernel_rfl) (by kernel_rfl) (fun _ _ _ h => h) (Or.inl ⟨by rfl, ?_⟩) (by assumption) ?_
      rotate_left
      · (intro wS hSw; (try dsimp only at hSw); go_simp; all_goals with_reducible rfl)
      try simp only [Act.put, List.setIfInBounds_toArray, List.set_cons_zero, List.set_cons_succ]
      refine wpAnyH_take (i := 47) (oi := ({ dst := some 107, op := Op.move (Operand.tmp 12), type := 25, pos := "law.go:268", after := #[{ on := 46, ground := Ground.guard }], guard := some (46, true) })) (v := ?_) rfl (by kernel_rfl) (by kernel_rfl) (by kernel_rfl) (fun _ _ _ h => h) (Or.inl ⟨by rfl, ?_⟩) (by assumption) ?_
      rotate_left
      · (intro wS hSw; (try dsimp only at hSw); go_simp; all_goals with_reducible rfl)
      try simp only [Act.put, List.setIfInBounds_toArray, List.set_cons_zero, List.set_cons_succ]
      refine wpAnyH_take (i := 48) (oi := ({ dst := some 108, op := Op.move (Operand.tmp 13), type := 3, pos := "law.go:268", after := #[{ on := 46, ground := Ground.guard }], guard := some (46, true) })) (v := ?_) rfl (by kernel_rfl) (by kernel_rfl) (by kernel_rfl) (fun _ _ _ h => h) (Or.inl ⟨by rfl, ?_⟩) (by assumption) ?_
      rotate_left
      · (intro wS hSw; (try dsimp only at hSw); go_simp; all_goals with_reducible rfl)
      try simp only [Act.put, List.setIfInBounds_toArray, List.set_cons_zero, List.set_cons_succ]
      refine wpAnyH_take (i := 49) (oi := ({ dst := some 109, op := Op.binOp BinOp.sub 3 (Operand.const (Value.int IntKind.i64 9223372036854775807)) (Operand.tmp 108) 3, type := 3, pos := "law.go:268", after := #[{ on := 48, ground := Ground.data }, { on := 46, ground := Ground.guard }], guard := some (46, true) })) (v := ?_) rfl (by kernel_rfl) (by kernel_rfl) (by kernel_rfl) (fun _ _ _ h => h) (Or.inl ⟨by rfl, ?_⟩) (by assumption) ?_
      rotate_left
      · (intro wS hSw; (try dsimp only at hSw); go_simp; all_goals with_reducible rfl)
      try simp only [Act.put, List.setIfInBounds_toArray, List.set_cons_zero, List.set_cons_succ]
      refine wpAnyH_ready (rs := [50]) (by kernel_rfl) (by simp) ?_
      refine (AllReadyH.cons (o := ({ dst := some 110, op := Op.call { callee := Callee.value (Operand.func 27), args := #[Operand.tmp 107, Operand.tmp 109, Operand.const (Value.string { data := #[97, 98] })], argTypes := #[25, 3, 9] }, type := 44, pos := "law.go:268", after := #[{ on := 47, ground := Ground.data }, { on := 49, ground := Ground.data }, { on := 46, ground := Ground.chain }, { on := 46, ground := Ground.guard }], guard := some (46, true) })) rfl (fun K hK => ?_) AllReadyH.nil)
      go_simp
      refine (write_bad _ _ o2 [97, 98] (.inr HF2.out) ⟨_, rfl⟩ HO2.out (by decide)).mono ?_
      rintro e w' ⟨rfl, rfl⟩
      go_wp2_with fail
      refine hK.out _ _ (hHeld) (fun hHeldN => ?_)
      clear hK K hHeld
      have hHeld := hHeldN
      clear hHeldN
      try simp only [Act.put, List.setIfInBounds_toArray, List.set_cons_zero, List.set_cons_succ]
      refine wpAnyH_take (i := 51) (oi := ({ dst := some 111, op := Op.binOp BinOp.eql 44 (Operand.tmp 110) (Operand.const (Value.int IntKind.i64 1)) 44, type := 4, pos := "law.go:268", after := #[{ on := 50, ground := Ground.data }, { on := 46, ground := Ground.guard }], guard := some (46, true) })) (v := ?_) rfl (by kernel_rfl) (by kernel_rfl) (by kernel_rfl) (fun _ _ _ h => h) (Or.inl ⟨by rfl, ?_⟩) (by assumption) ?_
      rotate_left
      · (intro wS hSw; (try dsimp only at hSw); go_simp; all_goals with_reducible rfl)
      try simp only [Act.put, List.setIfInBounds_toArray, List.set_cons_zero, List.set_cons_succ]
      refine wpAnyH_take (i := 52) (oi := ({ dst := some 112, op := Op.pick (Operand.tmp 106) (Operand.tmp 111) (Operand.const (Value.bool false)), type := 4, pos := "law.go:268", after := #[{ on := 46, ground := Ground.data }, { on := 51, ground := Ground.data }], guard := none })) (v := ?_) rfl (by kernel_rfl) (by kernel_rfl) (by kernel_rfl) (fun _ _ _ h => h) (Or.inl ⟨by rfl, ?_⟩) (by assumption) ?_
      rotate_left
      · (intro wS hSw; (try dsimp only at hSw); go_simp; all_goals with_reducible rfl)
      try simp only [Act.put, List.setIfInBounds_toArray, List.set_cons_zero, List.set_cons_succ]
      refine wpAnyH_take (i := 53) (oi := ({ dst := some 6, op := Op.assign (Operand.tmp 112), type := 4, pos := "law.go:268", after := #[{ on := 52, ground := Ground.data }, { on := 50, ground := Ground.chain }, { on := 0, ground := Ground.phase }, { on := 1, ground := Ground.phase }, { on := 2, ground := Ground.phase }, { on := 3, ground := Ground.phase }, { on := 4, ground := Ground.phase }, { on := 5, ground := Ground.phase }, { on := 6, ground := Ground.phase }, { on := 7, ground := Ground.phase }, { on := 8, ground := Ground.phase }, { on := 9, ground := Ground.phase }, { on := 10, ground := Ground.phase }, { on := 11, ground := Ground.phase }, { on := 12, ground := Ground.phase }, { on := 13, ground := Ground.phase }, { on := 14, ground := Ground.phase }, { on := 15, ground := Ground.phase }, { on := 16, ground := Ground.phase }, { on := 17, ground := Ground.phase }, { on := 18, ground := Ground.phase }, { on := 19, ground := Ground.phase }, { on := 20, ground := Ground.phase }, { on := 21, ground := Ground.phase }, { on := 22, ground := Ground.phase }, { on := 23, ground := Ground.phase }, { on := 24, ground := Ground.phase }, { on := 25, ground := Ground.phase }, { on := 26, ground := Ground.phase }, { on := 27, ground := Ground.phase }, { on := 28, ground := Ground.phase }, { on := 29, ground := Ground.phase }, { on := 30, ground := Ground.phase }, { on := 31, ground := Ground.phase }, { on := 32, ground := Ground.phase }, { on := 33, ground := Ground.phase }, { on := 34, ground := Ground.phase }, { on := 35, ground := Ground.phase }, { on := 36, ground := Ground.phase }, { on := 37, ground := Ground.phase }, { on := 38, ground := Ground.phase }, { on := 39, ground := Ground.phase }, { on := 40, ground := Ground.phase }, { on := 41, ground := Ground.phase }, { on := 42, ground := Ground.phase }, { on := 43, ground := Ground.phase }, { on := 44, ground := Ground.phase }, { on := 45, ground := Ground.phase }, { on := 46, ground := Ground.phase }, { on := 47, ground := Ground.phase }, { on := 48, ground := Ground.phase }, { on := 49, ground := Ground.phase }, { on := 50, ground := Ground.phase }, { on := 51, ground := Ground.phase }, { on := 52, ground := Ground.phase }], guard := none })) (v := ?_) rfl (by kernel_rfl) (by kernel_rfl) (by kernel_rfl) (fun _ _ _ h => h) (Or.inl ⟨by rfl, ?_⟩) (by assumption) ?_
      rotate_left
      · (intro wS hSw; (try dsimp only at hSw); go_simp; all_goals with_reducible rfl)
      try simp only [Act.put, List.setIfInBounds_toArray, List.set_cons_zero, List.set_cons_succ]
      refine wpAnyH_done (by kernel_rfl) ?_ _
      clear hmk hcv hcvd hHeld
      go_wp2_with fail
      go_ret
      exact ⟨rfl, (KK9.out.trans (kx.any _)).below (Nat.le_refl _) (fun k hk e => by have : w.heap.size ≤ k := e; omega)⟩
end Go.Proofs.Ytmigbpfeobjhkaa
