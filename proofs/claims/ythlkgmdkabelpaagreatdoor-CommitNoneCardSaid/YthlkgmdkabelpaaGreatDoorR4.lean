/-
  CommitNone: the law's walk: it returns true, and writes nothing that was there. No condition.
-/
import Derived.Test.YthlkgmdkabelpaaGreatDoorR2
import Derived.Test.YthlkgmdkabelpaaGreatDoorR3
import Derived.Test.YthlkgmdkabelpaaGreatDoorHText
import Derived.ChangeKeysEq
namespace Go.Proofs.YthlkgmdkabelpaaGreatDoor.X
open Go Go.RowKit
set_option linter.unusedVariables false

def regB : List Code → Bool
  | [.region _ _ false, .ret] => true
  | _ => false
def regOf : List Code → Array Oper
  | .region _ ops _ :: _ => ops
  | _ => #[]
theorem regIs {l : List Code} (h : regB l = true) : ∃ id, l = [.region id (regOf l) false, .ret] := by
  unfold regB at h
  split at h
  · exact ⟨_, rfl⟩
  · cases h
noncomputable def opsNone : Array Oper := regOf (pcsNone.drop 9)
theorem regNone : regB (pcsNone.drop 9) = true := by kernel_rfl
def stA (a : List UInt8) : XS := lit [(94, .bool true), (95, .agg (bvs a).toArray)] [] 77
set_option maxRecDepth 100000 in
theorem tA (a : List UInt8) (ha : a.length = 32) : outV (opsX Tryz.prog runS 99 none opsNone (opsNone.toList.take 41) (lit fNone (oNone a) 63)) [94, 95] [] = some ([some (.bool true), some (.agg (bvs a).toArray)], [], 77, true) := by
  obtain ⟨x0, x1, x2, x3, x4, x5, x6, x7, x8, x9, x10, x11, x12, x13, x14, x15, x16, x17, x18, x19, x20, x21, x22, x23, x24, x25, x26, x27, x28, x29, x30, x31, rfl⟩ := list32 a ha
  kernel_rfl
def enterOf : Option XR → Option (FuncId × List Value)
  | some (.enter f args) => some (f, args)
  | _ => none
noncomputable def f41 (ops : Array Oper) (s : XS) : List Oper → Option (Option Bool × Option Tmp × Option (FuncId × List Value))
  | o :: _ => some (wantX ops s.fr o, o.dst, enterOf (xop Tryz.prog s.fr s.W o.type o.op))
  | [] => none
set_option maxRecDepth 100000 in
theorem t41 (a : List UInt8) (ha : a.length = 32) : f41 opsNone (stA a) (opsNone.toList.drop 41) = some (some true, some 96, some (20, [.agg (bvs a).toArray])) := by
  obtain ⟨x0, x1, x2, x3, x4, x5, x6, x7, x8, x9, x10, x11, x12, x13, x14, x15, x16, x17, x18, x19, x20, x21, x22, x23, x24, x25, x26, x27, x28, x29, x30, x31, rfl⟩ := list32 a ha
  kernel_rfl
def binOf : Op → Option (TypeId × Tmp × Nat)
  | .binOp .neq t (.tmp x) (.const (.string s)) _ => some (t, x, s.size)
  | _ => none
noncomputable def f42 (ops : Array Oper) (s : XS) : List Oper → Option (Option Bool × Option Tmp × Option (TypeId × Tmp × Nat))
  | o :: _ => some (wantX ops s.fr o, o.dst, binOf o.op)
  | [] => none
def stB (a : List UInt8) : XS := ⟨(stA a).fr.set 96 none, (stA a).W, (stA a).ds⟩
def stC (a : List UInt8) : XS := ⟨(stB a).fr.set 97 (some (.bool true)), (stB a).W, (stB a).ds⟩
set_option maxRecDepth 100000 in
theorem t42 (a : List UInt8) (ha : a.length = 32) : f42 opsNone (stB a) (opsNone.toList.drop 42) = some (some true, some 97, some (9, 96, 0)) := by
  obtain ⟨x0, x1, x2, x3, x4, x5, x6, x7, x8, x9, x10, x11, x12, x13, x14, x15, x16, x17, x18, x19, x20, x21, x22, x23, x24, x25, x26, x27, x28, x29, x30, x31, rfl⟩ := list32 a ha
  kernel_rfl
set_option maxRecDepth 100000 in
theorem tC (a : List UInt8) (ha : a.length = 32) : outV (opsX Tryz.prog runS 99 none opsNone (opsNone.toList.drop 43) (stC a)) [2] [] = some ([some (.bool true)], [], 77, true) := by
  obtain ⟨x0, x1, x2, x3, x4, x5, x6, x7, x8, x9, x10, x11, x12, x13, x14, x15, x16, x17, x18, x19, x20, x21, x22, x23, x24, x25, x26, x27, x28, x29, x30, x31, rfl⟩ := list32 a ha
  kernel_rfl
theorem entersT : entersB Tryz.prog 20 = true := by kernel_rfl
theorem tNone : (Tryz.prog.funcs[4]?).map (fun fn => (fn.ntmps, fn.body.isSome, fn.results)) = some (99, true, #[.tmp 2]) := by kernel_rfl
theorem run_neq_empty {P : Program} {t : TypeId} (hu : P.underlying t = some .string) (x y : ByteArray) (hx : 0 < x.size) (hy : y.size = 0) (w : World) : (binOp .neq t (.string x) (.string y)).run P w = .ok (.bool true) w := by
  have hne : (x.toList == y.toList) = false := by
    rw [beq_eq_false_iff_ne]
    intro e
    have := congrArg List.length e
    simp [ByteArray.toList_eq] at this
    have h1 : x.data.size = x.size := rfl
    have h2 : y.data.size = y.size := rfl
    omega
  show (Op.stringOp .neq x y).run P w = _
  simp [Op.stringOp, hne]
set_option maxRecDepth 100000 in
theorem none_walk (a : List UInt8) (w : World) (ha : a.length = 32) : Calls Tryz.prog 4 #[.agg (bvs a).toArray] w fun e w' => e = .returned (.bool true) ∧ Keeps noBlock w w' := by
  obtain ⟨fn, hf, ht⟩ := Option.map_eq_some_iff.1 tNone
  obtain ⟨h1, h2⟩ := Prod.mk.inj ht
  obtain ⟨h2, h3⟩ := Prod.mk.inj h2
  cases hb : fn.body with
  | none => rw [hb] at h2; cases h2
  | some c =>
    have hfl : [Value.agg (bvs a).toArray].all (flatN 8) = true := by
      simp only [List.all_cons, List.all_nil, Bool.and_true]
      show (bvs a).toArray.toList.all (flatN 7) = true
      rw [List.toList_toArray]
      exact flat_bvs a
    refine callsArgs (args := [.agg (bvs a).toArray]) hf hb hfl (by rw [h1]; simp) ?_
    rw [h1]
    show ∀ x, Ch Tryz.prog 99 w (begin0 [.agg (bvs a).toArray]) x w → wpL Fence.wide 0 Tryz.prog (bodyPost Tryz.prog fn fun e w' => e = .returned (.bool true) ∧ Keeps noBlock w w') (pcsNone.drop 0) x w
    have hR : RExt runS := xrun_ext (hooksS_are 100000).ext 100000
    have hC : SimC Tryz.prog runS := (xrun_sim mixed (hooksS_are 100000) (drawn_sim mixed) 100000).1
    have hF : SimF Tryz.prog runS := (xrun_sim mixed (hooksS_are 100000) (drawn_sim mixed) 100000).2.1
    have k0 := cNone a ha
    have kA := tA a ha
    have k41 := t41 a ha
    have k42 := t42 a ha
    have kC := tC a ha
    obtain ⟨id, hreg⟩ := regIs regNone
    have hops : regOf (pcsNone.drop 9) = opsNone := rfl
    rw [hops] at hreg
    generalize runS = R at hR hC hF k0 kA kC
    generalize opsNone = ops at *
    generalize pcsNone = pcs at *
    intro x hc
    refine cutL (i := 0) (k := 9) hC k0 (fun a1 w1 hc1 => ?_) hc
    rw [hreg]
    refine wpIn_region_list ?_
    obtain ⟨sA, hA, fA1, fA2, fA3, fA4⟩ := outV_some (F := [(94, .bool true), (95, .agg (bvs a).toArray)]) (L := []) kA
    have hsplit : ops.toList = ops.toList.take 41 ++ ops.toList.drop 41 := (List.take_append_drop 41 _).symm
    rw [hsplit]
    refine ops_ch hR hC hF hA hc1 fun a2 w2 hc2 => ?_
    have hc2 := ch_lit (F := [(94, .bool true), (95, .agg (bvs a).toArray)]) (L := []) hc2 fA1 (fun p hp => by cases hp) fA4
    rw [fA3] at hc2
    have hc2 : Ch Tryz.prog 99 w (stA a) a2 w2 := hc2
    cases hd : ops.toList.drop 41 with
    | nil => rw [hd] at k41; cases k41
    | cons o l =>
      have hd2 : ops.toList.drop 42 = l := by rw [show 42 = 41 + 1 from rfl, ← List.drop_drop, hd]; rfl
      rw [hd] at k41
      rw [hd2] at k42
      simp only [f41, Option.some.injEq, Prod.mk.injEq] at k41
      obtain ⟨q1, q2, q3⟩ := k41
      have q3 : xop Tryz.prog (stA a).fr (stA a).W o.type o.op = some (.enter 20 [.agg (bvs a).toArray]) := by
        revert q3
        generalize xop Tryz.prog (stA a).fr (stA a).W o.type o.op = y
        intro q3
        unfold enterOf at q3
        split at q3
        · simp only [Option.some.injEq, Prod.mk.injEq] at q3
          rw [q3.1, q3.2]
        · cases q3
      refine op_call (V := fun v => v = .string (str (textL a))) hc2 q1 q2 (by decide) q3 hfl (enters_of entersT) (fun w => (rtext_any a w ha).mono fun e w' ⟨he, hk⟩ => ⟨_, he, rfl, hk⟩) fun a3 w3 v hc3 hv hV => ?_
      subst hV
      cases l with
      | nil => cases k42
      | cons o2 l2 =>
        have hd3 : ops.toList.drop 43 = l2 := by rw [show 43 = 42 + 1 from rfl, ← List.drop_drop, hd2]; rfl
        rw [hd3] at kC
        simp only [f42, Option.some.injEq, Prod.mk.injEq] at k42
        obtain ⟨r1, r2, r3⟩ := k42
        have hrun : ∀ w, (execOp a3.eval o2).run Tryz.prog w = .ok (.value (.bool true)) w := fun w => by
          obtain ⟨dst, op, type, pos, after, guard⟩ := o2
          simp only at r3
          unfold binOf at r3
          split at r3
          · rename_i t x s yt
            simp only [Option.some.injEq, Prod.mk.injEq] at r3
            obtain ⟨rfl, rfl, hs⟩ := r3
            show (do pure (Next.value (← (do eqGuard .neq 9 (.tmp 96) (.const (.string s)) (a3.tmps.getD 96 undef) (.string s); binOp .neq 9 (a3.tmps.getD 96 undef) (.string s))))).run Tryz.prog w = _
            have eg : (eqGuard .neq 9 (.tmp 96) (.const (.string s)) (.string (str (textL a))) (.string s)).run Tryz.prog w = .ok () w := rfl
            rw [hv, Sem.run_bind, Sem.run_bind, eg, Result.andThen_ok, run_neq_empty Tryz.underlying9 _ _ (by rw [size_str, textL_length, ha]; omega) hs]
            rfl
          · cases r3
        refine op_hand hc3 r1 r2 (by decide) rfl (hrun _) fun a4 w4 hc4 => ?_
        obtain ⟨sC, hC2, fC1, fC2, fC3, fC4⟩ := outV_some (F := [(2, .bool true)]) (L := []) kC
        have := ops_ch (l2 := []) (Q := Exit.then (wpL Fence.wide 0 Tryz.prog (bodyPost Tryz.prog fn fun e w' => e = .returned (.bool true) ∧ Keeps noBlock w w') [.ret]) (bodyPost Tryz.prog fn fun e w' => e = .returned (.bool true) ∧ Keeps noBlock w w')) hR hC hF hC2 hc4 (m := 0) fun a5 w5 hc5 => ?_
        · rw [List.append_nil] at this
          exact this
        · refine wpIn_ret ?_
          obtain ⟨ρ, g1, g2, g3, g4, g5, g6⟩ := hc5
          have hds : sC.ds = [] := by simpa using fC4
          rw [hds] at g3
          have kd : a5.defers = [] := by cases hdd : a5.defers with | nil => rfl | cons _ _ => rw [hdd] at g3; cases g3
          have hv2 : a5.tmps.getD 2 undef = .bool true := (g2.rep 2 _ (fC1 (2, .bool true) List.mem_cons_self)).of_flat 1 rfl
          refine ⟨kd, .bool true, ?_, rfl, g5⟩
          rw [results_tmp h3, hv2]
end Go.Proofs.YthlkgmdkabelpaaGreatDoor.X
