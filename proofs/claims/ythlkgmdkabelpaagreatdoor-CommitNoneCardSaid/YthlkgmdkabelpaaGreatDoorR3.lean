/-
  Operations of a region in cuts; one that is carried out by hand. Over any program. No condition.
-/
import Derived.Test.YthlkgmdkabelpaaGreatDoorR1
namespace Go.Proofs.YthlkgmdkabelpaaGreatDoor.X
open Go Go.RowKit
set_option linter.unusedVariables false

section
variable {P : Program} {R : XK} {N : Nat} {m : Nat} {w0 : World} {all : Array Oper} {Q : Exit → Act → World → Prop}
theorem ops_ch (hR : RExt R) (hC : SimC P R) (hF : SimF P R) {l2 : List Oper} : ∀ {l : List Oper} {s s' : XS} {a : Act} {w : World}, opsX P R N none all l s = some (.code .norm s') → Ch P N w0 s a w →
    (∀ a' w', Ch P N w0 s' a' w' → wpListIn Fence.wide m P all Q l2 a' w') → wpListIn Fence.wide m P all Q (l ++ l2) a w
  | [], s, s', a, w, h, hc, hk => by cases h; exact hk a w hc
  | o :: l, s, s', a, w, h, hc, hk => by
    unfold opsX opsK at h
    refine wpListIn_step fun K hK => ?_
    split at h
    · rename_i s1 hq
      obtain ⟨ρ, h1, h2, h3, h4, h5, h6⟩ := hc
      refine op1_sim (rd := none) (rb := none) hR hC hF (show RdOk ρ none none from trivial) hq (fun n k _ => h4 n k) h1 h2 h3 (fun s2 e2 ρ' a' w' _ ho => ?_) (fun v s2 e2 => by cases e2)
      cases e2
      exact hK _ _ (ops_ch hR hC hF h (ch_step h4 h5 h6 ho) hk)
    · cases h
    · cases h
/-- a call of which something is known -/
theorem op_call {s : XS} {o : Oper} {f : FuncId} {args : List Value} {V : Value → Prop} {l : List Oper} {d : Tmp} {a : Act} {w : World} (hc : Ch P N w0 s a w) (hw : wantX all s.fr o = some true) (hd : o.dst = some d) (hdN : d < N)
    (hx : xop P s.fr s.W o.type o.op = some (.enter f args)) (hfl : args.all (flatN 8) = true) (he : Enters P f) (hcall : ∀ w, Calls P f args.toArray w fun e w' => ∃ v, e = .returned v ∧ V v ∧ Keeps noBlock w w')
    (hk : ∀ a' w' v, Ch P N w0 ⟨s.fr.set d none, s.W, s.ds⟩ a' w' → a'.tmps.getD d undef = v → V v → wpListIn Fence.wide m P all Q l a' w') : wpListIn Fence.wide m P all Q (o :: l) a w := by
  obtain ⟨ρ, h1, h2, h3, h4, h5, h6⟩ := hc
  refine wpListIn_step fun K hK => ?_
  rw [if_pos (wantX_sim h2 hw)]
  refine ⟨fun _ _ => trivial, ?_⟩
  have hsem : o.semAt (FW none).round a.eval = execOp a.eval o := rfl
  show o.uponIn Fence.wide m P a K Q ((execOp a.eval o).run P w)
  obtain ⟨args', hr, ha⟩ := xop_sim h1 h2.ev hx
  have e1 : args' = args := ha.of_flat 8 (by simpa using hfl)
  subst e1
  rw [hr, run_enter he, Oper.uponIn_enter]
  refine ⟨fun h => (by cases h), CallsIn.mono (callsIn_wide.2 (hcall w)) fun e w' ⟨v, hev, hV, hkp⟩ => ?_⟩
  subst hev
  refine hK _ _ (hk _ w' v ⟨ρ, h1.keep hkp, ?_, by rw [putX_defers]; exact h3, h4, h5.trans hkp, h6⟩ ?_ hV)
  · exact FR.putT (d := o.dst) (v := none) (u := v) h2 (fun x e => by cases e) (by rw [hd]; simp only [putX]; rw [blt_t hdN]; rfl)
  · rw [hd]
    have : d < a.tmps.size := by rw [h2.size]; exact hdN
    simp [Act.put, Array.getD, this]
/-- an operation whose value is known by hand -/
theorem op_hand {s : XS} {o : Oper} {u : Value} {l : List Oper} {d : Tmp} {a : Act} {w : World} (hc : Ch P N w0 s a w) (hw : wantX all s.fr o = some true) (hd : o.dst = some d) (hdN : d < N) (hu : flatN 8 u = true)
    (hrun : (execOp a.eval o).run P w = .ok (.value u) w) (hk : ∀ a' w', Ch P N w0 ⟨s.fr.set d (some u), s.W, s.ds⟩ a' w' → wpListIn Fence.wide m P all Q l a' w') : wpListIn Fence.wide m P all Q (o :: l) a w := by
  obtain ⟨ρ, h1, h2, h3, h4, h5, h6⟩ := hc
  refine wpListIn_step fun K hK => ?_
  rw [if_pos (wantX_sim h2 hw)]
  refine ⟨fun _ _ => trivial, ?_⟩
  show o.uponIn Fence.wide m P a K Q ((execOp a.eval o).run P w)
  rw [hrun]
  refine hK _ _ (hk _ w ⟨ρ, h1, ?_, by rw [putX_defers]; exact h3, h4, h5, h6⟩)
  exact FR.putT (d := o.dst) (v := some u) (u := u) h2 (fun x e => by cases e; exact .flat 8 _ hu) (by rw [hd]; simp only [putX]; rw [blt_t hdN]; rfl)
end
end Go.Proofs.YthlkgmdkabelpaaGreatDoor.X
