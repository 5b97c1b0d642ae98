/-
  One operation of a region, carried out in the model as the abstract machine says; calls and rounds by what is known of them. Over any program. No condition.
-/
import Derived.Test.YthlkgmdkabelpaaGreatDoorE13
namespace Go.Proofs.YthlkgmdkabelpaaGreatDoor.X
open Go Go.RowKit
set_option linter.unusedVariables false

inductive DRs (ρ : Ren) : List XDef → List Deferred → Prop
  | nil : DRs ρ [] []
  | call (f : FuncId) (args cap args' cap' : List Value) (ds : List XDef) (ds' : List Deferred) (h1 : VRs ρ args args') (h2 : VRs ρ cap cap') (h : DRs ρ ds ds') :
      DRs ρ (.call f args cap :: ds) (⟨.fn (.func f) cap'.toArray, args'.toArray⟩ :: ds')
  | mark (r : Nat) (i : RI) (ds : List XDef) (ds' : List Deferred) (hr : ρ r = some i) (h : DRs ρ ds ds') : DRs ρ (.mark r :: ds) (⟨.collected i.b, #[]⟩ :: ds')
theorem DRs.mono {ρ ρ' : Ren} (hr : ρ.le ρ') : ∀ {ds : List XDef} {ds' : List Deferred}, DRs ρ ds ds' → DRs ρ' ds ds'
  | _, _, .nil => .nil
  | _, _, .call f a c a' c' ds ds' h1 h2 h => .call f a c a' c' ds ds' (h1.mono hr) (h2.mono hr) (h.mono hr)
  | _, _, .mark r i ds ds' hq h => .mark r i ds ds' (hr _ _ hq) (h.mono hr)
def ExR (ρ : Ren) : XExit → Exit → Prop
  | .norm, .normal => True
  | .exit i, .exit j => i = j
  | .ret, .ret => True
  | .pan v, .panic ch => ∃ v', VR ρ v v' ∧ ch = [{ v := v', recovered := false }]
  | _, _ => False
def EndR (ρ : Ren) : XEnd → Ending → Prop
  | .ret v, .returned v' => VR ρ v v'
  | .pan v, .panicked ch => ∃ v', VR ρ v v' ∧ ch = [{ v := v', recovered := false }]
  | _, _ => False
def RdOk (ρ : Ren) : Option Nat → Option Nat → Prop
  | none, none => True
  | some l, some b => ∃ i, ρ l = some i ∧ i.b = b
  | _, _ => False
theorem RdOk.mono {ρ ρ' : Ren} (hr : ρ.le ρ') {a b : Option Nat} (h : RdOk ρ a b) : RdOk ρ' a b := by
  cases a <;> cases b <;> first | exact h | (obtain ⟨i, h1, h2⟩ := h; exact ⟨i, hr _ _ h1, h2⟩)
def FW (rb : Option Nat) : Fence := { Fence.wide with round := rb }
def OnR (P : Program) (ρ : Ren) (W : XW) (w : World) (N : Nat) (s' : XS) (ρ' : Ren) (a' : Act) (w' : World) : Prop :=
  Step ρ W.get W.next w ρ' s'.W.get s'.W.next w' ∧ HR P ρ' s'.W.get w' ∧ FR ρ' N s'.fr a'.tmps ∧ DRs ρ' s'.ds a'.defers
def QX (P : Program) (ρ : Ren) (W : XW) (w : World) (N : Nat) (e : XExit) (s' : XS) (ex : Exit) (a' : Act) (w' : World) : Prop := ∃ ρ', OnR P ρ W w N s' ρ' a' w' ∧ ExR ρ' e ex
def QF (P : Program) (ρ : Ren) (W : XW) (w : World) (e : XEnd) (W' : XW) (en : Ending) (w' : World) : Prop :=
  ∃ ρ', Step ρ W.get W.next w ρ' W'.get W'.next w' ∧ HR P ρ' W'.get w' ∧ EndR ρ' e en
def Enters (P : Program) (f : FuncId) : Prop := ∃ fn, P.funcs[f]? = some fn ∧ notNum fn = true ∧ fn.body.isSome = true
def SimC (P : Program) (R : XK) : Prop := ∀ N rd c s e s', R (.code N rd c s) = some (.code e s') → ∀ ρ rb a w m, RdOk ρ rd rb → Fresh ρ s.W.next s'.W.next → HR P ρ s.W.get w →
  FR ρ N s.fr a.tmps → DRs ρ s.ds a.defers → c.wpIn (FW rb) m P (QX P ρ s.W w N e s') a w
def SimF (P : Program) (R : XK) : Prop := ∀ f args W e W', R (.call f args W) = some (.fin e W') → Enters P f ∧ ∀ ρ args' w m, Fresh ρ W.next W'.next → HR P ρ W.get w → VRs ρ args args' →
  CallsIn Fence.wide m P f args'.toArray w (QF P ρ W w e W')

section
variable {P : Program} {ρ : Ren} {N : Nat}
theorem run_enter {f : FuncId} {args : Array Value} {w : World} (h : Enters P f) : (callFunc f args).run P w = .ok (.enter f args) w := by
  obtain ⟨fn, h1, h2, h3⟩ := h
  unfold callFunc
  rw [Sem.run_bind, run_prog, Result.andThen_ok, h1]
  simp only
  unfold notNum at h2
  have h2 : (fn.name == "runtime.NumGoroutine") = false := by simpa using h2
  have h3 : fn.body.isNone = false := by cases e : fn.body <;> rw [e] at h3 <;> first | rfl | cases h3
  rw [if_neg (by rw [h2]; exact Bool.false_ne_true), if_neg (by rw [h3]; exact Bool.false_ne_true)]
  rfl
theorem callsIn_round {rb : Option Nat} {m : Nat} {f : FuncId} {args : Array Value} {w : World} {R : Ending → World → Prop} (h : CallsIn Fence.wide m P f args w R) : CallsIn (FW rb) m P f args w R := h
theorem FR.putT {fr fr' : XF} {a : Act} {d : Option Tmp} {v : Option Value} {u : Value} (h : FR ρ N fr a.tmps) (hv : ∀ x, v = some x → VR ρ x u) (hp : putX N fr d v = some fr') : FR ρ N fr' (a.put d u).tmps := by
  unfold putX at hp
  split at hp
  · cases hp; exact h
  · rename_i t
    cases ht : Nat.blt t N with
    | false => rw [ht] at hp; cases hp
    | true =>
      rw [ht] at hp
      cases hp
      have hlt : t < N := blt_iff.1 ht
      refine ⟨by simpa [Act.put] using h.size, fun n x hx => ?_⟩
      simp only [Act.put]
      rcases PT.set_some hx with ⟨rfl, hq⟩ | ⟨hne, hq⟩
      · have : n < a.tmps.size := by rw [h.size]; exact hlt
        simpa [Array.getD, this] using hv x hq
      · have := h.rep n x hq
        have e : (a.tmps.setIfInBounds t u).getD n undef = a.tmps.getD n undef := by
          simp only [Array.getD_eq_getD_getElem?, Array.getElem?_setIfInBounds_ne (Ne.symm hne)]
        rw [e]
        exact this
theorem putX_defers (a : Act) (d : Option Tmp) (u : Value) : (a.put d u).defers = a.defers := by cases d <;> rfl
theorem onK_some {W : XW} {ds : List XDef} {o : Option XF} {r : O1} (h : onK W ds o = some r) : ∃ fr', o = some fr' ∧ r = .on ⟨fr', W, ds⟩ := by
  unfold onK at h
  split at h <;> cases h
  exact ⟨_, rfl, rfl⟩
theorem gives_upon {rb : Option Nat} {m : Nat} {o : Oper} {a : Act} {w w' : World} {u : Value} {K : Act → World → Prop} {Q : Exit → Act → World → Prop} {S : Sem Next} (h : Gives P S w u w') (hk : K (a.put o.dst u) w') :
    o.uponIn (FW rb) m P a K Q (S.run P w) := by
  rcases h with h | ⟨h, rfl⟩ <;> (rw [h]; exact hk)

theorem semAt_of {o : Oper} {rd rb : Option Nat} {e : Operand → Value} (hrd : RdOk ρ rd rb) (h : rd = none ∨ ∀ c, o.op ≠ .defer c) : o.semAt rb e = execOp e o := by
  cases rb with
  | none => rfl
  | some b =>
    rcases h with rfl | h
    · exact hrd.elim
    · exact Oper.semAt_eq _ _ _ h
theorem xop_defer {fr : XF} {W : XW} {ty : TypeId} {c : Call} {r : XR} (h : xop P fr W ty (.defer c) = some r) : ∃ f args cap, r = .defer f args cap := by
  simp only [xop, defX] at h
  split at h
  · unfold defV at h
    split at h
    · cases h; exact ⟨_, _, _, rfl⟩
    · cases h
  · cases h

/-! ### rounds -/
theorem run_getLoop {w : World} {b : Nat} {r : Loop} (h : w.heap[b]? = some (.loop r)) : (Instr.getLoop b).run P w = .ok r w := by
  unfold Instr.getLoop
  rw [Sem.run_bind]
  simp only [getObj, Sem.run, h, Result.andThen_ok]
  rfl
theorem run_setLoop {w : World} {b : Nat} {r : Loop} {o : Obj} (h : w.heap[b]? = some (.loop r)) : (setObj b o).run P w = .ok () (setO w b o) := by
  simp only [setObj, Sem.run, h, setO]
theorem run_beginRound {w : World} {b : Nat} {r : Loop} (h : w.heap[b]? = some (.loop r)) (hs : r.state = .ready) : (Instr.beginRound b).run P w = .ok () (setO w b (.loop { r with state := .busy })) := by
  unfold Instr.beginRound
  rw [Sem.run_bind, run_getLoop h, Result.andThen_ok, Sem.run_bind, run_setLoop h, Result.andThen_ok, hs]
  rfl
theorem run_endRound {w : World} {b : Nat} {r : Loop} (j : Option Code) (h : w.heap[b]? = some (.loop r)) : (Instr.endRound b j).run P w = .ok (.bool j.isNone) (setO w b (.loop { r with state := if j.isNone then .ready else .done, pending := j })) := by
  unfold Instr.endRound
  rw [Sem.run_bind, run_getLoop h, Result.andThen_ok, Sem.run_bind, run_setLoop h, Result.andThen_ok]
  rfl
theorem run_endLoop {w : World} {b : Nat} {r : Loop} (h : w.heap[b]? = some (.loop r)) (hs : (r.state == .busy) = false) : (Instr.endLoop b).run P w = .ok r.pending (setO w b (.loop { r with state := .exhausted })) := by
  unfold Instr.endLoop
  rw [Sem.run_bind, run_getLoop h, Result.andThen_ok, hs]
  rw [if_neg Bool.false_ne_true]
  show Sem.run P (do setObj b _; pure r.pending) w = _
  rw [Sem.run_bind, run_setLoop h, Result.andThen_ok]
  rfl
theorem putArgs_sim : ∀ {ps : List Tmp} {vs us : List Value} {fr fr' : XF} {tm : Array Value}, FR ρ N fr tm → VRs ρ vs us → putArgs N fr ps vs = some fr' →
    FR ρ N fr' ((ps.zip us).foldl (fun tmps (t, a) => tmps.setIfInBounds t a) tm) ∧ us.length = ps.length
  | [], _, _, fr, fr', tm, hF, .nil, h => by cases h; exact ⟨hF, rfl⟩
  | [], _, _, fr, fr', tm, hF, .cons v u vs us hv hs, h => by cases h
  | t :: ps, _, _, fr, fr', tm, hF, .nil, h => by cases h
  | t :: ps, _, _, fr, fr', tm, hF, .cons v u vs us hv hs, h => by
    unfold putArgs at h
    split at h
    · rename_i fr1 h1
      have := FR.putT (a := { tmps := tm, defers := [] }) (u := u) hF (fun x e => by cases e; exact hv) h1
      obtain ⟨q1, q2⟩ := putArgs_sim this hs h
      exact ⟨q1, by simp [q2]⟩
    · cases h
end
end Go.Proofs.YthlkgmdkabelpaaGreatDoor.X
