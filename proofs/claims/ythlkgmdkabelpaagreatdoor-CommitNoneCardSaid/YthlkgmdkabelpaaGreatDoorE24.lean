/-
  Deferred functions that recover first and then go on: carried out by the abstract machine too. Over any program. No condition.
-/
import Derived.Test.YthlkgmdkabelpaaGreatDoorE23
import Derived.RecoverIn
namespace Go.Proofs.YthlkgmdkabelpaaGreatDoor.X
open Go Go.RowKit
set_option linter.unusedVariables false

def recOf : Op → Bool
  | .call ⟨.builtin .recover, args, _⟩ => args.isEmpty
  | _ => false
def planK (ops : Array Oper) (rest : Code) : List Oper → Option (Array Oper × Oper × List Oper × Code)
  | o :: l => bif recOf o.op && o.guard.isNone then some (ops, o, l, rest) else none
  | [] => none
def plan : Code → Option (Array Oper × Oper × List Oper × Code)
  | .seq (.region _ ops false) rest => planK ops rest ops.toList
  | _ => none
def frS (W : XW) (ds : List XDef) : Option XF → Option XS
  | some fr => some ⟨fr, W, ds⟩
  | none => none
def valsK (N : Nat) (s : XS) (d : Option Tmp) : Option XR → Option XS
  | some (.val v) => frS s.W s.ds (putX N s.fr d v)
  | some (.new o k) => frS (s.W.push o) s.ds (putX N s.fr d (some (k s.W.next)))
  | some (.mod v W) => frS W s.ds (putX N s.fr d (some v))
  | _ => none
def opsV (P : Program) (N : Nat) : List Oper → XS → Option XS
  | [], s => some s
  | o :: l, s => bif o.guard.isNone then (match valsK N s o.dst (xop P s.fr s.W o.type o.op) with
    | some s' => opsV P N l s'
    | none => none) else none
def isEnd : XExit → Bool
  | .norm => true
  | .ret => true
  | _ => false
def dRunK : Option XO → Option (Option Value × XW)
  | some (.code e s) => bif isEnd e && s.ds.isEmpty then some (none, s.W) else none
  | _ => none
def dRun2 (R : XK) (N : Nat) (rest : Code) : Option XS → Option (Option Value × XW)
  | some s => dRunK (R (.code N none rest s))
  | none => none
def dRun1 (P : Program) (R : XK) (N : Nat) (W : XW) (l : List Oper) (rest : Code) : Option XF → Option (Option Value × XW)
  | some fr => dRun2 R N rest (opsV P N l ⟨fr, W, []⟩)
  | none => none
def dRunF (P : Program) (R : XK) (fn : Func) (args : List Value) (p : Option Value) (W : XW) : Option (Array Oper × Oper × List Oper × Code) → Option (Option Value × XW)
  | some (_, o, l, rest) => bif notNum fn && Nat.ble args.length fn.ntmps && fn.results.isEmpty then dRun1 P R fn.ntmps W l rest (putX fn.ntmps (frOf args) o.dst (some (p.getD .nilIface))) else none
  | none => none
def dRun (P : Program) (R : XK) (f : FuncId) (args : List Value) (p : Option Value) (W : XW) : Option (Option Value × XW) :=
  match P.funcs[f]? with
  | some fn => match fn.body with
    | some c => dRunF P R fn args p W (plan c)
    | none => none
  | none => none

section
variable {P : Program} {N : Nat}
theorem frS_some {W : XW} {ds : List XDef} {o : Option XF} {s : XS} (h : frS W ds o = some s) : o = some s.fr ∧ W = s.W ∧ ds = s.ds := by
  unfold frS at h
  split at h <;> cases h
  exact ⟨rfl, rfl, rfl⟩
theorem valsK_ext {s s' : XS} {d : Option Tmp} {x : Option XR} (hm : ∀ v W', x = some (.mod v W') → Ext s.W W') (h : valsK N s d x = some s') : Ext s.W s'.W := by
  unfold valsK at h
  split at h
  · obtain ⟨_, h2, _⟩ := frS_some h; rw [← h2]; exact .refl _
  · obtain ⟨_, h2, _⟩ := frS_some h; rw [← h2]; exact .push _ _
  · obtain ⟨_, h2, _⟩ := frS_some h; rw [← h2]; exact hm _ _ rfl
  · cases h
theorem opsV_ext : ∀ (l : List Oper) (s s' : XS), opsV P N l s = some s' → Ext s.W s'.W
  | [], s, s', h => by cases h; exact .refl _
  | o :: l, s, s', h => by
    unfold opsV at h
    cases hg : o.guard.isNone <;> rw [hg] at h
    · cases h
    · simp only [cond_true] at h
      split at h
      · rename_i s1 h1; exact (valsK_ext (fun v W' q => xop_ext q) h1).trans (opsV_ext l s1 s' h)
      · cases h
theorem vals_sim {ρ : Ren} {s s' : XS} {o : Oper} {x : XR} {a : Act} {w : World} (hX : XOk P ρ s.W w (execOp a.eval o) x) (h : valsK N s o.dst (some x) = some s') (hfr : Fresh ρ s.W.next s'.W.next)
    (hH : HR P ρ s.W.get w) (hFR : FR ρ N s.fr a.tmps) (hD : DRs ρ s.ds a.defers) : ∃ u w' ρ', Gives P (execOp a.eval o) w u w' ∧ OnR P ρ s.W w N s' ρ' (a.put o.dst u) w' := by
  cases x with
  | val v =>
    obtain ⟨u, hg, hv⟩ := hX
    obtain ⟨h1, h2, h3⟩ := frS_some h
    obtain ⟨fr', W', ds'⟩ := s'
    simp only at h1 h2 h3
    subst h2 h3
    exact ⟨u, w, ρ, hg, .refl _ _ _ _, hH, FR.putT hFR hv h1, by rw [putX_defers]; exact hD⟩
  | new ob k =>
    obtain ⟨h1, h2, h3⟩ := frS_some h
    obtain ⟨fr', W', ds'⟩ := s'
    simp only at h1 h2 h3
    subst h2 h3
    obtain ⟨u, ρ', w', hg, hs, hh, hv⟩ := hX (hfr _ (Nat.le_refl _) (Nat.lt_succ_self _))
    exact ⟨u, w', ρ', hg, hs, hh, FR.putT (hFR.mono hs.le) (fun x e => by cases e; exact hv) h1, by rw [putX_defers]; exact hD.mono hs.le⟩
  | mod v W1 =>
    obtain ⟨h1, h2, h3⟩ := frS_some h
    obtain ⟨fr', W', ds'⟩ := s'
    simp only at h1 h2 h3
    subst h2 h3
    obtain ⟨u, ρ', w', hg, hs, hh, hv⟩ := hX hfr
    exact ⟨u, w', ρ', hg, hs, hh, FR.putT (hFR.mono hs.le) (fun x e => by cases e; exact hv) h1, by rw [putX_defers]; exact hD.mono hs.le⟩
  | _ => cases h
theorem opsV_sim {ops : Array Oper} {m : Nat} {cs : List Frame} {Q : Exit → Act → List Frame → World → Prop} : ∀ (l : List Oper) (s s' : XS), opsV P N l s = some s' → ∀ (k : Nat), (∀ j, l[j]? = ops[k + j]?) →
    ∀ (ρ : Ren) (a : Act) (w : World), Fresh ρ s.W.next s'.W.next → HR P ρ s.W.get w → FR ρ N s.fr a.tmps → DRs ρ s.ds a.defers → (∀ ρ' a' w', OnR P ρ s.W w N s' ρ' a' w' → Q .normal a' cs w') →
    wpOpsSIn Fence.wide m P ops Q (List.range' k l.length) a cs w
  | [], s, s', h, k, hl, ρ, a, w, hfr, hH, hFR, hD, hQ => by
    cases h
    exact hQ ρ a w ⟨.refl _ _ _ _, hH, hFR, hD⟩
  | o :: l, s, s', h, k, hl, ρ, a, w, hfr, hH, hFR, hD, hQ => by
    have ho : ops[k]? = some o := by have := hl 0; simpa using this.symm
    unfold opsV at h
    cases hg : o.guard.isNone <;> rw [hg] at h
    · cases h
    simp only [cond_true] at h
    split at h
    · rename_i s1 h1
      have hw : Region.wanted o (yielded ops a.tmps) = true := by
        unfold Region.wanted
        cases e : o.guard with
        | none => rfl
        | some _ => rw [e] at hg; cases hg
      cases hx : xop P s.fr s.W o.type o.op with
      | none => rw [hx] at h1; cases h1
      | some x =>
        rw [hx] at h1
        have n1 : s.W.next ≤ s1.W.next := (valsK_ext (fun v W' q => by cases q; exact xop_ext hx) h1).next
        have n2 : s1.W.next ≤ s'.W.next := (opsV_ext l s1 s' h).next
        obtain ⟨u, w', ρ1, g1, g2, g3, g4, g5⟩ := vals_sim (xop_sim hH hFR.ev hx) h1 (hfr.left n2) hH hFR hD
        have ih := opsV_sim (m := m) (cs := cs) (Q := Q) l s1 s' h (k + 1) (fun j => by have := hl (j + 1); simpa [Nat.add_assoc, Nat.add_comm 1 j] using this) ρ1 (a.put o.dst u) w' (hfr.right g2) g3 g4 g5 fun ρ' a' w2 hq => hQ ρ' a' w2 (hq.trans' g2)
        show wpOpsSIn Fence.wide m P ops Q (k :: List.range' (k + 1) l.length) a cs w
        simp only [wpOpsSIn, ho, hw, if_true]
        refine ⟨fun _ _ => trivial, ?_⟩
        rcases g1 with g1 | ⟨g1, rfl⟩
        · rw [g1]; exact ih
        · rw [g1]; exact ih
    · cases h
theorem run_recover {o : Oper} {a : Act} {w : World} (h : recOf o.op = true) : (execOp a.eval o).run P w = .ok .recover w := by
  obtain ⟨dst, op, type, pos, after, guard⟩ := o
  unfold recOf at h
  split at h
  · rename_i args ats heq
    have : args = #[] := by simpa using h
    simp only at heq
    subst heq this
    rfl
  · cases h
theorem dRun_sim {R : XK} (hR : RExt R) (hC : SimC P R) {f : FuncId} {args : List Value} {p p' : Option Value} {W W' : XW} (h : dRun P R f args p W = some (p', W')) : Enters P f ∧ Ext W W' ∧ ∀ ρ args' w m u, Fresh ρ W.next W'.next → HR P ρ W.get w → VRs ρ args args' → PanR ρ p u →
    CallsDIn Fence.wide m P f args'.toArray u w fun en u' w' => (∃ v, en = .returned v) ∧ ∃ ρ', Step ρ W.get W.next w ρ' W'.get W'.next w' ∧ HR P ρ' W'.get w' ∧ PanR ρ' p' (settle u') := by
  unfold dRun at h
  split at h
  · rename_i fn hf
    split at h
    · rename_i c hb
      unfold dRunF at h
      split at h
      · rename_i _ ops o l rest hp
        cases hk : (notNum fn && Nat.ble args.length fn.ntmps && fn.results.isEmpty) <;> rw [hk] at h
        · cases h
        simp only [cond_true] at h
        simp only [Bool.and_eq_true] at hk
        obtain ⟨⟨hn, hlen⟩, hres⟩ := hk
        unfold plan at hp
        split at hp
        · rename_i id ops' rest'
          unfold planK at hp
          split at hp
          · rename_i o' l' hol
            cases hk2 : (recOf o'.op && o'.guard.isNone) <;> rw [hk2] at hp <;> cases hp
            simp only [Bool.and_eq_true] at hk2
            unfold dRun1 at h
            split at h
            · rename_i fr1 h1
              unfold dRun2 at h
              split at h
              · rename_i s1 h2
                unfold dRunK at h
                split at h
                · rename_i e s2 h3
                  cases hk3 : (isEnd e && s2.ds.isEmpty) <;> rw [hk3] at h <;> cases h
                  simp only [Bool.and_eq_true] at hk3
                  have x1 : Ext W s1.W := opsV_ext _ _ _ h2
                  have x2 : Ext s1.W s2.W := hR _ _ h3
                  refine ⟨⟨fn, hf, hn, by rw [hb]; rfl⟩, x1.trans x2, fun ρ args' w m u hfr hH hA hP => ?_⟩
                  refine callsDIn_of_wpSIn hf hb trivial fun c₀ cs hu => wpSIn_seq (wpSIn_region ?_)
                  have hsz : ops.size = l.length + 1 := by rw [← Array.length_toList, hol]; rfl
                  have ho0 : ops[0]? = some o := by rw [← Array.getElem?_toList, hol]; rfl
                  have hrg : List.range ops.size = 0 :: List.range' 1 l.length := by rw [hsz, List.range_eq_range']; rfl
                  have hw : ∀ t, Region.wanted o (yielded ops t) = true := fun t => by
                    unfold Region.wanted
                    cases e : o.guard with
                    | none => rfl
                    | some _ => rw [e] at hk2; cases hk2.2
                  have hds : s2.ds = [] := by simpa using hk3.2
                  -- behind the recover
                  have go : ∀ (v : Value) (u' : FrameMode), VR ρ (p.getD .nilIface) v → settle u' = .returning → wpOpsSIn Fence.wide m P ops (Exit.thenS (rest.wpSIn Fence.wide m P (bodyPostS P fn c₀ cs fun en u' w' => (∃ v, en = .returned v) ∧ ∃ ρ', Step ρ W.get W.next w ρ' s2.W.get s2.W.next w' ∧ HR P ρ' s2.W.get w' ∧ PanR ρ' none (settle u'))) (bodyPostS P fn c₀ cs fun en u' w' => (∃ v, en = .returned v) ∧ ∃ ρ', Step ρ W.get W.next w ρ' s2.W.get s2.W.next w' ∧ HR P ρ' s2.W.get w' ∧ PanR ρ' none (settle u')))
                      (List.range' 1 l.length) (({ tmps := args'.toArray ++ Array.replicate (fn.ntmps - args'.toArray.size) undef, defers := [] } : Act).put o.dst v) ({ c₀ with mode := u' } :: cs) w := fun v u' hv hset => by
                    refine opsV_sim l ⟨fr1, W, []⟩ s1 h2 1 (fun j => by rw [Nat.add_comm, ← Array.getElem?_toList, hol]; rfl) ρ _ w (hfr.left x2.next) hH (FR.putT (a := { tmps := _, defers := [] }) (frOf_sim hA (Nat.le_of_ble_eq_true hlen)) (fun x e => by cases e; exact hv) h1) (by rw [putX_defers]; exact .nil) fun ρ1 a1 w1 ho1 => ?_
                    obtain ⟨g1, g2, g3, g4⟩ := ho1
                    refine wpSIn_of_wpIn rfl (wpIn_mono (hC _ _ _ _ _ _ h3 ρ1 none a1 w1 m trivial (hfr.right g1) g2 g3 g4) fun ex a2 w2 hq => ?_)
                    obtain ⟨ρ2, ⟨k1, k2, k3, k4⟩, hex⟩ := hq
                    rw [hds] at k4
                    have kd : a2.defers = [] := by cases hdd : a2.defers with | nil => rfl | cons _ _ => rw [hdd] at k4; cases k4
                    have hr0 : resX P s2.W s2.fr fn.results.toList = some [] := by
                      have : fn.results = #[] := by simpa using hres
                      rw [this]; rfl
                    obtain ⟨r, q1, q2⟩ := results_sim k2 k3 hr0
                    have fin : a2.defers = [] ∧ ∃ u'', { c₀ with mode := u' } :: cs = { c₀ with mode := u'' } :: cs ∧ ∃ v, (results fn a2.tmps).run P w2 = .ok v w2 ∧ ((∃ v', Ending.returned v = .returned v') ∧ ∃ ρ', Step ρ W.get W.next w ρ' s2.W.get s2.W.next w2 ∧ HR P ρ' s2.W.get w2 ∧ PanR ρ' none (settle u'')) :=
                      ⟨kd, u', rfl, r, q1, ⟨_, rfl⟩, ρ2, g1.trans k1, k2, by rw [hset]; trivial⟩
                    cases ex <;> cases e <;> first | exact hex.elim | (cases hk3.1; done) | skip
                    · exact fin
                    · exact fin
                  rw [hrg]
                  simp only [wpOpsSIn, ho0, hw, if_true, run_recover hk2.1]
                  refine ⟨fun _ _ => trivial, ?_⟩
                  cases p with
                  | none =>
                    cases u <;> first | exact hP.elim | skip
                    have hrec : recoverD (c₀ :: cs) = none := by simp only [recoverD, hu]
                    rw [hrec]
                    have := go .nilIface .returning (.flat 1 _ rfl) rfl
                    have hc : ({ c₀ with mode := FrameMode.returning } : Frame) = c₀ := by rw [← hu]
                    rw [hc] at this
                    exact this
                  | some v =>
                    cases u <;> first | exact hP.elim | skip
                    obtain ⟨v', hv, rfl⟩ := hP
                    have hrec : recoverD (c₀ :: cs) = some (v', { c₀ with mode := .panicking [{ v := v', recovered := true }] } :: cs) := by simp only [recoverD, hu]
                    rw [hrec]
                    exact go v' _ hv rfl
                · cases h
              · cases h
            · cases h
          · cases hp
        · cases hp
      · cases h
    · cases h
  · cases h
end
end Go.Proofs.YthlkgmdkabelpaaGreatDoor.X
