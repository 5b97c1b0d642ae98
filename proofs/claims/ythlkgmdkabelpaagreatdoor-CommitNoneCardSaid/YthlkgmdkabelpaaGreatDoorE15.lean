/-
  Rounds of a range over a function, and one operation with what follows it: as the abstract machine says. Over any program. No condition.
-/
import Derived.Test.YthlkgmdkabelpaaGreatDoorE14
namespace Go.Proofs.YthlkgmdkabelpaaGreatDoor.X
open Go Go.RowKit
set_option linter.unusedVariables false

section
variable {P : Program} {ρ : Ren} {N : Nat} {R : XK}
theorem endRound_sim {W : XW} {w : World} {lp : Nat} {i : RI} {st0 : LoopState} {pd0 : Option Code} {tm : XF} {N' : Nat} {ps : List Tmp} {asg body : Code} {df : Nat} (hH : HR P ρ W.get w) (hi : ρ lp = some i)
    (hg : W.get lp = some (.loop st0 pd0 tm N' ps asg body df)) (j : Option Code) :
    ∃ w3, (Instr.endRound i.b j).run P w = .ok (.bool j.isNone) w3 ∧ HR P ρ (W.put lp (some (.loop (if j.isNone then .ready else .done) j tm N' ps asg body df))).get w3 ∧
      Step ρ W.get W.next w ρ (W.put lp (some (.loop (if j.isNone then .ready else .done) j tm N' ps asg body df))).get W.next w3 := by
  obtain ⟨ob, hb, hor⟩ := hH.obj lp i _ hi hg
  cases hor with
  | loop _ _ _ _ _ _ _ _ q fn tmps hd hFt =>
    obtain ⟨p1, p2⟩ := hH.put hi (by rw [hg]; simp) (.loop (if j.isNone then .ready else .done) j tm N' ps asg body df) (setO_keep w i.b _) (setO_at hb) (.loop _ j tm N' ps asg body df q fn tmps hd hFt)
    exact ⟨_, run_endRound j hb, p1, p2⟩
theorem rd_sim (hR : RExt R) (hC : SimC P R) {fr : XF} {ds : List XDef} {lp : Nat} {args args' : List Value} {W : XW} {w : World} {i : RI} {r : O1} {a : Act} {rb : Option Nat} {m : Nat} {K : Act → World → Prop} {Q : Exit → Act → World → Prop} {o : Oper}
    (h : rdK R N fr o.dst ds lp args W (W.get lp) = some r) (hi : ρ lp = some i) (hH : HR P ρ W.get w) (hargs : VRs ρ args args') (hF : FR ρ N fr a.tmps) (hD : DRs ρ ds a.defers) (hfr : Fresh ρ W.next r.W.next)
    (hK : ∀ s', r = .on s' → ∀ ρ' a' w', (∃ u, a'.tmps = (a.put o.dst u).tmps) → OnR P ρ W w N s' ρ' a' w' → K a' w') : o.uponIn (FW rb) m P a K Q ((Instr.yield i.b args'.toArray).run P w) := by
  unfold rdK at h
  split at h
  · rename_i pend tm N' ps asg body df hg
    obtain ⟨ob, hb, hor⟩ := hH.obj lp i _ hi hg
    cases hor with
    | loop _ _ _ _ _ _ _ _ q fn tmps hd hFt =>
      unfold rdK1 at h
      split at h
      · rename_i fr1 h1
        obtain ⟨hF1, hlen⟩ := putArgs_sim hFt hargs h1
        have hy : (Instr.yield i.b args'.toArray).run P w = .ok (.round i.b fn ((ps.zip args').foldl (fun tmps (t, a) => tmps.setIfInBounds t a) tmps) asg body) w := by
          unfold Instr.yield
          rw [Sem.run_bind, run_getLoop hb, Result.andThen_ok]
          simp only [List.size_toArray]
          rw [if_neg (by rw [hlen]; exact fun e => e rfl)]
          show Result.ok (Next.round _ _ _ _ _) w = _
          congr 2
          simp
        rw [hy, Oper.uponIn_round]
        refine ⟨fun h => (by cases h), roundIn_of_wpIn (F := FW rb) trivial ?_⟩
        unfold rdK2 at h
        split at h
        · rename_i s1 hq1
          unfold rdK3 at h
          split at h
          · rename_i pend2 tm2 N2 ps2 asg2 body2 df2 hg2
            unfold rdK4 at h
            split at h
            · rename_i e s2 hq2
              unfold rdK5 at h
              split at h
              · rename_i st pd rr st3 pd3 tm3 N3 ps3 asg3 body3 df3 hj hg3
                obtain ⟨fr', hp, rfl⟩ := onK_some h
                have n1 : W.next ≤ s1.W.next := (hR _ _ hq1).next
                have n2 : s1.W.next ≤ s2.W.next := (hR _ _ hq2).next
                have hfr : Fresh ρ W.next s2.W.next := hfr
                refine wpIn_mono (hC _ _ _ _ _ _ hq1 ρ (some i.b) { tmps := _, defers := [] } w _ ⟨i, hi, rfl⟩ (hfr.left n2) hH hF1 .nil) ?_
                intro ex a1 w1 hq
                obtain ⟨ρ1, ⟨hs1, hH1, hF1', hD1⟩, hex⟩ := hq
                cases ex <;> first | exact hex.elim | skip
                have hi1 := hs1.le _ _ hi
                obtain ⟨ob1, hb1, hor1⟩ := hH1.obj lp i _ hi1 hg2
                cases hor1 with
                | loop _ _ _ _ _ _ _ _ q1 fn1 tmps1 hd1 hFt1 =>
                  refine ⟨_, run_beginRound hb1 rfl, ?_⟩
                  obtain ⟨p1, p2⟩ := hH1.put hi1 (by rw [hg2]; simp) (.loop .busy pend2 tm2 N2 ps2 asg2 body2 df2) (setO_keep w1 i.b _) (setO_at hb1) (.loop _ _ tm2 N2 ps2 asg2 body2 df2 q1 fn1 tmps1 hd1 hFt1)
                  refine wpIn_mono (hC _ _ _ _ _ _ hq2 ρ1 (some i.b) a1 _ _ ⟨i, hi1, rfl⟩ (hfr.right hs1) p1 hF1' hD1) ?_
                  intro ex2 a2 w2 hq'
                  obtain ⟨ρ2, ⟨hs2, hH2, hF2, hD2⟩, hex2⟩ := hq'
                  have hi2 := hs2.le _ _ hi1
                  have hst := (hs1.trans p2).trans hs2
                  have fin : ∀ (j : Option Code), st = (if j.isNone then .ready else .done) → pd = j → rr = j.isNone →
                      ∃ v w', (Instr.endRound i.b j).run P w2 = .ok v w' ∧ K (a.put o.dst v) w' := fun j e1 e2 e3 => by
                    subst e1 e2 e3
                    obtain ⟨w3, q1, q2, q3⟩ := endRound_sim hH2 hi2 hg3 pd
                    exact ⟨_, w3, q1, hK _ rfl ρ2 _ w3 ⟨_, rfl⟩ ⟨hst.trans q3, q2, FR.putT (hF.mono hst.le) (fun x e => by cases e; exact .flat 1 _ rfl) hp, by rw [putX_defers]; exact hD.mono hst.le⟩⟩
                  cases e <;> cases ex2 <;> first | exact hex2.elim | skip
                  · cases hj; exact fin none rfl rfl rfl
                  · have hex2 := hex2
                    simp only [ExR] at hex2
                    subst hex2
                    cases hj; exact fin (some (.exit _)) rfl rfl rfl
                  · cases hj; exact fin (some .ret) rfl rfl rfl
                  · cases hj
              · cases h
            · cases h
          · cases h
        · cases h
      · cases h
  · cases h

theorem wantX_sim {all : Array Oper} {fr : XF} {tm : Array Value} {o : Oper} {b : Bool} (hF : FR ρ N fr tm) (h : wantX all fr o = some b) : Region.wanted o (yielded all tm) = b := by
  unfold wantX at h
  unfold Region.wanted
  cases hg : o.guard with
  | none => rw [hg] at h; cases h; rfl
  | some jw =>
    obtain ⟨j, w⟩ := jw
    rw [hg] at h
    simp only at h ⊢
    unfold yielded
    cases ht : (all[j]?).bind (·.dst) with
    | none => rw [ht] at h; cases h
    | some t =>
      rw [ht] at h
      simp only at h
      cases hv : fr.get t with
      | none => rw [hv] at h; cases h
      | some v =>
        rw [hv] at h
        have hr := hF.rep t v hv
        simp only [Option.bind_some]
        cases v with
        | bool c =>
          have e : tm.getD t undef = .bool c := hr.of_flat 1 rfl
          have e2 : tm[t]? = some (.bool c) := by
            rw [Array.getD_eq_getD_getElem?] at e
            cases q : tm[t]? with
            | none => rw [q] at e; cases e
            | some u => rw [q] at e; simp at e; rw [e]
          rw [e2]
          simp only [wantV, Option.some.injEq] at h
          subst h
          cases c <;> cases w <;> rfl
        | _ =>
          simp only [wantV, Option.some.injEq] at h
          subst h
          have hn : ∀ c, tm[t]? ≠ some (.bool c) := fun c q => by
            have e : tm.getD t undef = .bool c := by rw [Array.getD_eq_getD_getElem?, q]; rfl
            rw [e] at hr
            cases hr
          cases q : tm[t]? with
          | none => rfl
          | some u => cases u <;> first | rfl | exact absurd q (hn _)
theorem opK_sim (hR : RExt R) (hC : SimC P R) (hF : SimF P R) {rd rb : Option Nat} {s : XS} {o : Oper} {x : XR} {r : O1} {a : Act} {w : World} {m : Nat} {K : Act → World → Prop} {Q : Exit → Act → World → Prop}
    (hrd : RdOk ρ rd rb) (hd : rd = none ∨ ∀ c, o.op ≠ .defer c) (hX : XOk P ρ s.W w (execOp a.eval o) x) (h : opK R N rd s o.dst (some x) = some r) (hfr : Fresh ρ s.W.next r.W.next)
    (hH : HR P ρ s.W.get w) (hFR : FR ρ N s.fr a.tmps) (hD : DRs ρ s.ds a.defers)
    (hK : ∀ s', r = .on s' → ∀ ρ' a' w', (∃ u, a'.tmps = (a.put o.dst u).tmps) → OnR P ρ s.W w N s' ρ' a' w' → K a' w')
    (hQ : ∀ v s', r = .out v s' → ∀ ρ' ex a' w', OnR P ρ s.W w N s' ρ' a' w' → ExR ρ' (.pan v) ex → Q ex a' w') : o.wpIn (FW rb) m P a w K Q := by
  refine ⟨fun _ _ => trivial, ?_⟩
  have hsem : o.semAt (FW rb).round a.eval = execOp a.eval o := semAt_of hrd hd
  rw [hsem]
  cases x with
  | val v =>
    obtain ⟨u, hg, hv⟩ := hX
    obtain ⟨fr', hp, rfl⟩ := onK_some h
    exact gives_upon hg (hK _ rfl ρ _ _ ⟨_, rfl⟩ ⟨.refl _ _ _ _, hH, FR.putT hFR hv hp, by rw [putX_defers]; exact hD⟩)
  | new ob k =>
    obtain ⟨fr', hp, rfl⟩ := onK_some h
    obtain ⟨u, ρ', w', hg, hs, hh, hv⟩ := hX (hfr _ (Nat.le_refl _) (Nat.lt_succ_self _))
    exact gives_upon hg (hK _ rfl ρ' _ _ ⟨_, rfl⟩ ⟨hs, hh, FR.putT (hFR.mono hs.le) (fun x e => by cases e; exact hv) hp, by rw [putX_defers]; exact hD.mono hs.le⟩)
  | mod v W' =>
    obtain ⟨fr', hp, rfl⟩ := onK_some h
    obtain ⟨u, ρ', w', hg, hs, hh, hv⟩ := hX hfr
    exact gives_upon hg (hK _ rfl ρ' _ _ ⟨_, rfl⟩ ⟨hs, hh, FR.putT (hFR.mono hs.le) (fun x e => by cases e; exact hv) hp, by rw [putX_defers]; exact hD.mono hs.le⟩)
  | pan v =>
    cases h
    obtain ⟨v', hr, hv⟩ := hX
    rw [hr]
    exact hQ _ _ rfl ρ _ a w ⟨.refl _ _ _ _, hH, hFR, hD⟩ ⟨v', hv, rfl⟩
  | «defer» f args cap =>
    obtain ⟨as', cs', hr, h1, h2⟩ := hX
    cases rd with
    | some l => cases h
    | none =>
      obtain ⟨fr', hp, rfl⟩ := onK_some h
      rw [hr]
      refine hK _ rfl ρ _ w ⟨undef, by cases o.dst <;> rfl⟩ ⟨.refl _ _ _ _, hH, ?_, ?_⟩
      · exact FR.putT (a := { a with defers := _ :: a.defers }) hFR (fun x e => by cases e; exact vr_undef) hp
      · rw [putX_defers]; exact .call _ _ _ _ _ _ _ h1 h2 hD
  | enter f args =>
    obtain ⟨args', hr, ha⟩ := hX
    rw [hr]
    have h : callK N s.fr o.dst s.ds (R (.call f args s.W)) = some r := h
    unfold callK at h
    split at h
    · rename_i v W1 hq
      obtain ⟨fr', hp, rfl⟩ := onK_some h
      obtain ⟨he, hc⟩ := hF _ _ _ _ _ hq
      rw [run_enter he, Oper.uponIn_enter]
      refine ⟨fun h => (by cases h), CallsIn.mono (hc ρ args' w (m - 1) hfr hH ha) fun en w' hq => ?_⟩
      obtain ⟨ρ', hs, hh, hen⟩ := hq
      cases en <;> first | exact hen.elim | skip
      exact hK _ rfl ρ' _ _ ⟨_, rfl⟩ ⟨hs, hh, FR.putT (hFR.mono hs.le) (fun x e => by cases e; exact hen) hp, by rw [putX_defers]; exact hD.mono hs.le⟩
    · rename_i v W1 hq
      cases h
      obtain ⟨he, hc⟩ := hF _ _ _ _ _ hq
      rw [run_enter he, Oper.uponIn_enter]
      refine ⟨fun h => (by cases h), CallsIn.mono (hc ρ args' w (m - 1) hfr hH ha) fun en w' hq => ?_⟩
      obtain ⟨ρ', hs, hh, hen⟩ := hq
      cases en <;> first | exact hen.elim | skip
      exact hQ _ _ rfl ρ' _ a w' ⟨hs, hh, hFR.mono hs.le, hD.mono hs.le⟩ hen
    · cases h
  | round l args =>
    obtain ⟨i, args', hi, hr, ha⟩ := hX
    rw [hr]
    exact rd_sim hR hC h hi hH ha hFR hD hfr hK
theorem op1_sim (hR : RExt R) (hC : SimC P R) (hF : SimF P R) {all : Array Oper} {rd rb : Option Nat} {s : XS} {o : Oper} {r : O1} {a : Act} {w : World} {m : Nat} {K : Act → World → Prop} {Q : Exit → Act → World → Prop}
    (hrd : RdOk ρ rd rb) (h : op1 P R N rd all s o = some r) (hfr : Fresh ρ s.W.next r.W.next) (hH : HR P ρ s.W.get w) (hFR : FR ρ N s.fr a.tmps) (hD : DRs ρ s.ds a.defers)
    (hK : ∀ s', r = .on s' → ∀ ρ' a' w', (∃ u, a'.tmps = (a.put o.dst u).tmps) → OnR P ρ s.W w N s' ρ' a' w' → K a' w')
    (hQ : ∀ v s', r = .out v s' → ∀ ρ' ex a' w', OnR P ρ s.W w N s' ρ' a' w' → ExR ρ' (.pan v) ex → Q ex a' w') :
    if Region.wanted o (yielded all a.tmps) = true then o.wpIn (FW rb) m P a w K Q else (∀ f, o.about P w a.eval = some f → (FW rb).fn f) ∧ K (a.put o.dst undef) w := by
  unfold op1 wantK at h
  split at h
  · rename_i hw
    rw [if_pos (wantX_sim hFR hw)]
    cases hx : xop P s.fr s.W o.type o.op with
    | none => rw [hx] at h; cases h
    | some x =>
      rw [hx] at h
      refine opK_sim hR hC hF hrd ?_ (xop_sim hH hFR.ev hx) h hfr hH hFR hD hK hQ
      cases rd with
      | none => exact .inl rfl
      | some l =>
        refine .inr fun c hc => ?_
        rw [hc] at hx
        obtain ⟨f, as, cap, rfl⟩ := xop_defer hx
        cases h
  · rename_i hw
    rw [if_neg (by rw [wantX_sim hFR hw]; exact Bool.false_ne_true)]
    obtain ⟨fr', hp, rfl⟩ := onK_some h
    exact ⟨fun _ _ => trivial, hK _ rfl ρ _ _ ⟨_, rfl⟩ ⟨.refl _ _ _ _, hH, FR.putT hFR (fun x e => by cases e; exact vr_undef) hp, by rw [putX_defers]; exact hD⟩⟩
  · cases h
theorem OnR.trans' {W W1 : XW} {w w1 : World} {s' : XS} {ρ1 ρ2 : Ren} {a' : Act} {w' : World} (k : OnR P ρ1 W1 w1 N s' ρ2 a' w') (h : Step ρ W.get W.next w ρ1 W1.get W1.next w1) : OnR P ρ W w N s' ρ2 a' w' :=
  ⟨h.trans k.1, k.2⟩
theorem opsX_sim (hR : RExt R) (hC : SimC P R) (hF : SimF P R) {all : Array Oper} {rd rb : Option Nat} {m : Nat} {Q : Exit → Act → World → Prop} : ∀ (l : List Oper) (s : XS) (e : XExit) (s' : XS), opsX P R N rd all l s = some (.code e s') →
    ∀ (ρ : Ren) (a : Act) (w : World), RdOk ρ rd rb → Fresh ρ s.W.next s'.W.next → HR P ρ s.W.get w → FR ρ N s.fr a.tmps → DRs ρ s.ds a.defers → (∀ ex a' w', QX P ρ s.W w N e s' ex a' w' → Q ex a' w') → wpListIn (FW rb) m P all Q l a w
  | [], s, e, s', h, ρ, a, w, hrd, hfr, hH, hFR, hD, hQ => by
    cases h
    exact hQ .normal a w ⟨ρ, ⟨.refl _ _ _ _, hH, hFR, hD⟩, trivial⟩
  | o :: l, s, e, s', h, ρ, a, w, hrd, hfr, hH, hFR, hD, hQ => by
    unfold opsX opsK at h
    refine wpListIn_step fun K hK => ?_
    split at h
    · rename_i s1 hq
      have n1 : s.W.next ≤ s1.W.next := (op1_ext hR hq).next
      have n2 : s1.W.next ≤ s'.W.next := (opsX_ext hR _ _ _ h).next
      refine op1_sim hR hC hF hrd hq (hfr.left n2) hH hFR hD (fun s2 e2 ρ' a' w' _ ho => ?_) (fun v s2 e2 => by cases e2)
      cases e2
      obtain ⟨h1, h2, h3, h4⟩ := ho
      refine hK _ _ (opsX_sim hR hC hF l s1 e s' h ρ' a' w' (hrd.mono h1.le) (hfr.right h1) h2 h3 h4 fun ex a2 w2 hx => ?_)
      obtain ⟨ρ2, k1, k2⟩ := hx
      exact hQ _ _ _ ⟨ρ2, k1.trans' h1, k2⟩
    · rename_i v s1 hq
      cases h
      exact op1_sim hR hC hF hrd hq hfr hH hFR hD (fun s2 e2 => by cases e2) (fun v s2 e2 ρ' ex a' w' ho hx => by cases e2; exact hQ _ _ _ ⟨ρ', ho, hx⟩)
    · cases h
end
end Go.Proofs.YthlkgmdkabelpaaGreatDoor.X
