/-
  Code, as the abstract machine says; drawn regions are taken as known. Over any program. No condition.
-/
import Derived.Test.YthlkgmdkabelpaaGreatDoorE15
namespace Go.Proofs.YthlkgmdkabelpaaGreatDoor.X
open Go Go.RowKit
set_option linter.unusedVariables false

/-- a loop that has been entered -/
def LoopW (F : Fence) (n : Nat) (P : Program) (c : Code) (Q : Exit → Act → World → Prop) (a : Act) (w : World) : Prop :=
  ∀ (b : Frame) (k : List Item) (cs : List Frame), b.roundOf = F.round → F.fn b.fn → F.room (cs.length + 1 + n) →
    ∃ e a' w', Q e a' w' ∧ ArrivesIn (Machine.fenced P F) P (lone (b.atR a (.code c :: .inLoop c :: k)) cs w) b k cs e a' w'
section
variable {F : Fence} {n : Nat} {P : Program} {c : Code} {Q : Exit → Act → World → Prop} {a : Act} {w : World}
theorem loopW_step (h : c.wpIn F n P (Exit.then (LoopW F n P c Q) Q) a w) : LoopW F n P c Q a w := by
  intro b k cs hro hb hr
  obtain ⟨e, a₁, w₁, hq, harr⟩ := h b (.inLoop c :: k) cs hro hb hr
  cases e with
  | normal =>
    obtain ⟨e₂, a₂, w₂, hq₂, harr₂⟩ := hq b k cs hro hb hr
    exact ⟨e₂, a₂, w₂, hq₂, .of_steps (StepsIn.trans harr (.one (fenced_calm hb hr rfl) stepR_inLoop)) harr₂⟩
  | exit id => exact ⟨_, a₁, w₁, hq, .pass (x := .inLoop c) rfl (fun _ _ => .inl (by simp)) harr⟩
  | goto l => exact ⟨_, a₁, w₁, hq, .pass (x := .inLoop c) rfl (fun _ _ => .inl (by simp)) harr⟩
  | ret => exact ⟨_, a₁, w₁, hq, .pass (x := .inLoop c) rfl (fun _ _ => .inl (by simp)) harr⟩
  | panic ch => exact ⟨_, a₁, w₁, hq, .pass (x := .inLoop c) rfl (fun _ _ => .inl (by simp)) harr⟩
  | outgrown => exact ⟨_, a₁, w₁, hq, .pass (x := .inLoop c) rfl (fun _ _ => .inl (by simp)) harr⟩
theorem loopW_wp (h : LoopW F n P c Q a w) : (Code.loop c).wpIn F n P Q a w := by
  intro b k cs hro hb hr
  obtain ⟨e, a', w', hq, harr⟩ := h b k cs hro hb hr
  exact ⟨e, a', w', hq, .of_steps (.one (fenced_calm hb hr rfl) stepR_loop) harr⟩
theorem loopW_mono {Q' : Exit → Act → World → Prop} (h : LoopW F n P c Q a w) (hq : ∀ e a w, Q e a w → Q' e a w) : LoopW F n P c Q' a w := fun b k cs hro hb hr =>
  let ⟨e, a', w', q, r⟩ := h b k cs hro hb hr
  ⟨e, a', w', hq _ _ _ q, r⟩
end
def SimL (P : Program) (R : XK) : Prop := ∀ N rd b s e s', R (.code N rd (.loop b) s) = some (.code e s') → ∀ ρ rb a w m, RdOk ρ rd rb → Fresh ρ s.W.next s'.W.next → HR P ρ s.W.get w →
  FR ρ N s.fr a.tmps → DRs ρ s.ds a.defers → LoopW (FW rb) m P b (QX P ρ s.W w N e s') a w
/-- drawn regions -/
def SimD (P : Program) (R : XK) : Prop := ∀ N rd id ops s rs s', traceX P R N rd ops ops.toList s = some (rs, s') → okD P ops s.ds.length rs = true → ∀ ρ rb a w m, RdOk ρ rd rb → Fresh ρ s.W.next s'.W.next → HR P ρ s.W.get w →
  FR ρ N s.fr a.tmps → DRs ρ s.ds a.defers → (Code.region id ops true).wpIn (FW rb) m P (QX P ρ s.W w N .norm s') a w

section
variable {P : Program} {ρ : Ren} {N : Nat} {R : XK}
theorem QX.trans' {W W1 : XW} {w w1 : World} {e : XExit} {s' : XS} {ρ1 : Ren} {ex : Exit} {a' : Act} {w' : World} (k : QX P ρ1 W1 w1 N e s' ex a' w') (h : Step ρ W.get W.next w ρ1 W1.get W1.next w1) : QX P ρ W w N e s' ex a' w' := by
  obtain ⟨ρ2, k1, k2⟩ := k
  exact ⟨ρ2, k1.trans' h, k2⟩
/-- the entering of a range over a function -/
theorem enter_sim {s : XS} {rd rb : Option Nat} {a : Act} {w : World} {fn : FuncId} {ps : List Tmp} {asg body : Code} {d : Nat} {mk : List XDef} {W1 : XW} (hrd : RdOk ρ rd rb) (he : enterX s.W rd = some (d, mk, W1))
    (hfr : Fresh ρ s.W.next (W1.next + 1)) (hH : HR P ρ s.W.get w) (hFR : FR ρ N s.fr a.tmps) :
    ∃ l mark w2 ρ2 i2, (Instr.enterLoop fn a.tmps ps.toArray asg body rb).run P w = .ok (l, mark) w2 ∧ HR P ρ2 (W1.push (.loop .ready none s.fr N ps asg body d)).get w2 ∧
      Step ρ s.W.get s.W.next w ρ2 (W1.push (.loop .ready none s.fr N ps asg body d)).get (W1.next + 1) w2 ∧ ρ2 W1.next = some i2 ∧ i2.b = l ∧ DRs ρ2 mk mark := by
  cases rd with
  | none =>
    cases rb with
    | some b => exact hrd.elim
    | none =>
      cases he
      have h0 : ρ s.W.next = none := hfr _ (Nat.le_refl _) (by show s.W.next < s.W.next + 1 + 1; omega)
      obtain ⟨p1, p2⟩ := hH.push h0 (.defd false) (.deferred (some [])) ⟨w.heap.size, 0, 0, 0, 0⟩ rfl .defd0
      have hfr1 : Fresh _ (s.W.push (.defd false)).next (s.W.next + 2) := hfr.right p2
      have h1 := hfr1 _ (Nat.le_refl _) (by show s.W.next + 1 < s.W.next + 2; omega)
      obtain ⟨q1, q2⟩ := p1.push h1 (.loop .ready none s.fr N ps asg body s.W.next) (.loop { state := .ready, pending := none, fn, tmps := a.tmps, params := ps.toArray, assign := asg, body, defers := w.heap.size })
        ⟨(w.alloc (.deferred (some []))).heap.size, 0, 0, 0, 0⟩ rfl (.loop _ _ _ _ _ _ _ _ ⟨w.heap.size, 0, 0, 0, 0⟩ fn a.tmps (rset_le _ h1 _ _ (rset_same _ _ _)) ((hFR.mono p2.le).mono (rset_le _ h1)))
      refine ⟨_, _, _, _, _, rfl, q1, p2.trans q2, rset_same _ _ _, rfl, ?_⟩
      exact .mark _ ⟨w.heap.size, 0, 0, 0, 0⟩ _ _ (rset_le _ h1 _ _ (rset_same _ _ _)) .nil
  | some l =>
    cases rb with
    | none => exact hrd.elim
    | some b =>
      obtain ⟨i, hi, hib⟩ := hrd
      subst hib
      simp only [enterX] at he
      split at he
      · rename_i hg
        cases he
        obtain ⟨ob, hb, hor⟩ := hH.obj l i _ hi hg
        cases hor with
        | loop _ _ _ _ _ _ _ _ q fn' tmps hd hFt =>
          have h1 : ρ s.W.next = none := hfr _ (Nat.le_refl _) (Nat.lt_succ_self _)
          obtain ⟨q1, q2⟩ := hH.push h1 (.loop .ready none s.fr N ps asg body d) (.loop { state := .ready, pending := none, fn, tmps := a.tmps, params := ps.toArray, assign := asg, body, defers := q.b })
            ⟨w.heap.size, 0, 0, 0, 0⟩ rfl (.loop _ _ _ _ _ _ _ _ q fn a.tmps (rset_le _ h1 _ _ hd) (hFR.mono (rset_le _ h1)))
          refine ⟨_, [], _, _, _, ?_, q1, q2, rset_same _ _ _, rfl, .nil⟩
          unfold Instr.enterLoop
          simp only [Sem.run_bind, run_getLoop hb, Result.andThen_ok]
          rfl
      · cases he
theorem DRs.append {ds1 ds2 : List XDef} {l1 l2 : List Deferred} (h : DRs ρ ds1 l1) (k : DRs ρ ds2 l2) : DRs ρ (ds1 ++ ds2) (l1 ++ l2) := by
  induction h with
  | nil => exact k
  | call f a c a' c' ds ds' h1 h2 _ ih => exact .call f a c a' c' _ _ h1 h2 ih
  | mark r i ds ds' hr _ ih => exact .mark r i _ _ hr ih
theorem code_sim (hm : P.follows .mixedOrders = true) (hR : RExt R) (hC : SimC P R) (hF : SimF P R) (hL : SimL P R) (hDr : SimD P R) {rd rb : Option Nat} {s : XS} {c : Code} {e : XExit} {s' : XS} {a : Act} {w : World} {m : Nat}
    (h : codeX P R N rd s c = some (.code e s')) (hrd : RdOk ρ rd rb) (hfr : Fresh ρ s.W.next s'.W.next) (hH : HR P ρ s.W.get w) (hFR : FR ρ N s.fr a.tmps) (hD : DRs ρ s.ds a.defers) :
    c.wpIn (FW rb) m P (QX P ρ s.W w N e s') a w ∧ ∀ b, c = .loop b → LoopW (FW rb) m P b (QX P ρ s.W w N e s') a w := by
  have self : ∀ ex, ExR ρ e ex → s' = s → QX P ρ s.W w N e s' ex a w := fun ex hx hs => ⟨ρ, by subst hs; exact ⟨.refl _ _ _ _, hH, hFR, hD⟩, hx⟩
  -- one code behind another
  have sq : ∀ (x y : Code), seqK (fun s => R (.code N rd y s)) (R (.code N rd x s)) = some (.code e s') →
      ∀ {K : Act → World → Prop}, (∀ s1 ρ1 a1 w1, R (.code N rd y s1) = some (.code e s') → RdOk ρ1 rd rb → Fresh ρ1 s1.W.next s'.W.next → HR P ρ1 s1.W.get w1 → FR ρ1 N s1.fr a1.tmps → DRs ρ1 s1.ds a1.defers →
        Step ρ s.W.get s.W.next w ρ1 s1.W.get s1.W.next w1 → K a1 w1) → x.wpIn (FW rb) m P (Exit.then K (QX P ρ s.W w N e s')) a w := by
    intro x y hq K hK
    unfold seqK at hq
    split at hq
    · rename_i s1 h1
      have n1 : s.W.next ≤ s1.W.next := (hR _ _ h1).next
      have n2 : s1.W.next ≤ s'.W.next := (hR _ _ hq).next
      refine wpIn_mono (hC _ _ _ _ _ _ h1 ρ rb a w m hrd (hfr.left n2) hH hFR hD) fun ex a1 w1 hx => ?_
      obtain ⟨ρ1, ⟨k1, k2, k3, k4⟩, hex⟩ := hx
      cases ex <;> first | exact hex.elim | skip
      exact hK s1 ρ1 a1 w1 hq (hrd.mono k1.le) (hfr.right k1) k2 k3 k4 k1
    · rename_i hne
      refine wpIn_mono (hC _ _ _ _ _ _ hq ρ rb a w m hrd hfr hH hFR hD) fun ex a1 w1 hx => ?_
      cases ex with
      | normal =>
        obtain ⟨ρ1, hk, hex⟩ := hx
        cases e <;> first | exact hex.elim | skip
        exact absurd hq (hne _)
      | _ => exact hx
  unfold codeX at h
  split at h
  · cases h; exact ⟨wpIn_skip (self .normal trivial rfl), fun b hb => by cases hb⟩
  · cases h; exact ⟨wpIn_ret (self .ret trivial rfl), fun b hb => by cases hb⟩
  · cases h; exact ⟨wpIn_exit (self (.exit _) rfl rfl), fun b hb => by cases hb⟩
  · rename_i x y
    refine ⟨wpIn_seq (sq x y h fun s1 ρ1 a1 w1 g1 g2 g3 g4 g5 g6 g7 => ?_), fun b hb => by cases hb⟩
    exact wpIn_mono (hC _ _ _ _ _ _ g1 ρ1 rb a1 w1 m g2 g3 g4 g5 g6) fun ex a2 w2 hx => hx.trans' g7
  · rename_i c x y
    unfold condK at h
    split at h
    · rename_i t ht
      have e1 : a.eval c = .bool t := (hFR.ev c _ ht).of_flat 1 rfl
      refine ⟨wpIn_cond e1 ?_, fun b hb => by cases hb⟩
      have h := hC _ _ _ _ _ _ h ρ rb a w m hrd hfr hH hFR hD
      cases t <;> exact h
    · cases h
  · rename_i id b
    refine ⟨wpIn_block ?_, fun b hb => by cases hb⟩
    unfold blockK at h
    split at h
    · rename_i i s1 hq
      cases hb : Nat.beq i id with
      | true =>
        rw [hb] at h
        cases h
        have hid : i = id := Nat.eq_of_beq_eq_true hb
        refine wpIn_mono (hC _ _ _ _ _ _ hq ρ rb a w m hrd hfr hH hFR hD) fun ex a1 w1 hx => ?_
        obtain ⟨ρ1, k1, k2⟩ := hx
        cases ex <;> first | exact k2.elim | skip
        simp only [ExR] at k2
        subst k2
        simp only [Exit.inBlock, hid, if_true]
        exact ⟨ρ1, k1, trivial⟩
      | false =>
        rw [hb] at h
        cases h
        have hid : i ≠ id := Nat.ne_of_beq_eq_false hb
        refine wpIn_mono (hC _ _ _ _ _ _ hq ρ rb a w m hrd hfr hH hFR hD) fun ex a1 w1 hx => ?_
        obtain ⟨ρ1, k1, k2⟩ := hx
        cases ex <;> first | exact k2.elim | skip
        simp only [ExR] at k2
        subst k2
        simp only [Exit.inBlock, hid, if_false]
        exact ⟨ρ1, k1, rfl⟩
    · rename_i hne
      refine wpIn_mono (hC _ _ _ _ _ _ h ρ rb a w m hrd hfr hH hFR hD) fun ex a1 w1 hx => ?_
      cases ex with
      | exit id' =>
        obtain ⟨ρ1, hk, hex⟩ := hx
        cases e <;> first | exact hex.elim | skip
        exact absurd h (hne _ _)
      | _ => exact hx
  · rename_i b
    have hl : LoopW (FW rb) m P b (QX P ρ s.W w N e s') a w := loopW_step (sq b (.loop b) h fun s1 ρ1 a1 w1 g1 g2 g3 g4 g5 g6 g7 =>
      loopW_mono (hL _ _ _ _ _ _ g1 ρ1 rb a1 w1 m g2 g3 g4 g5 g6) fun ex a2 w2 hx => hx.trans' g7)
    exact ⟨loopW_wp hl, fun b' hb => by cases hb; exact hl⟩
  · refine ⟨wpIn_region_list (opsX_sim hR hC hF _ _ _ _ h ρ a w hrd hfr hH hFR hD fun _ _ _ hx => hx), fun b hb => by cases hb⟩
  · rename_i id ops
    unfold drawK at h
    split at h
    · rename_i rs s1 hq
      cases hb : okD P ops s.ds.length rs <;> rw [hb] at h <;> cases h
      exact ⟨hDr _ _ id _ _ _ _ hq hb ρ rb a w m hrd hfr hH hFR hD, fun b hb => by cases hb⟩
    · cases h
  · rename_i f ps asg body
    refine ⟨?_, fun b hb => by cases hb⟩
    unfold rfK at h
    split at h
    · rename_i g xs cap hv
      obtain ⟨xs', cs', hx, hv1, hv2⟩ := (hFR.ev f _ hv).funcInv
      unfold rfK1 at h
      split at h
      · rename_i d mk W1 he
        unfold rfK3 at h
        split at h
        · rename_i v W2 hq
          unfold loopEnd at h
          split at h
          · rename_i st pend tm N2 ps2 asg2 body2 d2 hg
            cases hbz : isBusy st <;> rw [hbz] at h
            · simp only [cond_false] at h
              have hW : s'.W = W2.put W1.next (some (.loop .exhausted pend tm N2 ps2 asg2 body2 d2)) := by
                have := pendK_W h
                exact this
              have n1 : W1.next + 1 ≤ W2.next := (hR _ _ hq).next
              have n2 : s'.W.next = W2.next := by rw [hW]; rfl
              rw [n2] at hfr
              refine wpIn_rangeFunc fun fn _ => ?_
              obtain ⟨l, mark, w1, ρ1, i1, e1, e2, e3, e4, e5, e6⟩ := enter_sim (ps := ps.toList) (asg := asg) (body := body) (fn := fn) hrd he (hfr.left n1) hH hFR
              rw [Array.toArray_toList] at e1
              obtain ⟨hen, hcall⟩ := hF _ _ _ _ _ hq
              have hres : (resolve a.eval (rangeCall f l) 0).run P w1 = .ok ⟨.fn (.func g) cs'.toArray, xs'.toArray ++ #[Value.func (.yield l) #[] #[]]⟩ w1 := by
                show (Deferred.ofValue (a.eval f) (#[Operand.const (.func (.yield l) #[] #[])].map a.eval)).run P w1 = _
                rw [hx]
                simp only [List.map_toArray, List.map_cons, List.map_nil, Act.eval]
                rfl
              refine ⟨l, mark, w1, _, w1, g, xs'.toArray ++ #[Value.func (.yield l) #[] #[]] ++ cs'.toArray, w1, e1, hres, fun _ _ => trivial, run_enter hen, fun h => (by cases h), ?_⟩
              have hvr : VRs ρ1 (xs.toList ++ [Value.func (.yield W1.next) #[] #[]] ++ cap.toList) (xs' ++ [Value.func (.yield l) #[] #[]] ++ cs') := by
                refine ((hv1.mono e3.le).append (.cons _ _ _ _ ?_ .nil)).append (hv2.mono e3.le)
                rw [← e5]
                exact .yield _ i1 e4
              have hc := hcall ρ1 _ w1 (m - 1) (hfr.right e3) e2 hvr
              have ea : (xs'.toArray ++ #[Value.func (.yield l) #[] #[]] ++ cs'.toArray) = (xs' ++ [Value.func (.yield l) #[] #[]] ++ cs').toArray := by
                apply Array.ext'
                simp
              rw [← ea] at hc
              refine CallsIn.mono (callsIn_round hc) fun en w2 hqf => ?_
              · obtain ⟨ρ2, s2, h2, hen⟩ := hqf
                cases en <;> first | exact hen.elim | skip
                have hi2 := s2.le _ _ e4
                obtain ⟨ob, hb, hor⟩ := h2.obj _ i1 _ hi2 hg
                cases hor with
                | loop _ _ _ _ _ _ _ _ q fn2 tmps2 hd2 hFt2 =>
                  obtain ⟨p1, p2⟩ := h2.put hi2 (by rw [hg]; simp) (.loop .exhausted pend tm N2 ps2 asg2 body2 d2) (setO_keep w2 i1.b _) (setO_at hb) (.loop _ pend tm N2 ps2 asg2 body2 d2 q fn2 tmps2 hd2 hFt2)
                  have hend := run_endLoop (P := P) hb (show (st == LoopState.busy) = false by cases st <;> first | rfl | cases hbz)
                  rw [e5] at hend p1 p2
                  refine ⟨_, _, hend, ?_⟩
                  have hst := (e3.trans s2).trans p2
                  have fin : ∀ ex, ExR ρ2 e ex → s' = ⟨s.fr, W2.put W1.next (some (.loop .exhausted pend tm N2 ps2 asg2 body2 d2)), mk ++ s.ds⟩ →
                      QX P ρ s.W w N e s' ex { a with defers := mark ++ a.defers } _ := fun ex hx hs => ⟨ρ2, by
                    subst hs
                    exact ⟨hst, p1, hFR.mono hst.le, ((e6.mono s2.le).append (hD.mono hst.le))⟩, hx⟩
                  unfold pendK at h
                  split at h
                  · cases h; exact fin .normal trivial rfl
                  · cases h; exact wpIn_ret (fin .ret trivial rfl)
                  · cases h; exact wpIn_exit (fin (.exit _) rfl rfl)
                  · cases h
            · cases h
          · cases h
        · cases h
      · cases h
    · cases h
  · cases h
end
end Go.Proofs.YthlkgmdkabelpaaGreatDoor.X
