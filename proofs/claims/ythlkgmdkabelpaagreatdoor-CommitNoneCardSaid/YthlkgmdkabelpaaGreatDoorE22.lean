/-
  A drawn region: whatever the order, the same. Over any program. No condition.
-/
import Derived.Test.YthlkgmdkabelpaaGreatDoorE21
namespace Go.Proofs.YthlkgmdkabelpaaGreatDoor.X
open Go Go.RowKit
set_option linter.unusedVariables false

theorem modsW_same (W : XW) : modsW W W = [] := by unfold modsW; rw [Nat.sub_self]; rfl
theorem modsW_push (W : XW) (o : XObj) : modsW W (W.push o) = [] := by
  unfold modsW
  show ((W.log.take (W.nlog - W.nlog)).filter _) = []
  rw [Nat.sub_self]
  rfl
theorem hideAll_next : ∀ (l : List Nat) (W : XW), (hideAll W l).next = W.next
  | [], W => rfl
  | n :: l, W => hideAll_next l (W.put n none)
theorem hideAll_room : ∀ (l : List Nat) (W : XW) (n : Nat), (hideAll W l).heap.room n = W.heap.room n
  | [], W, n => rfl
  | m :: l, W, n => by
    show (hideAll (W.put m none) l).heap.room n = _
    rw [hideAll_room l]
    exact PT.room_set _ _ _ _
theorem push_room (W : XW) (o : XObj) : (W.push o).get W.next = if W.heap.room W.next = true then some o else none := by
  rw [XW.get_lt (W := W.push o) (Nat.lt_succ_self _)]
  exact PT.get_set_room _ _ _
theorem altW_next (V : XW) : ∀ (l : List Nat) (W : XW), (altW W V l).next = W.next
  | [], W => rfl
  | n :: l, W => altW_next V l (W.put n (V.get n))
theorem altW_get (V : XW) : ∀ (l : List Nat) (W : XW) (n : Nat) (o : XObj), (altW W V l).get n = some o → (n ∈ l ∧ V.get n = some o) ∨ (n ∉ l ∧ W.get n = some o)
  | [], W, n, o, h => .inr ⟨by simp, h⟩
  | m :: l, W, n, o, h => by
    rcases altW_get V l (W.put m (V.get m)) n o h with ⟨h1, h2⟩ | ⟨h1, h2⟩
    · exact .inl ⟨List.mem_cons_of_mem _ h1, h2⟩
    · rcases XW.get_put h2 with ⟨rfl, q⟩ | ⟨q1, q2⟩
      · exact .inl ⟨List.mem_cons_self, q⟩
      · exact .inr ⟨by simp [q1, h1], q2⟩
theorem get_next {W : XW} {n : Nat} {o : XObj} (h : W.get n = some o) : n < W.next := by
  rcases Nat.lt_or_ge n W.next with q | q
  · exact q
  · rw [XW.get_ge q] at h; cases h
theorem mods_between {A B C E : XW} (h1 : Ext A B) (h2 : Ext B C) (h3 : Ext C E) {n : Nat} (hn : n ∈ modsW B C) : n ∈ E.log.take (E.nlog - A.nlog) := by
  obtain ⟨l1, a1, a2, _⟩ := h1.mods
  obtain ⟨l2, b1, b2, b3⟩ := h2.mods
  obtain ⟨l3, c1, c2, _⟩ := h3.mods
  have hn : n ∈ l2 := by
    unfold modsW at hn
    rw [b3] at hn
    exact (List.mem_filter.1 hn).1
  have e1 : E.log = (l3 ++ (l2 ++ l1)) ++ A.log := by rw [c1, b1, a1]; simp
  have e2 : E.nlog - A.nlog = (l3 ++ (l2 ++ l1)).length := by rw [c2, b2, a2]; simp; omega
  rw [e1, e2, List.take_left]
  simp [hn]

section
variable {P : Program} {R : XK} {N : Nat} {rd rb : Option Nat} {ops : Array Oper} {rs : List XRec} {σ : Nat → XS} {D : Nat → Prop} {i : Nat} {o : Oper} {ρ0 ρ : Ren} {w0 w : World} {a : Act} {m : Nat} {K : Act → World → Prop} {Q : Exit → Act → World → Prop}
theorem Reg.extc (h : Reg P R N rd ops σ rs) {i : Nat} : ∀ {j : Nat}, i ≤ j → j ≤ ops.size → Ext (σ i).W (σ j).W
  | 0, hij, _ => by rw [Nat.le_zero.1 hij]; exact .refl _
  | j + 1, hij, hj => by
    rcases Nat.lt_or_ge i (j + 1) with q | q
    · exact (h.extc (j := j) (by omega) (by omega)).trans (h.ext j (by omega))
    · have : i = j + 1 := by omega
      rw [this]; exact .refl _
theorem exec (hR : RExt R) (hC : SimC P R) (hF : SimF P R) (hI : Inv P N ops σ ρ0 w0 D ρ a w) (h : Reg P R N rd ops σ rs) (hfr : Fresh ρ0 (σ 0).W.next (σ ops.size).W.next) (hr : Rdy ops D i o) (hrd : RdOk ρ rd rb) {Wx Wx' : XW} {x : XR}
    (hx : xop P (σ i).fr Wx o.type o.op = some x) (hk : opK R N rd ⟨(σ i).fr, Wx, (σ i).ds⟩ o.dst (some x) = some (.on ⟨(σ (i + 1)).fr, Wx', (σ (i + 1)).ds⟩))
    (hn : Wx.next = (σ i).W.next) (hn' : Wx'.next = (σ (i + 1)).W.next) (hsub : ∀ n ob, ρ n ≠ none → Wx.get n = some ob → VD ops σ D n = some ob)
    (hV' : ∀ n ob, ρ n ≠ none ∨ ((σ i).W.next ≤ n ∧ n < (σ (i + 1)).W.next) → VD ops σ (fun j => D j ∨ j = i) n = some ob → Wx'.get n = some ob ∨ (ρ n ≠ none ∧ VD ops σ D n = some ob ∧ Wx.get n = none ∧ Wx'.get n = none))
    (hK : ∀ ρ' a' w', Inv P N ops σ ρ0 w0 (fun j => D j ∨ j = i) ρ' a' w' → K a' w') : o.wpIn (FW rb) m P a w K Q := by
  have hi := hr.lt
  have hlive : HR P ρ Wx.get w := ⟨fun n i' ob h1 h2 => hI.hr.obj n i' ob h1 (hsub n ob (by rw [h1]; simp) h2), fun n n' i1 i2 h1 h2 h3 h4 h5 => by
    have up : ∀ n i', ρ n = some i' → Wx.get n ≠ none → VD ops σ D n ≠ none := fun n i' k1 k2 => by
      cases e : Wx.get n with
      | none => exact absurd e k2
      | some ob => rw [hsub n ob (by rw [k1]; simp) e]; simp
    exact hI.hr.inj n n' i1 i2 h1 h2 (up n i1 h1 h3) (up n' i2 h2 h4) h5⟩
  have hd : rd = none ∨ ∀ c, o.op ≠ .defer c := by
    cases rd with
    | none => exact .inl rfl
    | some l =>
      refine .inr fun c hc => ?_
      rw [hc] at hx
      obtain ⟨f, as, cap, rfl⟩ := xop_defer hx
      cases hk
  obtain ⟨v, b1, b2, b3⟩ := opK_blind hk
  obtain ⟨f', hf'⟩ := putX_other (f := drop (σ i).fr (lacks ops o)) b1
  have hk' := b3 _ f' hf'
  have hx' : xop P (drop (σ i).fr (lacks ops o)) Wx o.type o.op = some x := by rw [xop_congr lacks_ev]; exact hx
  have hfp := frame_part hI h hr
  have hfr' : Fresh ρ Wx.next Wx'.next := fun n h1 h2 => by
    cases e : ρ n with
    | none => rfl
    | some q => exact absurd (hI.alloc h hfr hi (by rw [e]; simp) (by omega) (by omega)) hr.un
  refine opK_sim hR hC hF (s := ⟨drop (σ i).fr (lacks ops o), Wx, (σ i).ds⟩) hrd hd (xop_sim hlive hfp.ev hx') hk' hfr' hlive hfp (by rw [h.ds i (by omega)]; exact hI.ds) (fun s' hs ρ' a' w' hu ho => ?_) (fun v s' hs => by cases hs)
  cases hs
  obtain ⟨u, hu⟩ := hu
  obtain ⟨g1, g2, g3, g4⟩ := ho
  have g1 : Step ρ Wx.get Wx.next w ρ' Wx'.get Wx'.next w' := g1
  have g2 : HR P ρ' Wx'.get w' := g2
  obtain ⟨q1, q2⟩ := glue hI.hr hsub g1 g2 (V' := VD ops σ (fun j => D j ∨ j = i)) fun n ob k1 k2 => hV' n ob ((g1.dom n k1).imp id fun ⟨e1, e2⟩ => ⟨by omega, by omega⟩) k2
  refine hK ρ' a' w' ⟨q1, hI.le.trans q2.le, hI.keeps.trans' q2.keeps (fun b hb e => (hI.img b e).elim id fun g => by omega), fun b e => ?_, fun n k => ?_, g3.size, fun t v' ht => ?_, ?_⟩
  · exact (q2.img b e).elim (hI.img b) fun g => .inr (Nat.le_trans hI.keeps.size g)
  · rcases g1.dom n k with k | ⟨k1, k2⟩
    · exact (hI.dom n k).imp id fun ⟨j, e1, e2⟩ => ⟨j, .inl e1, e2⟩
    · exact .inr ⟨i, .inr rfl, hi, by omega, by omega⟩
  · by_cases hdt : o.dst = some t
    · rw [T_new h hr hdt] at ht
      refine g3.rep t v' ?_
      show f'.get t = some v'
      rw [hdt] at b1 hf'
      rw [putX_at hf', drop_room, ← putX_at b1]
      exact ht
    · rw [T_old hr hdt] at ht
      rw [hu, put_other hdt]
      exact (hI.tm t v' ht).mono g1.le
  · have : (σ (i + 1)).ds = (σ 0).ds := h.ds (i + 1) hi
    rw [← this]
    exact g4
/-- the same value, on whatever part -/
theorem exec_val (hR : RExt R) (hC : SimC P R) (hF : SimF P R) (hI : Inv P N ops σ ρ0 w0 D ρ a w) (h : Reg P R N rd ops σ rs) (hfr : Fresh ρ0 (σ 0).W.next (σ ops.size).W.next) (hr : Rdy ops D i o) (hrd : RdOk ρ rd rb) {Wx : XW} {v : Option Value}
    (hx : xop P (σ i).fr Wx o.type o.op = some (.val v)) (hk : opK R N rd (σ i) o.dst (some (.val v)) = some (.on (σ (i + 1)))) (hn : Wx.next = (σ i).W.next) (hsub : ∀ n ob, ρ n ≠ none → Wx.get n = some ob → VD ops σ D n = some ob)
    (hK : ∀ ρ' a' w', Inv P N ops σ ρ0 w0 (fun j => D j ∨ j = i) ρ' a' w' → K a' w') : o.wpIn (FW rb) m P a w K Q := by
  obtain ⟨h1, h2, h3⟩ := onK_on (show onK (σ i).W (σ i).ds (putX N (σ i).fr o.dst v) = some (.on (σ (i + 1))) from hk)
  refine exec (Wx := Wx) (Wx' := Wx) hR hC hF hI h hfr hr hrd hx ?_ hn (by rw [← h2]; exact hn) hsub (fun n ob k1 k2 => ?_) hK
  · show onK Wx (σ i).ds (putX N (σ i).fr o.dst v) = _
    rw [h1, h3]
    rfl
  · have nt : ¬ Tch σ i n := fun e => by
      unfold Tch at e
      rw [← h2, modsW_same] at e
      rcases e with e | ⟨e1, e2⟩
      · cases e
      · omega
    rw [V_old nt] at k2
    have k1 : ρ n ≠ none := k1.resolve_right fun ⟨e1, e2⟩ => by rw [← h2] at e2; omega
    cases e : Wx.get n with
    | none => exact .inr ⟨k1, k2, rfl, rfl⟩
    | some ob' =>
      have := hsub n ob' k1 e
      rw [k2] at this
      cases this
      exact .inl rfl
theorem op_step (hR : RExt R) (hC : SimC P R) (hF : SimF P R) (hI : Inv P N ops σ ρ0 w0 D ρ a w) (h : Reg P R N rd ops σ rs) (hfr : Fresh ρ0 (σ 0).W.next (σ ops.size).W.next) (hr : Rdy ops D i o) (hrd : RdOk ρ rd rb)
    (hK : ∀ ρ' a' w', Inv P N ops σ ρ0 w0 (fun j => D j ∨ j = i) ρ' a' w' → K a' w') :
    if Region.wanted o (yielded ops a.tmps) = true then o.wpIn (FW rb) m P a w K Q else (∀ f, o.about P w a.eval = some f → (FW rb).fn f) ∧ K (a.put o.dst undef) w := by
  have hi := hr.lt
  have h1 := (h.step i o hr.op).1
  have hfp := frame_part hI h hr
  unfold op1 wantK at h1
  split at h1
  · rename_i hw
    rw [if_pos (wantX_sim hfp (lacks_want.trans hw))]
    cases hx : xop P (σ i).fr (σ i).W o.type o.op with
    | none => rw [hx] at h1; cases h1
    | some x =>
      rw [hx] at h1
      -- those in no order with it are among the hidden
      have inU : ∀ n j, j < ops.size → j ≠ i → ordB (masks ops) i j = false → n ∈ modsW (σ j).W (σ (j + 1)).W → n ∈ hides (masks ops) i rs 0 := fun n j hj hji ho hm => by
        obtain ⟨oj, hoj⟩ := op_of hj
        exact hides_mem (d := j) (h.step j oj hoj).2 (by omega) (by rw [Nat.zero_add]; exact ho) hm
      have vat : ∀ n ob, ρ n ≠ none → (σ i).W.get n = some ob → n ∉ hides (masks ops) i rs 0 → VD ops σ D n = some ob := fun n ob k1 k2 k3 => by
        rw [Vat hI h hfr hr k1 (get_next k2) fun j hj hji ho hm => absurd (inU n j hj hji ho hm) k3]
        exact k2
      have plain : (∀ n ob, ρ n ≠ none → (σ i).W.get n = some ob → VD ops σ D n = some ob) →
          (∀ n, Tch σ i n → VD ops σ (fun j => D j ∨ j = i) n = (σ (i + 1)).W.get n) → (∀ n ob, ρ n ≠ none → n < (σ i).W.next → VD ops σ D n = some ob → (σ i).W.get n = some ob) → o.wpIn (FW rb) m P a w K Q := fun hsub hnew hback => by
        refine exec (Wx := (σ i).W) (Wx' := (σ (i + 1)).W) hR hC hF hI h hfr hr hrd hx h1 rfl rfl hsub (fun n ob k1 k2 => ?_) hK
        by_cases ht : Tch σ i n
        · rw [hnew n ht] at k2; exact .inl k2
        · rw [V_old ht] at k2
          have k1 : ρ n ≠ none := k1.resolve_right fun e => ht (.inr e)
          rcases Nat.lt_or_ge n (σ i).W.next with q | q
          · left; rw [h.stW hi ht]; exact hback n ob k1 q k2
          · right
            have : (σ (i + 1)).W.next ≤ n := Nat.le_of_not_lt fun e => ht (.inr ⟨q, e⟩)
            exact ⟨k1, k2, XW.get_ge q, XW.get_ge this⟩
      rcases h.cond i o hr.op hw with hU | hU
      · have nu : ∀ n j, j < ops.size → j ≠ i → ordB (masks ops) i j = false → n ∉ modsW (σ j).W (σ (j + 1)).W := fun n j hj hji ho hm => by
          have := inU n j hj hji ho hm
          rw [hU] at this
          cases this
        refine plain (fun n ob k1 k2 => vat n ob k1 k2 (by rw [hU]; simp)) (fun n ht => V_new h hr ht (nu n)) fun n ob k1 k2 k3 => ?_
        rw [← Vat hI h hfr hr k1 k2 fun j hj hji ho hm => absurd hm (nu n j hj hji ho)]
        exact k3
      · unfold calmK at hU
        simp only [Bool.or_eq_true, Bool.and_eq_true] at hU
        rcases hU with hU | ⟨hg, hU⟩
        · have hU : hides (masks ops) i rs 0 = [] := by simpa using hU
          have nu : ∀ n j, j < ops.size → j ≠ i → ordB (masks ops) i j = false → n ∉ modsW (σ j).W (σ (j + 1)).W := fun n j hj hji ho hm => by
            have := inU n j hj hji ho hm
            rw [hU] at this
            cases this
          refine plain (fun n ob k1 k2 => vat n ob k1 k2 (by rw [hU]; simp)) (fun n ht => V_new h hr ht (nu n)) fun n ob k1 k2 k3 => ?_
          rw [← Vat hI h hfr hr k1 k2 fun j hj hji ho hm => absurd hm (nu n j hj hji ho)]
          exact k3
        · rcases hU with ⟨hc, hcx⟩ | hU
          · -- carried out where the others' names are hidden
            have hsub : ∀ n ob, ρ n ≠ none → (hideAll (σ i).W (hides (masks ops) i rs 0)).get n = some ob → VD ops σ D n = some ob := fun n ob k1 k2 =>
              vat n ob k1 (hideAll_sub _ _ n ob k2) fun e => by rw [hideAll_not _ _ n e] at k2; cases k2
            cases hy : xop P (σ i).fr (hideAll (σ i).W (hides (masks ops) i rs 0)) o.type o.op with
            | none => simp only [hy] at hcx; cases hcx
            | some y =>
              have := xop_mono (hideAll_sub (σ i).W (hides (masks ops) i rs 0)) hc hy
              rw [hx] at this
              cases this
              simp only [hy] at hcx
              cases x <;> first | (cases hcx; done) | skip
              · exact exec_val hR hC hF hI h hfr hr hrd hy h1 (hideAll_next _ _) hsub hK
              · rename_i ob k
                obtain ⟨g1, g2, g3⟩ := onK_on (show onK ((σ i).W.push ob) (σ i).ds (putX N (σ i).fr o.dst (some (k (σ i).W.next))) = some (.on (σ (i + 1))) from h1)
                have hnx := hideAll_next (hides (masks ops) i rs 0) (σ i).W
                have hnx' : (σ (i + 1)).W.next = (σ i).W.next + 1 := by rw [← g2]; rfl
                refine exec (Wx := hideAll (σ i).W (hides (masks ops) i rs 0)) (Wx' := (hideAll (σ i).W (hides (masks ops) i rs 0)).push ob) hR hC hF hI h hfr hr hrd hy ?_ hnx (by rw [hnx']; show (hideAll _ _).next + 1 = _; rw [hnx]) hsub (fun n ob' k1 k2 => ?_) hK
                · show onK _ (σ i).ds (putX N (σ i).fr o.dst (some (k (hideAll _ _).next))) = _
                  rw [hnx, g1, g3]
                  rfl
                · have hmods : ∀ n, Tch σ i n ↔ n = (σ i).W.next := fun n => by
                    unfold Tch
                    rw [← g2, modsW_push]
                    constructor
                    · rintro (e | ⟨e1, e2⟩)
                      · cases e
                      · have e2 : n < (σ i).W.next + 1 := e2
                        omega
                    · rintro rfl
                      exact .inr ⟨Nat.le_refl _, Nat.lt_succ_self _⟩
                  by_cases ht : n = (σ i).W.next
                  · left
                    rw [V_new h hr ((hmods n).2 ht) fun j hj hji ho hm => ?_] at k2
                    · subst ht
                      rw [← g2, push_room] at k2
                      have hp := push_room (hideAll (σ i).W (hides (masks ops) i rs 0)) ob
                      rw [hnx, hideAll_room] at hp
                      rw [hp]
                      exact k2
                    · have := List.all_eq_true.1 hg n (inU n j hj hji ho hm)
                      simp only [Bool.or_eq_true] at this
                      rcases this with e | e
                      · have := blt_iff.1 e; omega
                      · have := Nat.le_of_ble_eq_true e; omega
                  · rw [V_old fun e => ht ((hmods n).1 e)] at k2
                    have k1 : ρ n ≠ none := k1.resolve_right fun ⟨e1, e2⟩ => by omega
                    have hp : ((hideAll (σ i).W (hides (masks ops) i rs 0)).push ob).get n = (hideAll (σ i).W (hides (masks ops) i rs 0)).get n := XW.get_push_ne (by rw [hnx]; exact ht)
                    rw [hp]
                    cases e : (hideAll (σ i).W (hides (masks ops) i rs 0)).get n with
                    | none => exact .inr ⟨k1, k2, rfl, rfl⟩
                    | some ob2 =>
                      have := hsub n ob2 k1 e
                      rw [k2] at this
                      cases this
                      exact .inl rfl
          · -- one in no order with it: the same whether it is done or not
            unfold altOk at hU
            split at hU
            · rename_i j q hus
              simp only [Bool.and_eq_true, Bool.or_eq_true] at hU
              obtain ⟨hs, hb⟩ := hU
              obtain ⟨d, e1, e2, e3, e4⟩ := umods_of (show (j, q) ∈ umods (masks ops) i rs 0 by rw [hus]; exact List.mem_cons_self)
              have e1 : j = d := by omega
              subst e1
              have hj : j < ops.size := by
                have := (List.getElem?_eq_some_iff.1 e2).1
                rw [h.len] at this
                exact this
              obtain ⟨oj, hoj⟩ := op_of hj
              have hq := (h.step j oj hoj).2
              rw [hq] at e2
              cases e2
              have uniq : ∀ n j', j' < ops.size → j' ≠ i → ordB (masks ops) i j' = false → n ∈ modsW (σ j').W (σ (j' + 1)).W → j' = j := fun n j' k1 k2 k3 k4 => by
                obtain ⟨o', ho'⟩ := op_of k1
                have := umods_mem (ms := masks ops) (i := i) (n := n) (j0 := 0) (d := j') (h.step j' o' ho').2 (by omega) (by rw [Nat.zero_add]; exact k3) k4
                rw [hus] at this
                simp only [Nat.zero_add, List.mem_singleton] at this
                exact (Prod.mk.inj this).1
              obtain ⟨v, hv1, hv2⟩ : ∃ v, x = .val v ∧ xop P (σ i).fr (altW (σ i).W (bif Nat.blt i j then (σ (j + 1)).W else (σ j).W) (modsW (σ j).W (σ (j + 1)).W)) o.type o.op = some (.val v) := by
                have hs : sameInt (xop P (σ i).fr (σ i).W o.type o.op) (xop P (σ i).fr (altW (σ i).W (bif Nat.blt i j then (σ (j + 1)).W else (σ j).W) (modsW (σ j).W (σ (j + 1)).W)) o.type o.op) = true := hs
                rw [hx] at hs
                unfold sameInt at hs
                split at hs
                · rename_i k1 k2 k3 k4 k5 k6
                  simp only [Bool.and_eq_true, decide_eq_true_eq] at hs
                  obtain ⟨rfl, rfl⟩ := hs
                  cases k5
                  exact ⟨_, rfl, k6⟩
                · cases hs
              subst hv1
              by_cases hDj : D j ↔ j < i
              · refine exec_val hR hC hF hI h hfr hr hrd hx h1 rfl (fun n ob k1 k2 => ?_) hK
                rw [Vat hI h hfr hr k1 (get_next k2) fun j' hj' hji ho hm => by rw [uniq n j' hj' hji ho hm]; exact hDj]
                exact k2
              · refine exec_val hR hC hF hI h hfr hr hrd hv2 h1 (altW_next _ _ _) (fun n ob k1 k2 => ?_) hK
                have hlt : n < (σ i).W.next := by have := get_next k2; rwa [altW_next] at this
                rcases altW_get _ _ _ _ _ k2 with ⟨c1, c2⟩ | ⟨c1, c2⟩
                · rcases Nat.lt_or_ge i j with hij | hij
                  · have hD : D j := Classical.byContradiction fun e => hDj ⟨fun e' => absurd e' e, fun e' => by omega⟩
                    rw [blt_t hij] at c2
                    rw [← c2]
                    unfold VD
                    rw [pick_last (p := fun j => D j ∧ Tch σ j n) hj ⟨hD, .inl c1⟩ fun j' hj' ⟨d1, d2⟩ => by
                      rcases d2 with d2 | ⟨d2, d3⟩
                      · cases qo : ordB (masks ops) i j' with
                        | true => have := ord_D h hr hj' qo d1; omega
                        | false => rw [uniq n j' hj' (fun e => hr.un (e ▸ d1)) qo d2]; exact Nat.le_refl _
                      · rcases Nat.lt_or_ge j' i with q | q
                        · omega
                        · have := h.nx (i := i) (j := j') q (by omega); omega]
                    rfl
                  · have hji : j < i := by omega
                    have hD : ¬ D j := fun e => hDj ⟨fun _ => hji, fun _ => e⟩
                    rw [blt_f hij] at c2
                    rw [← c2]
                    have hbt : ∀ j', j < j' → j' < i → n ∉ modsW (σ j').W (σ (j' + 1)).W := fun j' a1 a2 a3 => by
                      rcases hb with hb | hb
                      · have := blt_iff.1 hb; omega
                      · have hmem : n ∈ betw ⟨oj, σ j, σ (j + 1)⟩ ⟨o, σ i, σ (i + 1)⟩ := mods_between (h.extc (i := j + 1) (j := j') a1 (by omega)) (h.ext j' (by omega)) (h.extc (i := j' + 1) (j := i) a2 (by omega)) a3
                        have := List.all_eq_true.1 (List.all_eq_true.1 hb n hmem) n c1
                        rw [Nat.beq_refl] at this
                        cases this
                    refine pick_at (f := fun j => (σ j).W.get n) (τ := fun j => Tch σ j n) (i := j) (by omega) (fun j hj ht => h.stW hj ht) fun j' hj' => ⟨fun ⟨d1, d2⟩ => ⟨?_, d2⟩, fun ⟨d1, d2⟩ => ⟨?_, d2⟩⟩
                    · rcases d2 with d2 | ⟨d2, d3⟩
                      · cases qo : ordB (masks ops) i j' with
                        | true =>
                          have h3 := ord_D h hr hj' qo d1
                          rcases Nat.lt_trichotomy j' j with q | q | q
                          · exact q
                          · exact absurd (q ▸ d1) hD
                          · exact absurd d2 (hbt j' q h3)
                        | false => exact absurd (uniq n j' hj' (fun e => hr.un (e ▸ d1)) qo d2 ▸ d1) hD
                      · have := modsW_lt c1
                        rcases Nat.lt_or_ge j' j with q | q
                        · exact q
                        · have := h.nx (i := j) (j := j') q (by omega); omega
                    · rcases d2 with d2 | ⟨d2, d3⟩
                      · cases qo : ordB (masks ops) i j' with
                        | true => exact ord_lt h hr (by omega) qo
                        | false => have := uniq n j' hj' (by omega) qo d2; omega
                      · exact hI.alloc h hfr hj' k1 d2 d3
                · rw [Vat hI h hfr hr k1 hlt fun j' hj' hji ho hm => absurd (uniq n j' hj' hji ho hm ▸ hm) c1]
                  exact c2
            · cases hU
  · rename_i hw
    rw [if_neg (by rw [wantX_sim hfp (lacks_want.trans hw)]; exact Bool.false_ne_true)]
    obtain ⟨g1, g2, g3⟩ := onK_on h1
    refine ⟨fun _ _ => trivial, hK ρ _ _ ?_⟩
    have nt : ∀ n, ¬ Tch σ i n := fun n e => by
      unfold Tch at e
      rw [← g2, modsW_same] at e
      rcases e with e | ⟨e1, e2⟩
      · cases e
      · omega
    have hV : VD ops σ (fun j => D j ∨ j = i) = VD ops σ D := funext fun n => V_old (nt n)
    refine ⟨by rw [hV]; exact hI.hr, hI.le, hI.keeps, by rw [hV]; exact hI.img, fun n k => (hI.dom n k).imp id fun ⟨j, e1, e2⟩ => ⟨j, .inl e1, e2⟩, ?_, fun t v ht => ?_, ?_⟩
    · cases o.dst with
      | none => exact hI.sz
      | some d => simpa [Act.put] using hI.sz
    · by_cases hdt : o.dst = some t
      · rw [T_new h hr hdt] at ht
        obtain ⟨f', hf'⟩ := putX_other (f := drop (σ i).fr (lacks ops o)) g1
        have := (FR.putT (a := a) (u := undef) hfp (fun x e => by cases e; exact vr_undef) hf').rep t v (by
          rw [hdt] at g1 hf'
          rw [putX_at hf', drop_room, ← putX_at g1]
          exact ht)
        exact this
      · rw [T_old hr hdt] at ht
        rw [put_other hdt]
        exact hI.tm t v ht
    · rw [putX_defers]; exact hI.ds
  · cases h1
end
end Go.Proofs.YthlkgmdkabelpaaGreatDoor.X
