/-
  Drawn regions, and with them the whole: what the abstract machine says is so. Over any program. No condition.
-/
import Derived.Test.YthlkgmdkabelpaaGreatDoorE22
namespace Go.Proofs.YthlkgmdkabelpaaGreatDoor.X
open Go Go.RowKit
set_option linter.unusedVariables false

section
variable {P : Program} {R : XK} {N : Nat} {rd rb : Option Nat} {ops : Array Oper} {rs : List XRec} {σ : Nat → XS} {ρ0 : Ren} {w0 : World} {m : Nat} {Q : Exit → Act → World → Prop}
def Done (listed : Array Bool) (j : Nat) : Prop := listed.getD j false = true
theorem done_lt {listed : Array Bool} {j : Nat} (h : Done listed j) : j < listed.size := by
  unfold Done at h
  rcases Nat.lt_or_ge j listed.size with q | q
  · exact q
  · rw [Array.getD_eq_getD_getElem?, Array.getElem?_eq_none q] at h; cases h
theorem getD_un {listed : Array Bool} {j : Nat} : listed.getD j true = false ↔ j < listed.size ∧ ¬ Done listed j := by
  unfold Done
  rw [Array.getD_eq_getD_getElem?, Array.getD_eq_getD_getElem?]
  rcases Nat.lt_or_ge j listed.size with q | q
  · rw [Array.getElem?_eq_getElem q]
    simp [q]
  · rw [Array.getElem?_eq_none q]
    simp
    omega
theorem done_set {listed : Array Bool} {i : Nat} (hi : i < listed.size) : Done (listed.setIfInBounds i true) = fun j => Done listed j ∨ j = i := funext fun j => propext (by
  unfold Done
  rw [Array.getD_eq_getD_getElem?, Array.getD_eq_getD_getElem?]
  by_cases hij : i = j
  · subst hij
    rw [Array.getElem?_setIfInBounds_self_of_lt hi]
    simp
  · rw [Array.getElem?_setIfInBounds_ne hij]
    simp [Ne.symm hij])
theorem all_done (h : Reg P R N rd ops σ rs) {listed : Array Bool} (hs : listed.size = ops.size) (hr : Region.ready .any ops listed = []) : ∀ j, j < ops.size → Done listed j := fun j => by
  induction j using Nat.strongRecOn with
  | _ j ih =>
    intro hj
    obtain ⟨o, ho⟩ := op_of hj
    refine Classical.byContradiction fun hn => ?_
    have : j ∈ Region.ready .any ops listed := mem_ready.2 ⟨getD_un.2 ⟨by omega, hn⟩, o, ho, fun e he hb => by
      have hlt := h.lex j o ho e.on (edges_of.2 ⟨e, he, hb, rfl⟩)
      exact ih e.on hlt (by omega)⟩
    rw [hr] at this
    cases this
theorem region_sim (hR : RExt R) (hC : SimC P R) (hF : SimF P R) (h : Reg P R N rd ops σ rs) (hfr : Fresh ρ0 (σ 0).W.next (σ ops.size).W.next) (hrd : RdOk ρ0 rd rb)
    (hQ : ∀ ρ a w, Inv P N ops σ ρ0 w0 (fun j => j < ops.size) ρ a w → Q .normal a w) : ∀ (fuel : Nat) (listed : Array Bool) (U : List Nat) (ρ : Ren) (a : Act) (w : World), listed.size = ops.size →
    (∀ j, j < ops.size → ¬ Done listed j → j ∈ U) → U.length ≤ fuel → Closed ops (Done listed) → Inv P N ops σ ρ0 w0 (Done listed) ρ a w → wpAnyIn (FW rb) m P .any ops Q fuel listed a w := by
  have fin : ∀ listed ρ a w, listed.size = ops.size → (∀ j, j < ops.size → Done listed j) → Inv P N ops σ ρ0 w0 (Done listed) ρ a w → Q .normal a w := fun listed ρ a w hs hall hI => by
    have e : Done listed = fun j => j < ops.size := funext fun j => propext ⟨fun k => hs ▸ done_lt k, hall j⟩
    rw [e] at hI
    exact hQ ρ a w hI
  intro fuel
  induction fuel with
  | zero =>
    intro listed U ρ a w hs hU hl hc hI
    have hU0 : U = [] := List.length_eq_zero_iff.1 (Nat.le_zero.1 hl)
    have hall : ∀ j, j < ops.size → Done listed j := fun j hj => Classical.byContradiction fun e => by
      have := hU j hj e
      rw [hU0] at this
      cases this
    refine ⟨?_, fin listed ρ a w hs hall hI⟩
    rw [List.eq_nil_iff_forall_not_mem]
    intro j hj
    obtain ⟨k1, k2⟩ := mem_ready.1 hj
    obtain ⟨q1, q2⟩ := getD_un.1 k1
    exact q2 (hall j (by omega))
  | succ fuel ih =>
    intro listed U ρ a w hs hU hl hc hI
    refine ⟨fun hnil => fin listed ρ a w hs (all_done h hs hnil) hI, fun i hi => ?_⟩
    obtain ⟨k1, o, ho, k2⟩ := mem_ready.1 hi
    obtain ⟨q1, q2⟩ := getD_un.1 k1
    have hr : Rdy ops (Done listed) i o := ⟨ho, q2, fun e he => by
      obtain ⟨x, p1, p2, rfl⟩ := edges_of.1 he
      exact k2 x p1 p2, hc⟩
    unfold wpOpIn
    rw [ho]
    refine op_step hR hC hF hI h hfr hr (hrd.mono hI.le) fun ρ' a' w' hI' => ?_
    have hset := done_set q1
    refine ih (listed.setIfInBounds i true) (U.erase i) ρ' a' w' (by simpa using hs) (fun j hj hn => ?_) ?_ (fun j oj hj hd e he => ?_) (by rw [hset]; exact hI')
    · rw [hset] at hn
      simp only [not_or] at hn
      exact (List.mem_erase_of_ne hn.2).2 (hU j hj hn.1)
    · rw [List.length_erase_of_mem (hU i (by omega) q2)]
      omega
    · rw [hset] at hd ⊢
      rcases hd with hd | rfl
      · exact .inl (hc j oj hj hd e he)
      · rw [ho] at hj
        cases hj
        exact .inl (hr.after e he)
theorem drawn_sim (hm : P.follows .mixedOrders = true) (R : XK) (hR : RExt R) (hC : SimC P R) (hF : SimF P R) : SimD P R := by
  intro N rd id ops s rs s' ht hk ρ rb a w m hrd hfr hH hFR hD
  obtain ⟨σ, h0, h1, h⟩ := reg_of hR ht hk
  subst h0 h1
  have hno : ∀ j, ¬ Done (Array.replicate ops.size false) j := fun j e => by
    have hj := done_lt e
    unfold Done at e
    rw [Array.getD_eq_getD_getElem?, Array.getElem?_eq_getElem hj] at e
    simp at e
  have hV : VD ops σ (Done (Array.replicate ops.size false)) = (σ 0).W.get := funext fun n => by
    unfold VD
    rw [pick_none (Nat.zero_le _) fun j _ _ e => hno j e.1]
    rfl
  have hT : ∀ t, TD ops σ (Done (Array.replicate ops.size false)) t = (σ 0).fr.get t := fun t => by
    unfold TD
    rw [pick_none (Nat.zero_le _) fun j _ _ e => hno j e.1]
    rfl
  refine wpIn_region_any hm (region_sim (ρ0 := ρ) (w0 := w.drew) hR hC hF h hfr hrd (fun ρ' a' w' hI => ?_) ops.size _ (List.range ops.size) ρ a w.drew (by simp) (fun j hj _ => List.mem_range.2 hj) (by simp) (fun j o ho hd => absurd hd (hno j)) ?_)
  · have hV' : VD ops σ (fun j => j < ops.size) = (σ ops.size).W.get := funext fun n =>
      pick_at (f := fun j => (σ j).W.get n) (τ := fun j => Tch σ j n) (i := ops.size) (Nat.le_refl _) (fun j hj ht => h.stW hj ht) fun j hj => Iff.rfl
    have hT' : ∀ t, TD ops σ (fun j => j < ops.size) t = (σ ops.size).fr.get t := fun t =>
      pick_at (f := fun j => (σ j).fr.get t) (τ := fun j => Wr ops j t) (i := ops.size) (Nat.le_refl _) (fun j hj ht => h.stT hj ht) fun j hj => Iff.rfl
    refine ⟨ρ', ⟨Step.drew ⟨hI.le, hI.keeps, fun b hb => ?_, fun n hn => ?_, h.nx (Nat.zero_le _) (Nat.le_refl _)⟩, ?_, ⟨hI.sz, fun t v e => hI.tm t v (by rw [hT']; exact e)⟩, ?_⟩, trivial⟩
    · rw [← hV'] at hb; exact hI.img b hb
    · rcases hI.dom n hn with q | ⟨j, q1, q2, q3, q4⟩
      · exact .inl q
      · have k1 := h.nx (i := 0) (j := j) (Nat.zero_le _) (by omega)
        have k2 := h.nx (i := j + 1) (j := ops.size) q2 (Nat.le_refl _)
        exact .inr ⟨by omega, by omega⟩
    · rw [← hV']; exact hI.hr
    · rw [h.ds _ (Nat.le_refl _)]; exact hI.ds
  · refine ⟨by rw [hV]; exact hH.drew, .refl _, .refl _ _, fun b hb => .inl (by rw [hV] at hb; exact hb), fun n hn => .inl hn, hFR.size, fun t v e => hFR.rep t v (by rw [hT] at e; exact e), hD⟩
/-- **the whole**: a function that the abstract machine carries out is carried out so by the model, on whatever heap stands for the abstract one -/
theorem sound {H : Hooks} (hm : P.follows .mixedOrders = true) (hS : HSim P H) {n : Nat} {f : FuncId} {args : List Value} {W W' : XW} {e : XEnd} (h : xrun P H n (.call f args W) = some (.fin e W')) {ρ : Ren} {args' : List Value} {w : World}
    (hfr : Fresh ρ W.next W'.next) (hH : HR P ρ W.get w) (hA : VRs ρ args args') : CallsIn Fence.wide 0 P f args'.toArray w (QF P ρ W w e W') :=
  ((xrun_sim hm hS (drawn_sim hm) n).2.1 f args W e W' h).2 ρ args' w 0 hfr hH hA
#print axioms sound
end
end Go.Proofs.YthlkgmdkabelpaaGreatDoor.X
