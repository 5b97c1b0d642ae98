/-
  The end of a function: its deferred calls, its results; a call. Over any program, any known functions of which the model keeps what is said. No condition.
-/
import Derived.Test.YthlkgmdkabelpaaGreatDoorE16
import Derived.RangeFuncLeaves
namespace Go.Proofs.YthlkgmdkabelpaaGreatDoor.X
open Go Go.RowKit
set_option linter.unusedVariables false

theorem semBindAssoc {α β γ : Type} (x : Sem α) (f : α → Sem β) (g : β → Sem γ) : (x.bind f).bind g = x.bind (fun a => (f a).bind g) := by
  induction x <;> simp only [Sem.bind, *]
theorem semBindPure {α : Type} (x : Sem α) : x.bind Sem.pure = x := by
  induction x <;> simp only [Sem.bind, *]
theorem semLawful : LawfulMonad Sem := LawfulMonad.mk' Sem (id_map := fun x => semBindPure x) (pure_bind := fun _ _ => rfl) (bind_assoc := fun x f g => semBindAssoc x f g)

def PanR (ρ : Ren) : Option Value → FrameMode → Prop
  | none, .returning => True
  | some v, .panicking ch => ∃ v', VR ρ v v' ∧ ch = [{ v := v', recovered := false }]
  | _, _ => False
structure HSim (P : Program) (H : Hooks) : Prop where
  ext : HExt H
  enters : ∀ f h, H.call f = some h → Enters P f
  call : ∀ f h args W v W', H.call f = some h → h args W = some (v, W') → ∀ ρ args' w m, Fresh ρ W.next W'.next → HR P ρ W.get w → VRs ρ args args' → CallsIn Fence.wide m P f args'.toArray w (QF P ρ W w (.ret v) W')
  entersD : ∀ f h, H.defd f = some h → Enters P f
  defd : ∀ f h args p W p' W', H.defd f = some h → h args p W = some (p', W') → ∀ ρ args' w m u, Fresh ρ W.next W'.next → HR P ρ W.get w → VRs ρ args args' → PanR ρ p u →
    CallsDIn Fence.wide m P f args'.toArray u w fun en u' w' => (∃ v, en = .returned v) ∧ ∃ ρ', Step ρ W.get W.next w ρ' W'.get W'.next w' ∧ HR P ρ' W'.get w' ∧ PanR ρ' p' (settle u')

section
variable {P : Program} {ρ : Ren}
theorem resV_sim {W : XW} {w : World} {fr : XF} {N : Nat} {tm : Array Value} {g : ResultVar → Sem Value} (hg1 : ∀ t, g (.tmp t) = pure (tm.getD t undef)) (hg2 : ∀ a t, g (.cell a t) = do loadVar t (← asAddr (tm.getD a undef)))
    {r : ResultVar} {v : Value} (hH : HR P ρ W.get w) (hF : FR ρ N fr tm) (h : resV P W fr r = some v) : ∃ u, (g r).run P w = .ok u w ∧ VR ρ v u := by
  unfold resV at h
  split at h
  · rw [hg1]; exact ⟨_, rfl, hF.rep _ _ h⟩
  · rename_i a t
    split at h
    · rename_i p hp
      obtain ⟨b, u, h1, h2, h3⟩ := loadX_sim hH (hF.rep _ _ hp) h
      refine ⟨u, ?_, h3⟩
      rw [hg2, h1]
      exact h2
    · cases h
theorem resL_sim {W : XW} {w : World} {fr : XF} {N : Nat} {tm : Array Value} {g : ResultVar → Sem Value} (hg1 : ∀ t, g (.tmp t) = pure (tm.getD t undef)) (hg2 : ∀ a t, g (.cell a t) = do loadVar t (← asAddr (tm.getD a undef)))
    (hH : HR P ρ W.get w) (hF : FR ρ N fr tm) : ∀ (l : List ResultVar) (vs : List Value), resX P W fr l = some vs → ∃ us, (l.mapM g).run P w = .ok us w ∧ VRs ρ vs us
  | [], vs, h => by cases h; exact ⟨[], rfl, .nil⟩
  | r :: l, vs, h => by
    unfold resX at h
    split at h
    · rename_i v us h1 h2
      cases h
      obtain ⟨u, q1, q2⟩ := resV_sim hg1 hg2 hH hF h1
      obtain ⟨us', q3, q4⟩ := resL_sim hg1 hg2 hH hF l us h2
      refine ⟨u :: us', ?_, .cons _ _ _ _ q2 q4⟩
      have := semLawful
      rw [List.mapM_cons, Sem.run_bind, q1, Result.andThen_ok, Sem.run_bind, q3, Result.andThen_ok]
      rfl
    · cases h
theorem oneOr_sim {vs us : List Value} (h : VRs ρ vs us) : VR ρ (oneOr vs) (if h : us.toArray.size = 1 then us.toArray[0] else .tuple us.toArray) := by
  cases h with
  | nil => exact .tuple [] [] .nil
  | cons v u l l' hv hs =>
    cases hs with
    | nil => exact hv
    | cons v2 u2 l2 l2' hv2 hs2 =>
      rw [dif_neg (by simp)]
      exact .tuple _ _ (.cons _ _ _ _ hv (.cons _ _ _ _ hv2 hs2))
def resG (tm : Array Value) : ResultVar → Sem Value
  | .tmp t => pure (tm.getD t undef)
  | .cell a t => do loadVar t (← asAddr (tm.getD a undef))
theorem results_eq (fn : Func) (tm : Array Value) : results fn tm = (do let vs ← fn.results.mapM (resG tm); pure (if h : vs.size = 1 then vs[0] else .tuple vs)) := rfl
theorem results_sim {W : XW} {w : World} {fr : XF} {N : Nat} {tm : Array Value} {fn : Func} {vs : List Value} (hH : HR P ρ W.get w) (hF : FR ρ N fr tm) (h : resX P W fr fn.results.toList = some vs) :
    ∃ u, (results fn tm).run P w = .ok u w ∧ VR ρ (oneOr vs) u := by
  have := semLawful
  obtain ⟨us, h1, h2⟩ := resL_sim (g := resG tm) (fun _ => rfl) (fun _ _ => rfl) hH hF _ _ h
  refine ⟨_, ?_, oneOr_sim h2⟩
  rw [results_eq, Array.mapM_eq_mapM_toList, map_eq_pure_bind, Sem.run_bind, Sem.run_bind, h1]
  rfl
theorem run_takeDeferred {w : World} {b : Nat} (h : w.heap[b]? = some (.deferred (some []))) : (Instr.takeDeferred b).run P w = .ok [] (setO w b (.deferred none)) := by
  unfold Instr.takeDeferred
  rw [Sem.run_bind]
  simp only [getObj, Sem.run, h, Result.andThen_ok]
  rw [Sem.run_bind]
  simp only [setObj, Sem.run, h, Result.andThen_ok]
  rfl
theorem settle_pan {p : Option Value} {u : FrameMode} (h : PanR ρ p u) : settle u = u := by
  cases p with
  | none => cases u <;> first | rfl | exact h.elim
  | some v =>
    cases u <;> first | rfl | skip
    obtain ⟨v', _, rfl⟩ := h
    rfl
theorem pan_run {p : Option Value} {u : FrameMode} (h : PanR ρ p u) : u ≠ .run := by
  rintro rfl
  cases p <;> exact h
theorem PanR.mono {ρ' : Ren} (hr : ρ.le ρ') {p : Option Value} {u : FrameMode} (h : PanR ρ p u) : PanR ρ' p u := by
  cases p with
  | none => cases u <;> exact h
  | some v =>
    cases u <;> first | exact h | skip
    obtain ⟨v', h1, h2⟩ := h
    exact ⟨v', h1.mono hr, h2⟩
theorem settle_sim {H : Hooks} (hS : HSim P H) {fn : Func} {tm : Array Value} {T : Ending → World → Prop} {m : Nat} {p' : Option Value} {W' : XW} : ∀ (ds : List XDef) (p : Option Value) (W : XW), settleX H ds p W = some (p', W') →
    ∀ (ρ : Ren) (l : List Deferred) (w : World) (u : FrameMode), Fresh ρ W.next W'.next → HR P ρ W.get w → DRs ρ ds l → PanR ρ p u →
    (∀ ρ' u' w', Step ρ W.get W.next w ρ' W'.get W'.next w' → HR P ρ' W'.get w' → PanR ρ' p' u' → LeavesIn Fence.wide m P fn tm T [] u' w') → LeavesInM Fence.wide m P fn tm T l u w
  | [], p, W, h, ρ, l, w, u, hfr, hH, hD, hp, hk => by
    cases h
    cases hD
    exact hk ρ u w (.refl _ _ _ _) hH hp
  | .mark r :: ds, p, W, h, ρ, l, w, u, hfr, hH, hD, hp, hk => by
    cases hD with
    | mark _ i _ ds' hr hD =>
      unfold settleX at h
      split at h
      · rename_i hg
        obtain ⟨ob, hb, hor⟩ := hH.obj r i _ hr hg
        cases hor
        obtain ⟨p1, p2⟩ := hH.put hr (by rw [hg]; simp) (.defd true) (setO_keep w i.b _) (setO_at hb) .defd1
        refine ⟨pan_run hp, .inl ⟨i.b, _, rfl, run_takeDeferred hb, ?_⟩⟩
        exact settle_sim hS ds p _ h ρ ds' _ u hfr p1 hD hp fun ρ' u' w' g1 g2 g3 => hk ρ' u' w' (p2.trans g1) g2 g3
      · cases h
  | .call f args cap :: ds, p, W, h, ρ, l, w, u, hfr, hH, hD, hp, hk => by
    cases hD with
    | call _ _ _ args' cap' _ ds' h1 h2 hD =>
      unfold settleX at h
      split at h
      · rename_i k hkk
        split at h
        · rename_i p1 W1 hq
          have n1 : W.next ≤ W1.next := (hS.ext.defd _ _ _ _ _ _ _ hkk hq).next
          have n2 : W1.next ≤ W'.next := (settle_ext hS.ext _ _ _ _ _ h).next
          have hen := hS.entersD _ _ hkk
          have ea : args'.toArray ++ cap'.toArray = (args' ++ cap').toArray := by simp
          refine ⟨pan_run hp, .inr ⟨fun h => (by cases h), .func f, cap'.toArray, f, args'.toArray ++ cap'.toArray, rfl, run_enter hen, fun _ _ => trivial, ?_⟩⟩
          rw [ea]
          refine CallsDIn.mono (hS.defd _ _ _ _ _ _ _ hkk hq ρ _ w (m - 1) u (hfr.left n2) hH (h1.append h2) hp) fun en u' w' g => ?_
          obtain ⟨⟨v, rfl⟩, ρ1, g1, g2, g3⟩ := g
          exact settle_sim hS ds p1 W1 h ρ1 ds' w' (settle u') (hfr.right g1) g2 (hD.mono g1.le) g3 fun ρ' u2 w2 k1 k2 k3 => hk ρ' u2 w2 (g1.trans k1) k2 k3
        · cases h
      · cases h
theorem setAll_get : ∀ (l : List Value) (fr : XF) (n t : Nat) (v : Value), (setAll fr n l).get t = some v → (n ≤ t ∧ l[t - n]? = some v) ∨ fr.get t = some v
  | [], fr, n, t, v, h => .inr h
  | u :: l, fr, n, t, v, h => by
    rcases setAll_get l _ _ t v h with ⟨h1, h2⟩ | h
    · refine .inl ⟨by omega, ?_⟩
      have : t - n = t - (n + 1) + 1 := by omega
      rw [this]
      simpa using h2
    · rcases PT.set_some h with ⟨rfl, hq⟩ | ⟨_, hq⟩
      · exact .inl ⟨Nat.le_refl _, by simpa using hq⟩
      · exact .inr hq
theorem frOf_sim {args args' : List Value} {N : Nat} (h : VRs ρ args args') (hN : args.length ≤ N) : FR ρ N (frOf args) (args'.toArray ++ Array.replicate (N - args'.toArray.size) undef) := by
  have hl := h.length
  refine ⟨by simp; omega, fun t v hv => ?_⟩
  rcases setAll_get _ _ _ _ _ hv with ⟨_, h1⟩ | h1
  · obtain ⟨u, q1, q2⟩ := h.get t v (by simpa using h1)
    have : (args'.toArray ++ Array.replicate (N - args'.toArray.size) undef).getD t undef = u := by
      rw [Array.getD_eq_getD_getElem?, Array.getElem?_append_left (by
        have := (List.getElem?_eq_some_iff.1 q1).1
        simpa using this)]
      simp [q1]
    rw [this]
    exact q2
  · rw [PT.get_full] at h1; cases h1
theorem call_sim {H : Hooks} {R : XK} (hS : HSim P H) (hR : RExt R) (hC : SimC P R) {f : FuncId} {args : List Value} {W : XW} {e : XEnd} {W' : XW} (h : callX P H R f args W (H.call f) = some (.fin e W')) :
    Enters P f ∧ ∀ ρ args' w m, Fresh ρ W.next W'.next → HR P ρ W.get w → VRs ρ args args' → CallsIn Fence.wide m P f args'.toArray w (QF P ρ W w e W') := by
  unfold callX at h
  split at h
  · rename_i k hk
    unfold hookO at h
    split at h
    · rename_i v W1 hq; cases h; exact ⟨hS.enters _ _ hk, hS.call _ _ _ _ _ _ hk hq⟩
    · cases h
  · unfold funK at h
    split at h
    · rename_i fn hf
      cases hn : notNum fn <;> rw [hn] at h
      · cases h
      have h : fnK P H R fn args W fn.body = some (.fin e W') := h
      unfold fnK at h
      split at h
      · rename_i c hc
        cases hb : Nat.ble args.length fn.ntmps <;> rw [hb] at h
        · cases h
        have h : bodyK P H fn (R (.code fn.ntmps none c ⟨frOf args, W, []⟩)) = some (.fin e W') := h
        refine ⟨⟨fn, hf, hn, by rw [hc]; rfl⟩, fun ρ args' w m hfr hH hA => ?_⟩
        unfold bodyK at h
        split at h
        · rename_i ex s hq
          unfold endK at h
          split at h
          · rename_i p hp
            have n1 : W.next ≤ s.W.next := (hR _ _ hq).next
            have key : ∀ W2 p2, settleX H s.ds p s.W = some (p2, W2) → W'.next = W2.next → (∀ ρ' u' w', Step ρ W.get W.next w ρ' W2.get W2.next w' → HR P ρ' W2.get w' → PanR ρ' p2 u' → ∀ tm, FR ρ' fn.ntmps s.fr tm → LeavesIn Fence.wide m P fn tm (QF P ρ W w e W') [] u' w') →
                CallsIn Fence.wide m P f args'.toArray w (QF P ρ W w e W') := fun W2 p2 hs hW hk => by
              rw [hW] at hfr
              have n2 : s.W.next ≤ W2.next := (settle_ext hS.ext _ _ _ _ _ hs).next
              refine callsIn_of_wp_marks hf hc trivial (wpIn_mono (hC _ _ _ _ _ _ hq ρ none { tmps := _, defers := [] } w m trivial (hfr.left n2) hH (frOf_sim hA (Nat.le_of_ble_eq_true hb)) .nil) fun x a1 w1 hx => ?_) rfl
              obtain ⟨ρ1, ⟨g1, g2, g3, g4⟩, hx⟩ := hx
              have go : ∀ u, PanR ρ1 p u → LeavesInM Fence.wide m P fn a1.tmps (QF P ρ W w e W') a1.defers u w1 := fun u hu =>
                settle_sim hS _ _ _ hs ρ1 _ w1 u (hfr.right g1) g2 g4 hu fun ρ' u' w' k1 k2 k3 => hk ρ' u' w' (g1.trans k1) k2 k3 _ (g3.mono k1.le)
              cases ex <;> cases x <;> first | exact hx.elim | skip
              · cases hp; exact go .returning trivial
              · cases hp
              · cases hp; exact go .returning trivial
              · cases hp
                obtain ⟨v', h1, rfl⟩ := hx
                exact go (.panicking _) ⟨v', h1, rfl⟩
            unfold finK at h
            split at h
            · rename_i v W1 hs
              cases h
              refine key _ _ hs rfl fun ρ' u' w' g1 g2 g3 tm hF => ?_
              cases u' <;> first | exact g3.elim | skip
              exact ⟨ρ', g1, g2, g3⟩
            · rename_i W1 hs
              unfold finO at h
              split at h
              · rename_i vs hr
                cases h
                refine key _ _ hs rfl fun ρ' u' w' g1 g2 g3 tm hF => ?_
                cases u' <;> first | exact g3.elim | skip
                obtain ⟨u, q1, q2⟩ := results_sim g2 hF hr
                exact ⟨u, q1, ρ', g1, g2, q2⟩
              · cases h
            · cases h
          · cases h
        · cases h
      · cases h
    · cases h
/-- the whole -/
theorem xrun_sim {H : Hooks} (hm : P.follows .mixedOrders = true) (hS : HSim P H) (hD : ∀ R, RExt R → SimC P R → SimF P R → SimD P R) : ∀ n, SimC P (xrun P H n) ∧ SimF P (xrun P H n) ∧ SimL P (xrun P H n)
  | 0 => ⟨fun _ _ _ _ _ _ h => (by cases h), fun _ _ _ _ _ h => (by cases h), fun _ _ _ _ _ _ h => (by cases h)⟩
  | n + 1 => by
    obtain ⟨hC, hF, hL⟩ := xrun_sim hm hS hD n
    have hR := xrun_ext (P := P) hS.ext n
    have hDr := hD _ hR hC hF
    exact ⟨fun N rd c s e s' h ρ rb a w m h1 h2 h3 h4 h5 => (code_sim hm hR hC hF hL hDr h h1 h2 h3 h4 h5).1,
      fun f args W e W' h => call_sim hS hR hC h,
      fun N rd b s e s' h ρ rb a w m h1 h2 h3 h4 h5 => (code_sim (c := .loop b) hm hR hC hF hL hDr (show codeX P (xrun P H n) N rd s (.loop b) = _ from h) h1 h2 h3 h4 h5).2 b rfl⟩
end
end Go.Proofs.YthlkgmdkabelpaaGreatDoor.X
