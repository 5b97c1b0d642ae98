/-
  What a run changes of the abstract heap: the log tells. Over any program, any known functions that keep to it. No condition.
-/
import Derived.Test.YthlkgmdkabelpaaGreatDoorE12
namespace Go.Proofs.YthlkgmdkabelpaaGreatDoor.X
open Go Go.RowKit
set_option linter.unusedVariables false

def inW : XT → XW
  | .code _ _ _ s => s.W
  | .call _ _ W => W
def outW : XO → XW
  | .code _ s => s.W
  | .fin _ W => W
def O1.W : O1 → XW
  | .on s => s.W
  | .out _ s => s.W
structure HExt (H : Hooks) : Prop where
  call : ∀ f h args W v W', H.call f = some h → h args W = some (v, W') → Ext W W'
  defd : ∀ f h args p W p' W', H.defd f = some h → h args p W = some (p', W') → Ext W W'
def RExt (R : XK) : Prop := ∀ t o, R t = some o → Ext (inW t) (outW o)

section
variable {P : Program} {R : XK} {N : Nat} {rd : Option Nat} {all : Array Oper}
theorem onK_W {W : XW} {ds : List XDef} {o : Option XF} {r : O1} (h : onK W ds o = some r) : r.W = W := by
  unfold onK at h
  split at h <;> cases h
  rfl
theorem rdK5_ext {fr : XF} {d : Option Tmp} {ds : List XDef} {lp : Nat} {W : XW} {j : Option (LoopState × Option Code × Bool)} {o : Option XObj} {r : O1} (h : rdK5 N fr d ds lp W j o = some r) : Ext W r.W := by
  unfold rdK5 at h
  split at h
  · rw [onK_W h]; exact .put _ _ _
  · cases h
theorem opK_ext (hR : RExt R) {s : XS} {d : Option Tmp} {x : Option XR} {r : O1} (hm : ∀ v W', x = some (.mod v W') → Ext s.W W') (h : opK R N rd s d x = some r) : Ext s.W r.W := by
  unfold opK at h
  split at h
  · rw [onK_W h]; exact .refl _
  · rw [onK_W h]; exact .push _ _
  · rw [onK_W h]; exact hm _ _ rfl
  · cases h; exact .refl _
  · unfold dfK at h
    split at h
    · rw [onK_W h]; exact .refl _
    · cases h
  · rename_i f args
    unfold callK at h
    split at h
    · rename_i v W hq; rw [onK_W h]; exact hR _ _ hq
    · rename_i v W hq; cases h; exact hR _ _ hq
    · cases h
  · rename_i lp args
    unfold rdK at h
    split at h
    · unfold rdK1 at h
      split at h
      · unfold rdK2 at h
        split at h
        · rename_i s1 hq
          have e1 : Ext s.W s1.W := hR _ _ hq
          refine e1.trans ?_
          unfold rdK3 at h
          split at h
          · unfold rdK4 at h
            split at h
            · rename_i e s2 hq2
              have e2 := hR _ _ hq2
              exact (Ext.put _ _ _).trans (e2.trans (rdK5_ext h))
            · cases h
          · cases h
        · cases h
      · cases h
    · cases h
  · cases h
theorem op1_ext (hR : RExt R) {s : XS} {o : Oper} {r : O1} (h : op1 P R N rd all s o = some r) : Ext s.W r.W := by
  unfold op1 wantK at h
  split at h
  · exact opK_ext hR (fun v W' q => xop_ext q) h
  · rw [onK_W h]; exact .refl _
  · cases h
theorem opsX_ext (hR : RExt R) : ∀ (l : List Oper) (s : XS) (o : XO), opsX P R N rd all l s = some o → Ext s.W (outW o)
  | [], s, o, h => by cases h; exact .refl _
  | x :: l, s, o, h => by
    unfold opsX opsK at h
    split at h
    · rename_i s1 hq; exact (op1_ext hR hq).trans (opsX_ext hR l s1 o h)
    · rename_i v s1 hq; cases h; exact op1_ext hR hq
    · cases h
theorem traceX_ext (hR : RExt R) : ∀ (l : List Oper) (s : XS) (rs : List XRec) (s' : XS), traceX P R N rd all l s = some (rs, s') → Ext s.W s'.W
  | [], s, rs, s', h => by cases h; exact .refl _
  | x :: l, s, rs, s', h => by
    unfold traceX trc1 at h
    split at h
    · rename_i s1 hq
      unfold trcK at h
      split at h
      · rename_i l1 t hq2; cases h; exact (op1_ext hR hq).trans (traceX_ext hR l s1 l1 _ hq2)
      · cases h
    · cases h
theorem seqK_ext {W : XW} {k : XS → Option XO} {x : Option XO} {o : XO} (hx : ∀ q, x = some q → Ext W (outW q)) (hk : ∀ s q, k s = some q → Ext s.W (outW q)) (h : seqK k x = some o) : Ext W (outW o) := by
  unfold seqK at h
  split at h
  · rename_i s; exact (hx _ rfl).trans (hk _ _ h)
  · exact hx _ h
theorem pendK_W {s : XS} {c : Option Code} {o : XO} (h : pendK s c = some o) : outW o = s.W := by
  unfold pendK at h
  split at h <;> cases h <;> rfl
theorem codeX_ext (hR : RExt R) {s : XS} {c : Code} {o : XO} (h : codeX P R N rd s c = some o) : Ext s.W (outW o) := by
  unfold codeX at h
  split at h
  · cases h; exact .refl _
  · cases h; exact .refl _
  · cases h; exact .refl _
  · exact seqK_ext (fun q e => hR (.code N rd _ s) q e) (fun s q e => hR (.code N rd _ s) q e) h
  · unfold condK at h
    split at h
    · exact hR _ _ h
    · cases h
  · unfold blockK at h
    split at h
    · rename_i i s1 hq
      have e1 := hR _ _ hq
      cases hb : Nat.beq i _ <;> rw [hb] at h <;> cases h <;> exact e1
    · exact hR _ _ h
  · exact seqK_ext (fun q e => hR (.code N rd _ s) q e) (fun s q e => hR (.code N rd _ s) q e) h
  · exact opsX_ext hR _ _ _ h
  · unfold drawK at h
    split at h
    · rename_i rs s1 hq
      cases hb : okD P _ s.ds.length rs <;> rw [hb] at h <;> cases h
      exact traceX_ext hR _ _ _ _ hq
    · cases h
  · unfold rfK at h
    split at h
    · rename_i g a cap
      unfold rfK1 at h
      split at h
      · rename_i d mk W hq
        have e0 : Ext s.W W := by
          unfold enterX at hq
          split at hq
          · cases hq; exact .push _ _
          · split at hq
            · cases hq; exact .refl _
            · cases hq
        refine e0.trans ?_
        unfold rfK3 at h
        split at h
        · rename_i v W1 hq2
          have e1 := hR _ _ hq2
          refine (Ext.push _ _).trans (e1.trans ?_)
          unfold loopEnd at h
          split at h
          · rename_i st pend tm N' ps' asg' body' d' hq3
            cases hb : isBusy st <;> rw [hb] at h
            · rw [pendK_W h]; exact .put _ _ _
            · cases h
          · cases h
        · cases h
      · cases h
    · cases h
  · cases h
theorem settle_ext {H : Hooks} (hH : HExt H) : ∀ (ds : List XDef) (p : Option Value) (W : XW) (p' : Option Value) (W' : XW), settleX H ds p W = some (p', W') → Ext W W'
  | [], p, W, p', W', h => by cases h; exact .refl _
  | .mark r :: ds, p, W, p', W', h => by
    unfold settleX at h
    split at h
    · exact (Ext.put _ _ _).trans (settle_ext hH ds _ _ _ _ h)
    · cases h
  | .call f args cap :: ds, p, W, p', W', h => by
    unfold settleX at h
    split at h
    · rename_i k hk
      split at h
      · rename_i p1 W1 hq; exact (hH.defd _ _ _ _ _ _ _ hk hq).trans (settle_ext hH ds _ _ _ _ h)
      · cases h
    · cases h
theorem callX_ext {H : Hooks} (hH : HExt H) (hR : RExt R) {f : FuncId} {args : List Value} {W : XW} {o : XO} (h : callX P H R f args W (H.call f) = some o) : Ext W (outW o) := by
  unfold callX at h
  split at h
  · rename_i k hk
    unfold hookO at h
    split at h
    · rename_i v W1 hq; cases h; exact hH.call _ _ _ _ _ _ hk hq
    · cases h
  · unfold funK at h
    split at h
    · rename_i fn hf
      refine (fun (q : fnK P H R fn args W fn.body = some o) => ?_) (by cases hn : notNum fn <;> rw [hn] at h <;> first | cases h | exact h)
      unfold fnK at q
      split at q
      · rename_i c hc
        cases hb : Nat.ble args.length fn.ntmps <;> rw [hb] at q
        · cases q
        · simp only [cond_true] at q
          unfold bodyK at q
          split at q
          · rename_i e s hq
            have e1 : Ext W s.W := hR _ _ hq
            refine e1.trans ?_
            unfold endK at q
            split at q
            · rename_i p hp
              unfold finK at q
              split at q
              · rename_i v W1 hs; cases q; exact settle_ext hH _ _ _ _ _ hs
              · rename_i W1 hs
                unfold finO at q
                split at q
                · cases q; exact settle_ext hH _ _ _ _ _ hs
                · cases q
              · cases q
            · cases q
          · cases q
      · cases q
    · cases h
theorem xrun_ext {H : Hooks} (hH : HExt H) : ∀ n, RExt (xrun P H n)
  | 0 => fun t o h => by cases h
  | n + 1 => fun t o h => by
    cases t with
    | code N rd c s => exact codeX_ext (xrun_ext hH n) h
    | call f args W => exact callX_ext hH (xrun_ext hH n) h
end
end Go.Proofs.YthlkgmdkabelpaaGreatDoor.X
