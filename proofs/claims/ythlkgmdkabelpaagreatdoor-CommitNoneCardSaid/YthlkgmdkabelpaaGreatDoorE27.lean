/-
  What is known of functions of this program, as hooks of the abstract machine. No condition.
-/
import Derived.Test.YthlkgmdkabelpaaGreatDoorE25
import Derived.Test.YthlkgmdkabelpaaGreatDoorE26
import Derived.Test.YthlkgmdkabelpaaGreatDoorHSum
namespace Go.Proofs.YthlkgmdkabelpaaGreatDoor.X
open Go Go.RowKit
set_option linter.unusedVariables false

theorem mixed : Tryz.prog.follows .mixedOrders = true := by kernel_rfl
def entersB (P : Program) (f : FuncId) : Bool := match P.funcs[f]? with
  | some fn => notNum fn && fn.body.isSome
  | none => false
theorem enters_of {P : Program} {f : FuncId} (h : entersB P f = true) : Enters P f := by
  unfold entersB at h
  split at h
  · rename_i fn hf
    simp only [Bool.and_eq_true] at h
    exact ⟨fn, hf, h.1, h.2⟩
  · cases h
theorem entersSum : entersB Tryz.prog 61 = true := by kernel_rfl
theorem entersCC : entersB Tryz.prog 64 = true := by kernel_rfl
noncomputable def callH (f : FuncId) : Option (List Value → XW → Option (Value × XW)) :=
  bif Nat.beq f 61 then some hSum else bif Nat.beq f 64 then some (hCopyCheck Tryz.prog 76) else none
noncomputable def base : Hooks := ⟨callH, fun _ => none⟩
noncomputable def deferH (n : Nat) (f : FuncId) : Option (List Value → Option Value → XW → Option (Option Value × XW)) :=
  bif Nat.beq f 96 || Nat.beq f 34 then some (dRun Tryz.prog (xrun Tryz.prog base n) f) else none
noncomputable def hooks (n : Nat) : Hooks := ⟨callH, deferH n⟩
theorem callH_some {f : FuncId} {h : List Value → XW → Option (Value × XW)} (hf : callH f = some h) : (f = 61 ∧ h = hSum) ∨ (f = 64 ∧ h = hCopyCheck Tryz.prog 76) := by
  unfold callH at hf
  cases h1 : Nat.beq f 61 with
  | true => rw [h1] at hf; cases hf; exact .inl ⟨Nat.eq_of_beq_eq_true h1, rfl⟩
  | false =>
    rw [h1] at hf
    cases h2 : Nat.beq f 64 with
    | true => rw [h2] at hf; cases hf; exact .inr ⟨Nat.eq_of_beq_eq_true h2, rfl⟩
    | false => rw [h2] at hf; cases hf
theorem call_ext : ∀ f h args W v W', callH f = some h → h args W = some (v, W') → Ext W W' := fun f h args W v W' hf hh => by
  rcases callH_some hf with ⟨rfl, rfl⟩ | ⟨rfl, rfl⟩
  · exact hSum_ext hh
  · exact hCopyCheck_ext hh
theorem call_enters : ∀ f h, callH f = some h → Enters Tryz.prog f := fun f h hf => by
  rcases callH_some hf with ⟨rfl, rfl⟩ | ⟨rfl, rfl⟩
  · exact enters_of entersSum
  · exact enters_of entersCC
theorem call_is : ∀ f h args W v W', callH f = some h → h args W = some (v, W') → ∀ ρ args' w m, Fresh ρ W.next W'.next → HR Tryz.prog ρ W.get w → VRs ρ args args' → CallsIn Fence.wide m Tryz.prog f args'.toArray w (QF Tryz.prog ρ W w (.ret v) W') :=
  fun f h args W v W' hf hh ρ args' w m hfr hH hA => by
    rcases callH_some hf with ⟨rfl, rfl⟩ | ⟨rfl, rfl⟩
    · exact hSum_sim (fun s w hs => sum_any s w hs) hh hH hA
    · exact hCopyCheck_sim ccUsed ccFirst hh hH hA
theorem base_is : HSim Tryz.prog base := ⟨⟨call_ext, fun f h args p W p' W' hf => (by cases hf)⟩, call_enters, call_is, fun f h hf => (by cases hf), fun f h args p W p' W' hf => (by cases hf)⟩
theorem deferH_some {n : Nat} {f : FuncId} {h : List Value → Option Value → XW → Option (Option Value × XW)} (hf : deferH n f = some h) : h = dRun Tryz.prog (xrun Tryz.prog base n) f ∧ (f = 96 ∨ f = 34) := by
  unfold deferH at hf
  cases h1 : (Nat.beq f 96 || Nat.beq f 34) with
  | true =>
    rw [h1] at hf
    simp only [Bool.or_eq_true] at h1
    exact ⟨(Option.some.inj hf).symm, h1.imp Nat.eq_of_beq_eq_true Nat.eq_of_beq_eq_true⟩
  | false => rw [h1] at hf; cases hf
theorem entersG : entersB Tryz.prog 96 = true := by kernel_rfl
theorem entersD : entersB Tryz.prog 34 = true := by kernel_rfl
theorem hooks_are (n : Nat) : HSim Tryz.prog (hooks n) := by
  have hR := xrun_ext (P := Tryz.prog) base_is.ext n
  have hC := (xrun_sim mixed base_is (drawn_sim mixed) n).1
  refine ⟨⟨call_ext, fun f h args p W p' W' hf hh => ?_⟩, call_enters, call_is, fun f h hf => ?_, fun f h args p W p' W' hf hh => ?_⟩
  · obtain ⟨rfl, _⟩ := deferH_some hf
    exact (dRun_sim hR hC hh).2.1
  · rcases (deferH_some hf).2 with rfl | rfl
    · exact enters_of entersG
    · exact enters_of entersD
  · obtain ⟨rfl, _⟩ := deferH_some hf
    exact (dRun_sim hR hC hh).2.2
/-- what the machine says of this program is so -/
theorem carried {n m : Nat} {f : FuncId} {args : List Value} {W W' : XW} {e : XEnd} (h : xrun Tryz.prog (hooks n) m (.call f args W) = some (.fin e W')) {ρ : Ren} {args' : List Value} {w : World}
    (hfr : Fresh ρ W.next W'.next) (hH : HR Tryz.prog ρ W.get w) (hA : VRs ρ args args') : CallsIn Fence.wide 0 Tryz.prog f args'.toArray w (QF Tryz.prog ρ W w e W') := sound mixed (hooks_are n) h hfr hH hA
#print axioms carried
end Go.Proofs.YthlkgmdkabelpaaGreatDoor.X
