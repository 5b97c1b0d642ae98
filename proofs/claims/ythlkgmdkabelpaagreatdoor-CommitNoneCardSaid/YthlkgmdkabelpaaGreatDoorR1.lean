/-
  The hooks with the law's own check among them; a call with arguments that hold no address. No condition.
-/
import Derived.Test.YthlkgmdkabelpaaGreatDoorQF
namespace Go.Proofs.YthlkgmdkabelpaaGreatDoor.X
open Go Go.RowKit
set_option linter.unusedVariables false

def hTrue (args : List Value) (W : XW) : Option (Value × XW) := match args with
  | [] => some (.bool true, W)
  | _ => none
noncomputable def callS (f : FuncId) : Option (List Value → XW → Option (Value × XW)) :=
  bif Nat.beq f 5 then some hTrue else callH f
noncomputable def hooksS (n : Nat) : Hooks := ⟨callS, deferH n⟩
theorem callS_some {f : FuncId} {h : List Value → XW → Option (Value × XW)} (hf : callS f = some h) : (f = 5 ∧ h = hTrue) ∨ callH f = some h := by
  unfold callS at hf
  cases h1 : Nat.beq f 5 with
  | true => rw [h1] at hf; exact .inl ⟨Nat.eq_of_beq_eq_true h1, (Option.some.inj hf).symm⟩
  | false => rw [h1] at hf; exact .inr hf
theorem entersS : entersB Tryz.prog 5 = true := by kernel_rfl
theorem hTrue_eq {args : List Value} {W W' : XW} {v : Value} (h : hTrue args W = some (v, W')) : args = [] ∧ v = .bool true ∧ W' = W := by
  unfold hTrue at h
  split at h
  · cases h; exact ⟨rfl, rfl, rfl⟩
  · cases h
theorem hooksS_are (n : Nat) : HSim Tryz.prog (hooksS n) := by
  have h0 := hooks_are n
  refine ⟨⟨fun f h args W v W' hf hh => ?_, h0.ext.defd⟩, fun f h hf => ?_, fun f h args W v W' hf hh ρ args' w m hfr hH hA => ?_, h0.entersD, h0.defd⟩
  · rcases callS_some hf with ⟨rfl, rfl⟩ | hf
    · obtain ⟨_, _, rfl⟩ := hTrue_eq hh; exact .refl _
    · exact h0.ext.call f h args W v W' hf hh
  · rcases callS_some hf with ⟨rfl, rfl⟩ | hf
    · exact enters_of entersS
    · exact h0.enters f h hf
  · rcases callS_some hf with ⟨rfl, rfl⟩ | hf
    · obtain ⟨rfl, rfl, rfl⟩ := hTrue_eq hh
      cases hA
      refine CallsIn.mono (callsIn_wide.2 (sanity17 w)) fun e w' ⟨he, hk⟩ => ?_
      subst he
      exact ⟨ρ, .keep hk, hH.keep hk, .flat 1 _ rfl⟩
    · exact h0.call f h args W v W' hf hh ρ args' w m hfr hH hA
/-- the state in which a call begins -/
def begin0 (args : List Value) : XS := ⟨frOf args, (lit [] [] 0).W, []⟩
theorem ch_begin {P : Program} {N : Nat} {args : List Value} {w : World} (hf : args.all (flatN 8) = true) (hN : args.length ≤ N) : Ch P N w (begin0 args) { tmps := args.toArray ++ Array.replicate (N - args.toArray.size) undef, defers := [] } w :=
  ⟨fun _ => none, ⟨fun n i o h _ => (by cases h), fun n k i j h _ => (by cases h)⟩, frOf_sim (flatN_list hf) hN, .nil, fun _ _ => rfl, .refl _ _, fun b ⟨n, i, h, _⟩ => (by cases h)⟩
theorem callsArgs {P : Program} {f : FuncId} {fn : Func} {c : Code} {w : World} {args : List Value} {T : Ending → World → Prop} (hf : P.funcs[f]? = some fn) (hb : fn.body = some c) (hfl : args.all (flatN 8) = true) (hN : args.length ≤ fn.ntmps)
    (h : ∀ a, Ch P fn.ntmps w (begin0 args) a w → wpL Fence.wide 0 P (bodyPost P fn T) ((pieces (P.funcs[f]?)).drop 0) a w) : Calls P f args.toArray w T := by
  refine callsIn_wide.1 (callsIn_of_wp (n := 0) hf hb trivial (wpL_flat 200 c ?_) rfl)
  have := h _ (ch_begin hfl hN)
  rw [hf] at this
  simp only [pieces, hb, List.drop_zero] at this
  exact this
end Go.Proofs.YthlkgmdkabelpaaGreatDoor.X
