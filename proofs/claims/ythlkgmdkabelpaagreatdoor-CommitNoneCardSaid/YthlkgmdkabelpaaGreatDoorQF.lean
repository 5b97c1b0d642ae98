/-
  sanity17: every call returns true and leaves alone what was there.
-/
import Derived.Test.YthlkgmdkabelpaaGreatDoorQ1
import Derived.Test.YthlkgmdkabelpaaGreatDoorQ2
import Derived.Test.YthlkgmdkabelpaaGreatDoorQ3
import Derived.Test.YthlkgmdkabelpaaGreatDoorQ4
import Derived.Test.YthlkgmdkabelpaaGreatDoorQ5
import Derived.Test.YthlkgmdkabelpaaGreatDoorQ6
namespace Go.Proofs.YthlkgmdkabelpaaGreatDoor.X
open Go Go.RowKit
set_option linter.unusedVariables false

theorem tsanity17 : (Tryz.prog.funcs[5]?).map (fun fn => (fn.ntmps, fn.body.isSome)) = some (129, true) := by kernel_rfl
theorem sanity17 (w : World) : Calls Tryz.prog 5 #[] w fun e w' => e = .returned (.bool true) ∧ Keeps noBlock w w' := by
  obtain ⟨fn, hf, ht⟩ := Option.map_eq_some_iff.1 tsanity17
  obtain ⟨h1, h2⟩ := Prod.mk.inj ht
  cases hb : fn.body with
  | none => rw [hb] at h2; cases h2
  | some c =>
    refine callsCut hf hb ?_
    rw [h1]
    show ∀ a, Ch Tryz.prog 129 w (lit [] [] 0) a w → wpL Fence.wide 0 Tryz.prog (bodyPost Tryz.prog fn fun e w' => e = .returned (.bool true) ∧ Keeps noBlock w w') (pcssanity17.drop 0) a w
    have hC : SimC Tryz.prog runsanity17 := (xrun_sim mixed (hooks_are 100000) (drawn_sim mixed) 100000).1
    have k0 := csanity17_0
    have k3 := csanity17_3
    have k5 := csanity17_5
    have k6 := csanity17_6
    have k8 := csanity17_8
    have k11 := csanity17_11
    rw [hf] at k11
    generalize runsanity17 = R at hC k0 k3 k5 k6 k8 k11
    generalize pcssanity17 = pcs at *
    have go : ∀ a w', Ch Tryz.prog 129 w (lit [] [] 0) a w' → wpL Fence.wide 0 Tryz.prog (bodyPost Tryz.prog fn fun e w' => e = .returned (.bool true) ∧ Keeps noBlock w w') (pcs.drop 0) a w' := fun a w hc => cutL (i := 0) (k := 3) hC k0 (fun a w hc => cutL (i := 3) (k := 2) hC k3 (fun a w hc => cutL (i := 5) (k := 1) hC k5 (fun a w hc => cutL (i := 6) (k := 2) hC k6 (fun a w hc => cutL (i := 8) (k := 3) hC k8 (fun a w hc => cutEnd hC (fn := fn) k11 (fun w' hk => ⟨rfl, hk⟩) hc) hc) hc) hc) hc) hc
    exact fun a hc => go a w hc
#print axioms sanity17
end Go.Proofs.YthlkgmdkabelpaaGreatDoor.X
