/-
  One cut of the run of sanity17, carried out.
  No condition.
-/
import Derived.Test.YthlkgmdkabelpaaGreatDoorKJ
import Derived.KernelRfl
set_option linter.all false
set_option linter.unusedVariables false
set_option linter.unusedSimpArgs false
namespace Go.Proofs.YthlkgmdkabelpaaGreatDoor.X
open Go Go.RowKit
set_option maxRecDepth 100000 in
theorem csanity17_0 : outV (runL runsanity17 129 ((pcssanity17.drop 0).take 3) (lit [] [] 0)) (fsanity17_3.map (·.1)) (osanity17_3.map (·.1)) = some (fsanity17_3.map (fun p => some p.2), osanity17_3.map (fun p => some p.2), nsanity17_3, true) := by kernel_rfl
end Go.Proofs.YthlkgmdkabelpaaGreatDoor.X
