/-
  One cut of the run of sanity17, carried out.
  No condition.
-/
import Derived.Test.YthlkgmdkabelpaaGreatDoorKJ
import Derived.KernelRfl
set_option linter.all false
set_option linter.unusedVariables false
set_option linter.unusedSimpArgs false
namespace Go.Proofs.YthlkgmdkabelpaaGreatDoor.X
open Go Go.RowKit
set_option maxRecDepth 100000 in
theorem csanity17_8 : outV (runL runsanity17 129 ((pcssanity17.drop 8).take 3) (lit fsanity17_8 osanity17_8 nsanity17_8)) (fsanity17_11.map (·.1)) (osanity17_11.map (·.1)) = some (fsanity17_11.map (fun p => some p.2), osanity17_11.map (fun p => some p.2), nsanity17_11, true) := by kernel_rfl
end Go.Proofs.YthlkgmdkabelpaaGreatDoor.X
