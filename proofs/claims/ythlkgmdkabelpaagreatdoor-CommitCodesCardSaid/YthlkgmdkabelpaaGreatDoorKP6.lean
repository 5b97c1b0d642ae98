/-
  One cut of the run of sanity17, carried out.
  No condition.
-/
import Derived.Test.YthlkgmdkabelpaaGreatDoorKJ
import Derived.KernelRfl
set_option linter.all false
set_option linter.unusedVariables false
set_option linter.unusedSimpArgs false
namespace Go.Proofs.YthlkgmdkabelpaaGreatDoor.X
open Go Go.RowKit
set_option maxRecDepth 100000 in
theorem csanity17_11 : endsTrue Tryz.prog (Tryz.prog.funcs[5]?) (runL runsanity17 129 (pcssanity17.drop 11) (lit fsanity17_11 osanity17_11 nsanity17_11)) = true := by kernel_rfl
end Go.Proofs.YthlkgmdkabelpaaGreatDoor.X
