/-
  DERIVED. GIVEN WITH THE SEED: THE CARDS: each row of YthlkgmdkabelpaaGreatDoorRows.lean that lists a variable, with what it lists TIED to the program's text (the seventh form; the later family's looks); each row that meets fmt, with fmt's text TOLD by the authors' own Lean function (tested against real Go, not proved from fmt's source: count such statements apart). THE CARD IS WHAT COUNTS. Prove the row's statement (the work); the ties are given (YthlkgmdkabelpaaGreatDoorTie.lean); close each card by the builder's one call (the guide's Derived/Test/ToyasCard.lean, 'card_holds'). Laid BY PROGRAM, IN A SANDBOX (cutbox-door.mjs). By AI agents, Wed Nov 11 2026. No macro, syntax, notation, axiom, sorry.
-/
import Derived.Test.YthlkgmdkabelpaaGreatDoorRows
import GoSem.ClaimSeven
namespace Go.Proofs.YthlkgmdkabelpaaGreatDoor
namespace Rows

/-- THE TIED CARD OF 'cocyclelaw17.CommitCodes'. -/
def commitCodesCard : Claim7 := { stood := { row := commitCodesRow, standIns := [], harness := (true, "603d526040b71e09ada68249a5ce4a0fc4b8d3a603fff12b28ca3e4c5aefc62d"), looks := true }, kinds := [], alts := [], laidByText := true, laidKinds := [.data, .pinned], laidTests := true, laidLooks := .later }
def CommitCodesCardSaid : Prop := Claim7.holds Tryz.pinned (.plain (OpenSpec.ofChange commitCodesSpec)) commitCodesCard

/-- THE TIED CARD OF 'cocyclelaw17.CommitNone'. -/
def commitNoneCard : Claim7 := { stood := { row := commitNoneRow, standIns := [], harness := (true, "603d526040b71e09ada68249a5ce4a0fc4b8d3a603fff12b28ca3e4c5aefc62d"), looks := true }, kinds := [], alts := [], laidByText := true, laidKinds := [.data, .pinned], laidTests := true, laidLooks := .later }
def CommitNoneCardSaid : Prop := Claim7.holds Tryz.pinned (.plain (OpenSpec.ofChange commitNoneSpec)) commitNoneCard

/-- THE SECOND FORM's CARD OF 'cocyclelaw17.CommitCodes'. -/
def commitCodesUptoCard : Claim7 := { stood := { row := commitCodesUptoRow, standIns := [], harness := (true, "603d526040b71e09ada68249a5ce4a0fc4b8d3a603fff12b28ca3e4c5aefc62d"), looks := true }, kinds := [], alts := [], laidByText := true, laidKinds := [.data, .pinned], laidTests := true, laidLooks := .later }
def CommitCodesUptoCardSaid : Prop := Claim7.holds Tryz.pinned (.plain (OpenSpec.upto commitCodesSpec)) commitCodesUptoCard

/-- THE SECOND FORM's CARD OF 'cocyclelaw17.CommitNone'. -/
def commitNoneUptoCard : Claim7 := { stood := { row := commitNoneUptoRow, standIns := [], harness := (true, "603d526040b71e09ada68249a5ce4a0fc4b8d3a603fff12b28ca3e4c5aefc62d"), looks := true }, kinds := [], alts := [], laidByText := true, laidKinds := [.data, .pinned], laidTests := true, laidLooks := .later }
def CommitNoneUptoCardSaid : Prop := Claim7.holds Tryz.pinned (.plain (OpenSpec.upto commitNoneSpec)) commitNoneUptoCard
end Rows
end Go.Proofs.YthlkgmdkabelpaaGreatDoor
