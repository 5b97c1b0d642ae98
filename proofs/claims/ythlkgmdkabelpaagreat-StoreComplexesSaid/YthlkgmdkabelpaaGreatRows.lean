/-
  No cell of these rows narrows 'for every input' (looked for: loops, veiled, ifaces, maps, wideKeys, modest, calm, conditions, laid).
  DERIVED. THE GIVEN ROWS OF THIS SEAT. 4 by the template 'for every input the law returns true; each argument reads behind the call as it read before'; 0 by the template 'total and deterministic' (their statements: YthlkgmdkabelpaaGreatTotals.lean).
  GIVEN WITH THE SEED: the statements are not yours to turn. If you find one false, say at which input.
  Laid BY PROGRAM, IN A SANDBOX (cutbox-rows.mjs): the forced cells as the released guide's own fill.sh prints them over the translation 4d1b43728dd90df4… (all of the seat's roots in one cut). By AI agents, Wed Nov 11 2026. No macro, syntax, notation, axiom, sorry.
-/
import Derived.Test.YthlkgmdkabelpaaGreatChecked
import GoSem.Claim
import GoSem.ClaimJoined
import GoSem.ClaimMapViews
import Derived.JoinedTies
import Derived.KernelRfl
namespace Go.Proofs.YthlkgmdkabelpaaGreat
/- THE CELL 'sum', in the pinned program and in every row, IS THE sha256 OF THE DUMP (.gsa) THAT YthlkgmdkabelpaaGreatProg.lean LOADS. Nothing in Lean hashes anything: it is a label: what it is worth is what the hold of that sum in a sandbox is worth. -/
noncomputable def Tryz.pinned : Pinned := { name := "ythlkgmdkabelpaagreat", sum := "4d1b43728dd90df492b85de9ba2e2b56e46b8bbb198d8ac3c7bc05afffddcf4d", checked := Tryz.checked }
namespace Rows
def none {H : Type} : Left H := { results := [], args := [] }

/-- 'cocyclelaw16.StorePuts': WHATEVER THE INPUT: true; the input reads as it did. -/
def storePutsSpec : ChangeSpec := { name := "storePuts", fn := fun _ => fun
  | [d1, d2] => { results := [.lit (.bool true)], args := [d1, d2] }
  | _ => none }
def storePutsRow : OpenClaim := { program := "ythlkgmdkabelpaagreat", sum := "4d1b43728dd90df492b85de9ba2e2b56e46b8bbb198d8ac3c7bc05afffddcf4d", func := "cocycle/cocyclelaw16.StorePuts", spec := "storePuts", inPlace := ["internal/abi.NoEscape", "internal/bytealg.abigen_runtime_cmpstring"], unfollowed := true, recurses := true, plainKeys := false, apart := false }
def StorePutsSaid : Prop := storePutsRow.holds Tryz.pinned (OpenSpec.ofChange storePutsSpec)

/-- ITS FALSE NEIGHBOUR: 'it returns false'. Refute it at one input. -/
def storePutsWrong : ChangeSpec := { name := "storePuts", fn := fun _ => fun
  | [d1, d2] => { results := [.lit (.bool false)], args := [d1, d2] }
  | _ => none }
def StorePutsWrongFalsely : Prop := storePutsRow.holds Tryz.pinned (OpenSpec.ofChange storePutsWrong)

/-- 'cocyclelaw16.StoreComplexes': WHATEVER THE INPUT: true; the input reads as it did. -/
def storeComplexesSpec : ChangeSpec := { name := "storeComplexes", fn := fun _ => fun
  | [d1, d2, d3] => { results := [.lit (.bool true)], args := [d1, d2, d3] }
  | _ => none }
def storeComplexesRow : OpenClaim := { program := "ythlkgmdkabelpaagreat", sum := "4d1b43728dd90df492b85de9ba2e2b56e46b8bbb198d8ac3c7bc05afffddcf4d", func := "cocycle/cocyclelaw16.StoreComplexes", spec := "storeComplexes", inPlace := ["internal/abi.NoEscape", "internal/bytealg.abigen_runtime_cmpstring"], unfollowed := true, recurses := true, plainKeys := false, apart := false }
def StoreComplexesSaid : Prop := storeComplexesRow.holds Tryz.pinned (OpenSpec.ofChange storeComplexesSpec)

/-- ITS FALSE NEIGHBOUR: 'it returns false'. Refute it at one input. -/
def storeComplexesWrong : ChangeSpec := { name := "storeComplexes", fn := fun _ => fun
  | [d1, d2, d3] => { results := [.lit (.bool false)], args := [d1, d2, d3] }
  | _ => none }
def StoreComplexesWrongFalsely : Prop := storeComplexesRow.holds Tryz.pinned (OpenSpec.ofChange storeComplexesWrong)

/-- 'cocyclelaw16.StoreErrors': WHATEVER THE INPUT: true; the input reads as it did. -/
def storeErrorsSpec : ChangeSpec := { name := "storeErrors", fn := fun _ => fun
  | [d1, d2] => { results := [.lit (.bool true)], args := [d1, d2] }
  | _ => none }
def storeErrorsRow : OpenClaim := { program := "ythlkgmdkabelpaagreat", sum := "4d1b43728dd90df492b85de9ba2e2b56e46b8bbb198d8ac3c7bc05afffddcf4d", func := "cocycle/cocyclelaw16.StoreErrors", spec := "storeErrors", inPlace := ["internal/abi.NoEscape", "internal/bytealg.abigen_runtime_cmpstring"], unfollowed := true, recurses := true, plainKeys := false, apart := false }
def StoreErrorsSaid : Prop := storeErrorsRow.holds Tryz.pinned (OpenSpec.ofChange storeErrorsSpec)

/-- ITS FALSE NEIGHBOUR: 'it returns false'. Refute it at one input. -/
def storeErrorsWrong : ChangeSpec := { name := "storeErrors", fn := fun _ => fun
  | [d1, d2] => { results := [.lit (.bool false)], args := [d1, d2] }
  | _ => none }
def StoreErrorsWrongFalsely : Prop := storeErrorsRow.holds Tryz.pinned (OpenSpec.ofChange storeErrorsWrong)

/-- 'cocyclelaw16.StoreNil': WHATEVER THE INPUT: true; the input reads as it did. -/
def storeNilSpec : ChangeSpec := { name := "storeNil", fn := fun _ => fun
  | [d1, d2] => { results := [.lit (.bool true)], args := [d1, d2] }
  | _ => none }
def storeNilRow : OpenClaim := { program := "ythlkgmdkabelpaagreat", sum := "4d1b43728dd90df492b85de9ba2e2b56e46b8bbb198d8ac3c7bc05afffddcf4d", func := "cocycle/cocyclelaw16.StoreNil", spec := "storeNil", inPlace := ["internal/abi.NoEscape", "internal/bytealg.abigen_runtime_cmpstring"], unfollowed := true, recurses := true, plainKeys := false, apart := false }
def StoreNilSaid : Prop := storeNilRow.holds Tryz.pinned (OpenSpec.ofChange storeNilSpec)

/-- ITS FALSE NEIGHBOUR: 'it returns false'. Refute it at one input. -/
def storeNilWrong : ChangeSpec := { name := "storeNil", fn := fun _ => fun
  | [d1, d2] => { results := [.lit (.bool false)], args := [d1, d2] }
  | _ => none }
def StoreNilWrongFalsely : Prop := storeNilRow.holds Tryz.pinned (OpenSpec.ofChange storeNilWrong)

/- THE SECOND FORM. 'bulk': how many values and letters a reading holds, each counted each time it is reached (what is shared counts as often as it is met; a slice's spare places count too). A statement '..UptoSaid' is the law's where the arguments, and the package variables that the reading takes, are together of bulk at most 1048576: NARROWER than '..Said'. Prove '..Said' where nothing that the law and all that it calls make is longer than what came in: it says more and counts as full. Else prove '..UptoSaid'. A law counts once. -/
mutual
def uptoBulk {H : Type} : DataW H → Nat
  | .lit (.string bytes) => bytes.length + 1
  | .lit _ => 1
  | .nil => 1
  | .ptr d => uptoBulk d + 1
  | .slice elems spare => uptoBulkAll elems + uptoBulkAll spare + 1
  | .agg parts => uptoBulkAll parts + 1
  | .iface _ d => uptoBulk d + 1
  | .map entries => uptoBulkEntries entries + 1
  | .held _ => 1
def uptoBulkAll {H : Type} : List (DataW H) → Nat
  | [] => 0
  | d :: r => uptoBulk d + uptoBulkAll r
def uptoBulkEntries {H : Type} : List (Lit × DataW H) → Nat
  | [] => 0
  | x :: r => uptoBulkEntry x + uptoBulkEntries r
def uptoBulkEntry {H : Type} : Lit × DataW H → Nat
  | (.string bytes, d) => bytes.length + uptoBulk d + 1
  | (_, d) => uptoBulk d + 1
 end
def uptoSmall : (H : Type) → List (DataW H) → Bool := fun _ ds => decide (uptoBulkAll ds ≤ 1048576)
def OpenSpec.upto (s : _root_.Go.ChangeSpec) : _root_.Go.OpenSpec := { _root_.Go.OpenSpec.ofChange s with cond := some uptoSmall }

/-- 'cocyclelaw16.StorePuts', WHERE WHAT IT READS IS OF BULK AT MOST 1048576: true; the input reads as it did. -/
def storePutsUptoRow : OpenClaim := { program := "ythlkgmdkabelpaagreat", sum := "4d1b43728dd90df492b85de9ba2e2b56e46b8bbb198d8ac3c7bc05afffddcf4d", func := "cocycle/cocyclelaw16.StorePuts", spec := "storePuts", inPlace := ["internal/abi.NoEscape", "internal/bytealg.abigen_runtime_cmpstring"], unfollowed := true, recurses := true, plainKeys := false, apart := false, narrowed := true }
def StorePutsUptoSaid : Prop := storePutsUptoRow.holds Tryz.pinned (OpenSpec.upto storePutsSpec)

/-- 'cocyclelaw16.StoreComplexes', WHERE WHAT IT READS IS OF BULK AT MOST 1048576: true; the input reads as it did. -/
def storeComplexesUptoRow : OpenClaim := { program := "ythlkgmdkabelpaagreat", sum := "4d1b43728dd90df492b85de9ba2e2b56e46b8bbb198d8ac3c7bc05afffddcf4d", func := "cocycle/cocyclelaw16.StoreComplexes", spec := "storeComplexes", inPlace := ["internal/abi.NoEscape", "internal/bytealg.abigen_runtime_cmpstring"], unfollowed := true, recurses := true, plainKeys := false, apart := false, narrowed := true }
def StoreComplexesUptoSaid : Prop := storeComplexesUptoRow.holds Tryz.pinned (OpenSpec.upto storeComplexesSpec)

/-- 'cocyclelaw16.StoreErrors', WHERE WHAT IT READS IS OF BULK AT MOST 1048576: true; the input reads as it did. -/
def storeErrorsUptoRow : OpenClaim := { program := "ythlkgmdkabelpaagreat", sum := "4d1b43728dd90df492b85de9ba2e2b56e46b8bbb198d8ac3c7bc05afffddcf4d", func := "cocycle/cocyclelaw16.StoreErrors", spec := "storeErrors", inPlace := ["internal/abi.NoEscape", "internal/bytealg.abigen_runtime_cmpstring"], unfollowed := true, recurses := true, plainKeys := false, apart := false, narrowed := true }
def StoreErrorsUptoSaid : Prop := storeErrorsUptoRow.holds Tryz.pinned (OpenSpec.upto storeErrorsSpec)

/-- 'cocyclelaw16.StoreNil', WHERE WHAT IT READS IS OF BULK AT MOST 1048576: true; the input reads as it did. -/
def storeNilUptoRow : OpenClaim := { program := "ythlkgmdkabelpaagreat", sum := "4d1b43728dd90df492b85de9ba2e2b56e46b8bbb198d8ac3c7bc05afffddcf4d", func := "cocycle/cocyclelaw16.StoreNil", spec := "storeNil", inPlace := ["internal/abi.NoEscape", "internal/bytealg.abigen_runtime_cmpstring"], unfollowed := true, recurses := true, plainKeys := false, apart := false, narrowed := true }
def StoreNilUptoSaid : Prop := storeNilUptoRow.holds Tryz.pinned (OpenSpec.upto storeNilSpec)

end Rows
end Go.Proofs.YthlkgmdkabelpaaGreat
