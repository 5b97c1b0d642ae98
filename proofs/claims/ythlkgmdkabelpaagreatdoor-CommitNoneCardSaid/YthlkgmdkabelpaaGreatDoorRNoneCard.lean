/-
  CommitNone: the card: the row proved, its two listed variables tied to the program's text. No condition beyond the row's.
-/
import Derived.Test.YthlkgmdkabelpaaGreatDoorRNoneProof
namespace Go.Proofs.YthlkgmdkabelpaaGreatDoor.commitNone
open Go
set_option linter.unusedVariables false

theorem proved : Rows.CommitNoneCardSaid :=
  Claim7.holds_tied_plain_at .later [] [.data, .pinned] true (true, "603d526040b71e09ada68249a5ce4a0fc4b8d3a603fff12b28ca3e4c5aefc62d") true
    over (fun _ h => by cases h) (by kernel_rfl) (fun _ h => by cases h) commitNone_row_tie rfl ⟨rfl, rfl⟩ (by kernel_rfl) rfl
    (fun f fn hf hfn => by
      obtain rfl : f = 4 := Option.some.inj ((show Tryz.prog.funcNamed "cocycle/cocyclelaw17.CommitNone" = some 4 by kernel_rfl).symm.trans hf) |>.symm
      obtain rfl : fn = Tryz.f4 := (Option.some.inj (Tryz.func4.symm.trans hfn)).symm
      exact ⟨by kernel_rfl, fun j t ht => by
        rw [Tryz.params4] at ht
        have h3 : t = 24 := by
          rcases j with _ | j
          · simpa using ht.symm
          · simp at ht
        subst h3
        exact (show Tryz.prog.wantsStandIn 24 = false by kernel_rfl)⟩)
    (by kernel_rfl)
#print axioms proved
end Go.Proofs.YthlkgmdkabelpaaGreatDoor.commitNone
