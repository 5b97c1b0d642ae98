/-
  The check of a builder's copies, at whatever place of a block: the walks. No condition beyond what is said.
-/
import Derived.Test.YthlkgmdkabelpaaGreatDoorHRow
import Derived.Lib.Builder
import Derived.WalkSpells
import Derived.Shelf.Strings.Builder1
namespace Go.Proofs.YthlkgmdkabelpaaGreatDoor.X
open Go Go.RowKit
set_option linter.unusedVariables false

theorem sizeBuilder : (Tryz.prog.info? 76).map (·.size) = some 2 := by kernel_rfl
set_option maxRecDepth 100000 in
theorem ccUsed (b q : Nat) (w : World) (h0 : w.cell? ⟨b, q, none⟩ = some (.pointer (some ⟨b, q, none⟩))) :
    Calls Tryz.prog 64 #[.pointer (some ⟨b, q, none⟩)] w fun e w' => e = .returned (.tuple #[]) ∧ w' = w := by
  obtain ⟨j, hj, _⟩ := Option.map_eq_some_iff.1 sizeBuilder
  go_enter Tryz.func64, Tryz.ntmps64
  go_wp2
  rw [Lib.run_neq_ptr_same w _ Tryz.underlying74 hj]
  go_wp2
  go_end0
  exact ⟨rfl, rfl⟩
set_option maxRecDepth 100000 in
theorem ccFirst (b q z : Nat) (e : TypeId) (w : World) (h0 : w.cell? ⟨b, q, none⟩ = some (.pointer none)) (hsh : w.shape? b = some (e, z)) (hq : q < z)
    (hl : liesAt Tryz.prog Tryz.prog.depth e (z / Tryz.prog.cellsOf e) q 76 1 = true) (hfz : w.frozen? ⟨b, q, none⟩ = false) :
    Calls Tryz.prog 64 #[.pointer (some ⟨b, q, none⟩)] w fun e w' => e = .returned (.tuple #[]) ∧ w' = w.setCell ⟨b, q, none⟩ (.pointer (some ⟨b, q, none⟩)) := by
  obtain ⟨j, hj, hjs⟩ := Option.map_eq_some_iff.1 sizeBuilder
  go_enter Tryz.func64, Tryz.ntmps64
  go_wp2
  rw [Lib.run_to_unsafe w ⟨b, q, none⟩ Tryz.underlying74 Tryz.underlying187 hj (by rw [hjs]; decide) hsh hq]
  simp only [Result.andThen]
  rw [Oper.upon_value]
  go_wp2
  rw [run_callFunc_extern Tryz.func95 (by kernel_rfl) (by kernel_rfl) (by kernel_rfl) (e := Extern.AbiNoEscape.same) (by kernel_rfl), Lib.run_noEscape]
  simp only [Result.andThen]
  rw [Oper.upon_value]
  go_wp2
  rw [Lib.run_from_unsafe w ⟨b, q, none⟩ Tryz.underlying187 Tryz.underlying74 hj hsh hl]
  simp only [Result.andThen]
  rw [Oper.upon_value]
  go_wp2
  go_end0
  exact ⟨rfl, rfl⟩
end Go.Proofs.YthlkgmdkabelpaaGreatDoor.X
