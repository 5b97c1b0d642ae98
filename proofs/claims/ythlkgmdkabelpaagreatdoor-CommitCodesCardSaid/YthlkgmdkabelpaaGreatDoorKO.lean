/-
  The check of a builder's copies, at whatever place of a block: the walks. No condition beyond what is said.
  Facts of this program's types; hooks of the hash and of the copy check.
  The facts by which the machine is carried out, as a set for rewriting.
  No condition.
-/
import Derived.Test.YthlkgmdkabelpaaGreatDoorKQ
import Derived.Lib.Builder
import Derived.WalkSpells
import Derived.Shelf.Strings.Builder1
import Derived.Test.YthlkgmdkabelpaaGreatDoorKD
set_option linter.all false
set_option linter.unusedVariables false
set_option linter.unusedSimpArgs false
namespace Go.Proofs.YthlkgmdkabelpaaGreatDoor.X
open Go Go.RowKit
theorem sizeBuilder : (Tryz.prog.info? 76).map (·.size) = some 2 := by kernel_rfl
set_option maxRecDepth 100000 in
theorem ccUsed (b q : Nat) (w : World) (h0 : w.cell? ⟨b, q, none⟩ = some (.pointer (some ⟨b, q, none⟩))) :
    Calls Tryz.prog 64 #[.pointer (some ⟨b, q, none⟩)] w fun e w' => e = .returned (.tuple #[]) ∧ w' = w := by
  obtain ⟨j, hj, _⟩ := Option.map_eq_some_iff.1 sizeBuilder
  go_enter Tryz.func64, Tryz.ntmps64
  go_wp2
  rw [Lib.run_neq_ptr_same w _ Tryz.underlying74 hj]
  go_wp2
  go_end0
  exact ⟨rfl, rfl⟩
set_option maxRecDepth 100000 in
theorem ccFirst (b q z : Nat) (e : TypeId) (w : World) (h0 : w.cell? ⟨b, q, none⟩ = some (.pointer none)) (hsh : w.shape? b = some (e, z)) (hq : q < z)
    (hl : liesAt Tryz.prog Tryz.prog.depth e (z / Tryz.prog.cellsOf e) q 76 1 = true) (hfz : w.frozen? ⟨b, q, none⟩ = false) :
    Calls Tryz.prog 64 #[.pointer (some ⟨b, q, none⟩)] w fun e w' => e = .returned (.tuple #[]) ∧ w' = w.setCell ⟨b, q, none⟩ (.pointer (some ⟨b, q, none⟩)) := by
  obtain ⟨j, hj, hjs⟩ := Option.map_eq_some_iff.1 sizeBuilder
  go_enter Tryz.func64, Tryz.ntmps64
  go_wp2
  rw [Lib.run_to_unsafe w ⟨b, q, none⟩ Tryz.underlying74 Tryz.underlying187 hj (by rw [hjs]; decide) hsh hq]
  simp only [Result.andThen]
  rw [Oper.upon_value]
  go_wp2
  rw [run_callFunc_extern Tryz.func95 (by kernel_rfl) (by kernel_rfl) (by kernel_rfl) (e := Extern.AbiNoEscape.same) (by kernel_rfl), Lib.run_noEscape]
  simp only [Result.andThen]
  rw [Oper.upon_value]
  go_wp2
  rw [Lib.run_from_unsafe w ⟨b, q, none⟩ Tryz.underlying187 Tryz.underlying74 hj hsh hl]
  simp only [Result.andThen]
  rw [Oper.upon_value]
  go_wp2
  go_end0
  exact ⟨rfl, rfl⟩
end Go.Proofs.YthlkgmdkabelpaaGreatDoor.X
namespace Go.Proofs.YthlkgmdkabelpaaGreatDoor.X
open Go Go.RowKit
theorem mixed : Tryz.prog.follows .mixedOrders = true := by kernel_rfl
theorem sz3 : sz Tryz.prog 3 = some 1 := by kernel_rfl
theorem agg3 : aggT Tryz.prog 3 = some false := by kernel_rfl
theorem zero3 : zeroOf Tryz.prog 3 = some (.int .i64 0) := by kernel_rfl
theorem info3 : Tryz.prog.info? 3 = some Tryz.t3 := by kernel_rfl
theorem sz4 : sz Tryz.prog 4 = some 1 := by kernel_rfl
theorem agg4 : aggT Tryz.prog 4 = some false := by kernel_rfl
theorem zero4 : zeroOf Tryz.prog 4 = some (.bool false) := by kernel_rfl
theorem info4 : Tryz.prog.info? 4 = some Tryz.t4 := by kernel_rfl
theorem sz5 : sz Tryz.prog 5 = some 1 := by kernel_rfl
theorem agg5 : aggT Tryz.prog 5 = some false := by kernel_rfl
theorem zero5 : zeroOf Tryz.prog 5 = some (.int .u8 0) := by kernel_rfl
theorem info5 : Tryz.prog.info? 5 = some Tryz.t5 := by kernel_rfl
theorem sz89 : sz Tryz.prog 89 = some 1 := by kernel_rfl
theorem agg89 : aggT Tryz.prog 89 = some false := by kernel_rfl
theorem zero89 : zeroOf Tryz.prog 89 = some (.int .u64 0) := by kernel_rfl
theorem info89 : Tryz.prog.info? 89 = some Tryz.t89 := by kernel_rfl
theorem sz9 : sz Tryz.prog 9 = some 1 := by kernel_rfl
theorem agg9 : aggT Tryz.prog 9 = some false := by kernel_rfl
theorem zero9 : zeroOf Tryz.prog 9 = some (.string (str [])) := by kernel_rfl
theorem info9 : Tryz.prog.info? 9 = some Tryz.t9 := by kernel_rfl
theorem sz80 : sz Tryz.prog 80 = some 1 := by kernel_rfl
theorem agg80 : aggT Tryz.prog 80 = some false := by kernel_rfl
theorem zero80 : zeroOf Tryz.prog 80 = some (.nilIface) := by kernel_rfl
theorem info80 : Tryz.prog.info? 80 = some Tryz.t80 := by kernel_rfl
theorem sz20 : sz Tryz.prog 20 = some 1 := by kernel_rfl
theorem agg20 : aggT Tryz.prog 20 = some false := by kernel_rfl
theorem zero20 : zeroOf Tryz.prog 20 = some (.nilIface) := by kernel_rfl
theorem info20 : Tryz.prog.info? 20 = some Tryz.t20 := by kernel_rfl
theorem sz22 : sz Tryz.prog 22 = some 1 := by kernel_rfl
theorem agg22 : aggT Tryz.prog 22 = some false := by kernel_rfl
theorem zero22 : zeroOf Tryz.prog 22 = some (.slice none 0 0) := by kernel_rfl
theorem info22 : Tryz.prog.info? 22 = some Tryz.t22 := by kernel_rfl
theorem sz24 : sz Tryz.prog 24 = some 32 := by kernel_rfl
theorem agg24 : aggT Tryz.prog 24 = some true := by kernel_rfl
theorem zero24 : zeroOf Tryz.prog 24 = some (.agg #[.int .u8 0, .int .u8 0, .int .u8 0, .int .u8 0, .int .u8 0, .int .u8 0, .int .u8 0, .int .u8 0, .int .u8 0, .int .u8 0, .int .u8 0, .int .u8 0, .int .u8 0, .int .u8 0, .int .u8 0, .int .u8 0, .int .u8 0, .int .u8 0, .int .u8 0, .int .u8 0, .int .u8 0, .int .u8 0, .int .u8 0, .int .u8 0, .int .u8 0, .int .u8 0, .int .u8 0, .int .u8 0, .int .u8 0, .int .u8 0, .int .u8 0, .int .u8 0]) := by kernel_rfl
theorem info24 : Tryz.prog.info? 24 = some Tryz.t24 := by kernel_rfl
theorem sz141 : sz Tryz.prog 141 = some 1 := by kernel_rfl
theorem agg141 : aggT Tryz.prog 141 = some false := by kernel_rfl
theorem zero141 : zeroOf Tryz.prog 141 = some (.slice none 0 0) := by kernel_rfl
theorem info141 : Tryz.prog.info? 141 = some Tryz.t141 := by kernel_rfl
theorem sz32 : sz Tryz.prog 32 = some 32 := by kernel_rfl
theorem agg32 : aggT Tryz.prog 32 = some true := by kernel_rfl
theorem zero32 : zeroOf Tryz.prog 32 = some (.agg #[.int .u8 0, .int .u8 0, .int .u8 0, .int .u8 0, .int .u8 0, .int .u8 0, .int .u8 0, .int .u8 0, .int .u8 0, .int .u8 0, .int .u8 0, .int .u8 0, .int .u8 0, .int .u8 0, .int .u8 0, .int .u8 0, .int .u8 0, .int .u8 0, .int .u8 0, .int .u8 0, .int .u8 0, .int .u8 0, .int .u8 0, .int .u8 0, .int .u8 0, .int .u8 0, .int .u8 0, .int .u8 0, .int .u8 0, .int .u8 0, .int .u8 0, .int .u8 0]) := by kernel_rfl
theorem info32 : Tryz.prog.info? 32 = some Tryz.t32 := by kernel_rfl
theorem sz30 : sz Tryz.prog 30 = some 1 := by kernel_rfl
theorem agg30 : aggT Tryz.prog 30 = some false := by kernel_rfl
theorem zero30 : zeroOf Tryz.prog 30 = some (.slice none 0 0) := by kernel_rfl
theorem info30 : Tryz.prog.info? 30 = some Tryz.t30 := by kernel_rfl
theorem sz31 : sz Tryz.prog 31 = some 1 := by kernel_rfl
theorem agg31 : aggT Tryz.prog 31 = some false := by kernel_rfl
theorem zero31 : zeroOf Tryz.prog 31 = some (.slice none 0 0) := by kernel_rfl
theorem info31 : Tryz.prog.info? 31 = some Tryz.t31 := by kernel_rfl
theorem sz34 : sz Tryz.prog 34 = some 35 := by kernel_rfl
theorem agg34 : aggT Tryz.prog 34 = some true := by kernel_rfl
theorem zero34 : zeroOf Tryz.prog 34 = some (.agg #[.slice none 0 0, .slice none 0 0, .int .u8 0, .int .u8 0, .int .u8 0, .int .u8 0, .int .u8 0, .int .u8 0, .int .u8 0, .int .u8 0, .int .u8 0, .int .u8 0, .int .u8 0, .int .u8 0, .int .u8 0, .int .u8 0, .int .u8 0, .int .u8 0, .int .u8 0, .int .u8 0, .int .u8 0, .int .u8 0, .int .u8 0, .int .u8 0, .int .u8 0, .int .u8 0, .int .u8 0, .int .u8 0, .int .u8 0, .int .u8 0, .int .u8 0, .int .u8 0, .int .u8 0, .int .u8 0, .string (str [])]) := by kernel_rfl
theorem info34 : Tryz.prog.info? 34 = some Tryz.t34 := by kernel_rfl
theorem sz37 : sz Tryz.prog 37 = some 1 := by kernel_rfl
theorem agg37 : aggT Tryz.prog 37 = some false := by kernel_rfl
theorem zero37 : zeroOf Tryz.prog 37 = some (.int .i64 0) := by kernel_rfl
theorem info37 : Tryz.prog.info? 37 = some Tryz.t37 := by kernel_rfl
theorem sz61 : sz Tryz.prog 61 = some 1 := by kernel_rfl
theorem agg61 : aggT Tryz.prog 61 = some false := by kernel_rfl
theorem zero61 : zeroOf Tryz.prog 61 = some (.slice none 0 0) := by kernel_rfl
theorem info61 : Tryz.prog.info? 61 = some Tryz.t61 := by kernel_rfl
theorem sz62 : sz Tryz.prog 62 = some 1 := by kernel_rfl
theorem agg62 : aggT Tryz.prog 62 = some false := by kernel_rfl
theorem zero62 : zeroOf Tryz.prog 62 = some (.slice none 0 0) := by kernel_rfl
theorem info62 : Tryz.prog.info? 62 = some Tryz.t62 := by kernel_rfl
theorem sz64 : sz Tryz.prog 64 = some 7 := by kernel_rfl
theorem agg64 : aggT Tryz.prog 64 = some true := by kernel_rfl
theorem zero64 : zeroOf Tryz.prog 64 = some (.agg #[.int .i64 0, .int .i64 0, .int .i64 0, .int .i64 0, .int .i64 0, .slice none 0 0, .slice none 0 0]) := by kernel_rfl
theorem info64 : Tryz.prog.info? 64 = some Tryz.t64 := by kernel_rfl
theorem sz70 : sz Tryz.prog 70 = some 2 := by kernel_rfl
theorem agg70 : aggT Tryz.prog 70 = some true := by kernel_rfl
theorem zero70 : zeroOf Tryz.prog 70 = some (.agg #[.int .i64 0, .int .i64 0]) := by kernel_rfl
theorem info70 : Tryz.prog.info? 70 = some Tryz.t70 := by kernel_rfl
theorem sz71 : sz Tryz.prog 71 = some 2 := by kernel_rfl
theorem agg71 : aggT Tryz.prog 71 = some true := by kernel_rfl
theorem zero71 : zeroOf Tryz.prog 71 = some (.agg #[.int .i64 0, .int .i64 0]) := by kernel_rfl
theorem info71 : Tryz.prog.info? 71 = some Tryz.t71 := by kernel_rfl
theorem sz74 : sz Tryz.prog 74 = some 1 := by kernel_rfl
theorem agg74 : aggT Tryz.prog 74 = some false := by kernel_rfl
theorem zero74 : zeroOf Tryz.prog 74 = some (.pointer none) := by kernel_rfl
theorem info74 : Tryz.prog.info? 74 = some Tryz.t74 := by kernel_rfl
theorem sz76 : sz Tryz.prog 76 = some 2 := by kernel_rfl
theorem agg76 : aggT Tryz.prog 76 = some true := by kernel_rfl
theorem zero76 : zeroOf Tryz.prog 76 = some (.agg #[.pointer none, .slice none 0 0]) := by kernel_rfl
theorem info76 : Tryz.prog.info? 76 = some Tryz.t76 := by kernel_rfl
theorem sz78 : sz Tryz.prog 78 = some 2 := by kernel_rfl
theorem agg78 : aggT Tryz.prog 78 = some true := by kernel_rfl
theorem zero78 : zeroOf Tryz.prog 78 = some (.agg #[.pointer none, .slice none 0 0]) := by kernel_rfl
theorem info78 : Tryz.prog.info? 78 = some Tryz.t78 := by kernel_rfl
theorem sz73 : sz Tryz.prog 73 = some 1 := by kernel_rfl
theorem agg73 : aggT Tryz.prog 73 = some false := by kernel_rfl
theorem zero73 : zeroOf Tryz.prog 73 = some (.pointer none) := by kernel_rfl
theorem info73 : Tryz.prog.info? 73 = some Tryz.t73 := by kernel_rfl
theorem sz92 : sz Tryz.prog 92 = some 0 := by kernel_rfl
theorem agg92 : aggT Tryz.prog 92 = some true := by kernel_rfl
theorem zero92 : zeroOf Tryz.prog 92 = some (.agg #[]) := by kernel_rfl
theorem info92 : Tryz.prog.info? 92 = some Tryz.t92 := by kernel_rfl
theorem sz96 : sz Tryz.prog 96 = some 1 := by kernel_rfl
theorem agg96 : aggT Tryz.prog 96 = some true := by kernel_rfl
theorem zero96 : zeroOf Tryz.prog 96 = some (.agg #[.string (str [])]) := by kernel_rfl
theorem info96 : Tryz.prog.info? 96 = some Tryz.t96 := by kernel_rfl
theorem sz94 : sz Tryz.prog 94 = some 1 := by kernel_rfl
theorem agg94 : aggT Tryz.prog 94 = some false := by kernel_rfl
theorem zero94 : zeroOf Tryz.prog 94 = some (.pointer none) := by kernel_rfl
theorem info94 : Tryz.prog.info? 94 = some Tryz.t94 := by kernel_rfl
theorem sz103 : sz Tryz.prog 103 = some 2 := by kernel_rfl
theorem agg103 : aggT Tryz.prog 103 = some true := by kernel_rfl
theorem zero103 : zeroOf Tryz.prog 103 = some (.agg #[.string (str []), .bool false]) := by kernel_rfl
theorem info103 : Tryz.prog.info? 103 = some Tryz.t103 := by kernel_rfl
theorem sz101 : sz Tryz.prog 101 = some 1 := by kernel_rfl
theorem agg101 : aggT Tryz.prog 101 = some false := by kernel_rfl
theorem zero101 : zeroOf Tryz.prog 101 = some (.pointer none) := by kernel_rfl
theorem info101 : Tryz.prog.info? 101 = some Tryz.t101 := by kernel_rfl
theorem sz26 : sz Tryz.prog 26 = some 35 := by kernel_rfl
theorem agg26 : aggT Tryz.prog 26 = some true := by kernel_rfl
theorem zero26 : zeroOf Tryz.prog 26 = some (.agg #[.slice none 0 0, .slice none 0 0, .string (str []), .int .u8 0, .int .u8 0, .int .u8 0, .int .u8 0, .int .u8 0, .int .u8 0, .int .u8 0, .int .u8 0, .int .u8 0, .int .u8 0, .int .u8 0, .int .u8 0, .int .u8 0, .int .u8 0, .int .u8 0, .int .u8 0, .int .u8 0, .int .u8 0, .int .u8 0, .int .u8 0, .int .u8 0, .int .u8 0, .int .u8 0, .int .u8 0, .int .u8 0, .int .u8 0, .int .u8 0, .int .u8 0, .int .u8 0, .int .u8 0, .int .u8 0, .int .u8 0]) := by kernel_rfl
theorem info26 : Tryz.prog.info? 26 = some Tryz.t26 := by kernel_rfl
theorem sz68 : sz Tryz.prog 68 = some 7 := by kernel_rfl
theorem agg68 : aggT Tryz.prog 68 = some true := by kernel_rfl
theorem zero68 : zeroOf Tryz.prog 68 = some (.agg #[.int .i64 0, .int .i64 0, .int .i64 0, .int .i64 0, .int .i64 0, .int .i64 0, .int .i64 0]) := by kernel_rfl
theorem info68 : Tryz.prog.info? 68 = some Tryz.t68 := by kernel_rfl
theorem sz23 : sz Tryz.prog 23 = some 1 := by kernel_rfl
theorem agg23 : aggT Tryz.prog 23 = some false := by kernel_rfl
theorem zero23 : zeroOf Tryz.prog 23 = some (.slice none 0 0) := by kernel_rfl
theorem info23 : Tryz.prog.info? 23 = some Tryz.t23 := by kernel_rfl
theorem sz27 : sz Tryz.prog 27 = some 1 := by kernel_rfl
theorem agg27 : aggT Tryz.prog 27 = some false := by kernel_rfl
theorem zero27 : zeroOf Tryz.prog 27 = some (.int .u16 0) := by kernel_rfl
theorem info27 : Tryz.prog.info? 27 = some Tryz.t27 := by kernel_rfl
theorem sz28 : sz Tryz.prog 28 = some 3 := by kernel_rfl
theorem agg28 : aggT Tryz.prog 28 = some true := by kernel_rfl
theorem zero28 : zeroOf Tryz.prog 28 = some (.agg #[.int .u16 0, .int .u16 0, .int .u16 0]) := by kernel_rfl
theorem info28 : Tryz.prog.info? 28 = some Tryz.t28 := by kernel_rfl
theorem sz41 : sz Tryz.prog 41 = some 1 := by kernel_rfl
theorem agg41 : aggT Tryz.prog 41 = some false := by kernel_rfl
theorem zero41 : zeroOf Tryz.prog 41 = some (.slice none 0 0) := by kernel_rfl
theorem info41 : Tryz.prog.info? 41 = some Tryz.t41 := by kernel_rfl
noncomputable def hCC : HF := retH (hCopyCheck Tryz.prog 76)
def hSha : HF := retH hSum
theorem okSum : HookOk Tryz.prog 61 hSha := ⟨enters_of (by kernel_rfl), fun args W e W' h => by obtain ⟨v, rfl, q⟩ := retH_some h; exact hSum_ext q,
  fun args W e W' h ρ args' w m hfr hH hA => by obtain ⟨v, rfl, q⟩ := retH_some h; exact hSum_sim (fun s w hs => sum_any s w hs) q hH hA⟩
theorem okCC : HookOk Tryz.prog 64 hCC := ⟨enters_of (by kernel_rfl), fun args W e W' h => by obtain ⟨v, rfl, q⟩ := retH_some h; exact hCopyCheck_ext q,
  fun args W e W' h ρ args' w m hfr hH hA => by obtain ⟨v, rfl, q⟩ := retH_some h; exact hCopyCheck_sim ccUsed ccFirst q hH hA⟩
theorem base0 : Base Tryz.prog (hooksOf [] []) := ⟨mixed, hooksOf_sim .nil .nil⟩
end Go.Proofs.YthlkgmdkabelpaaGreatDoor.X
namespace Go.Proofs.YthlkgmdkabelpaaGreatDoor.X
open Go Go.RowKit
theorem cv_int_int {k' : IntKind} {a : Int} {W : XW} : convX Tryz.prog W 3 3 (some (.int k' a)) (some (.int .i64)) (some (.int .i64)) = some (.val (some (.int .i64 (IntKind.wrap .i64 a)))) := conv_int Tryz.underlying3 Tryz.underlying3
theorem cv_int_uint8 {k' : IntKind} {a : Int} {W : XW} : convX Tryz.prog W 3 5 (some (.int k' a)) (some (.int .i64)) (some (.int .u8)) = some (.val (some (.int .u8 (IntKind.wrap .u8 a)))) := conv_int Tryz.underlying3 Tryz.underlying5
theorem cv_int_uint64 {k' : IntKind} {a : Int} {W : XW} : convX Tryz.prog W 3 89 (some (.int k' a)) (some (.int .i64)) (some (.int .u64)) = some (.val (some (.int .u64 (IntKind.wrap .u64 a)))) := conv_int Tryz.underlying3 Tryz.underlying89
theorem cv_uint8_int {k' : IntKind} {a : Int} {W : XW} : convX Tryz.prog W 5 3 (some (.int k' a)) (some (.int .u8)) (some (.int .i64)) = some (.val (some (.int .i64 (IntKind.wrap .i64 a)))) := conv_int Tryz.underlying5 Tryz.underlying3
theorem cv_uint8_uint8 {k' : IntKind} {a : Int} {W : XW} : convX Tryz.prog W 5 5 (some (.int k' a)) (some (.int .u8)) (some (.int .u8)) = some (.val (some (.int .u8 (IntKind.wrap .u8 a)))) := conv_int Tryz.underlying5 Tryz.underlying5
theorem cv_uint8_uint64 {k' : IntKind} {a : Int} {W : XW} : convX Tryz.prog W 5 89 (some (.int k' a)) (some (.int .u8)) (some (.int .u64)) = some (.val (some (.int .u64 (IntKind.wrap .u64 a)))) := conv_int Tryz.underlying5 Tryz.underlying89
theorem cv_uint64_int {k' : IntKind} {a : Int} {W : XW} : convX Tryz.prog W 89 3 (some (.int k' a)) (some (.int .u64)) (some (.int .i64)) = some (.val (some (.int .i64 (IntKind.wrap .i64 a)))) := conv_int Tryz.underlying89 Tryz.underlying3
theorem cv_uint64_uint8 {k' : IntKind} {a : Int} {W : XW} : convX Tryz.prog W 89 5 (some (.int k' a)) (some (.int .u64)) (some (.int .u8)) = some (.val (some (.int .u8 (IntKind.wrap .u8 a)))) := conv_int Tryz.underlying89 Tryz.underlying5
theorem cv_uint64_uint64 {k' : IntKind} {a : Int} {W : XW} : convX Tryz.prog W 89 89 (some (.int k' a)) (some (.int .u64)) (some (.int .u64)) = some (.val (some (.int .u64 (IntKind.wrap .u64 a)))) := conv_int Tryz.underlying89 Tryz.underlying89
theorem cv_uint16_int {k' : IntKind} {a : Int} {W : XW} : convX Tryz.prog W 27 3 (some (.int k' a)) (some (.int .u16)) (some (.int .i64)) = some (.val (some (.int .i64 (IntKind.wrap .i64 a)))) := conv_int Tryz.underlying27 Tryz.underlying3
theorem cv_uint16_uint8 {k' : IntKind} {a : Int} {W : XW} : convX Tryz.prog W 27 5 (some (.int k' a)) (some (.int .u16)) (some (.int .u8)) = some (.val (some (.int .u8 (IntKind.wrap .u8 a)))) := conv_int Tryz.underlying27 Tryz.underlying5
attribute [go_sem] ev.eq_3 ev.eq_4 evs.eq_1 evs.eq_2 oneC.eq_1 oneC.eq_2 loadX.eq_1 loadX.eq_2 inFr.eq_1 storeX.eq_1 evP.eq_1 evP.eq_2 aggO.eq_1 aggO.eq_2 val.eq_1 newV.eq_1 newS.eq_1 newAt.eq_1 bound.eq_1 bound.eq_2 srcX.eq_1 srcX.eq_2 srcX.eq_3 srcX.eq_4 lenX.eq_1 lenX.eq_2 lenX.eq_3 modO.eq_1 modO.eq_2 frCut.eq_1 rowIs.eq_1 rowIs.eq_2 okNeed.eq_1 app4.eq_1 app5.eq_1 app5.eq_2 app3.eq_1 app3.eq_2 app2.eq_1 app1.eq_1 app1.eq_2 appS.eq_1 appendX.eq_1 adv.eq_1 slS.eq_1 slL.eq_1 slZ.eq_1 slM.eq_1 slA.eq_1 sliceX.eq_1 sliceX.eq_3 sliceX.eq_4 sliceX.eq_5 sliceX.eq_7 mapGet.eq_1 mapGet.eq_2 byteIn.eq_1 byteIn.eq_2 bytesOf.eq_1 bytesOf.eq_2 lenMap.eq_1 lenMap.eq_2 lenB.eq_1 lenB.eq_2 lenB.eq_4 lenB.eq_5 lenB.eq_7 cpy3.eq_1 cpy2.eq_1 cpy2.eq_2 cpy1.eq_1 cpyB.eq_1 usd.eq_1 usd.eq_2 ust2.eq_1 ust2.eq_2 ust1.eq_1 ustB.eq_1 ustB.eq_2 notInt.eq_1 notInt.eq_3 undO.eq_1 undO.eq_2 valO.eq_1 valO.eq_2 valF.eq_1 valF.eq_2 builtinX.eq_1 builtinX.eq_2 builtinX.eq_3 builtinX.eq_4 builtinX.eq_5 builtinX.eq_6 builtinX.eq_7 builtinX.eq_8 builtinX.eq_9 boxX.eq_1 boxX.eq_2 allocX.eq_1 allocX.eq_2 bldX.eq_1 bldX.eq_2 bsl2.eq_1 bsl2.eq_2 bsl1.eq_1 bslX.eq_1 ldX.eq_1 ldX.eq_2 stX.eq_1 nilX.eq_1 nilX.eq_2 eqW.eq_1 eqW.eq_2 unX.eq_2 strO.eq_1 strO.eq_2 bytesO.eq_1 bytesO.eq_2 bytesStr.eq_1 convF.eq_1 convF.eq_2 convX.eq_1 convX.eq_2 s2aX.eq_1 ifaceX.eq_1 mkfX.eq_1 newM.eq_1 mkmX.eq_1 mkmX.eq_2 mks1.eq_1 mksX.eq_1 slcX.eq_1 slcX.eq_2 fadd.eq_1 fad1.eq_1 fad1.eq_2 fadZ.eq_1 fadY.eq_1 fadY.eq_2 fadX.eq_1 fadX.eq_2 fld1.eq_1 fld1.eq_2 fldX.eq_1 iad1.eq_1 iad1.eq_2 iadZ.eq_1 iadZ.eq_2 iadX.eq_1 iadX.eq_2 iadX.eq_3 iadX.eq_4 idx1.eq_1 idx1.eq_2 byteO.eq_1 byteO.eq_2 idxX.eq_1 idxX.eq_2 okV.eq_1 lku2.eq_1 lku2.eq_2 lku2.eq_3 lku1.eq_1 lkuX.eq_1 upd3.eq_1 upd3.eq_2 upd2.eq_1 upd2.eq_2 upd2.eq_3 upd1.eq_1 updX.eq_1 asr1.eq_1 asrX.eq_1 extX.eq_1 callV.eq_1 callV.eq_2 bltX.eq_1 bltX.eq_2 calX.eq_1 calX.eq_2 defV.eq_1 defX.eq_1 panX.eq_1 reserveX.eq_1 reserveX.eq_2 xop.eq_1 xop.eq_2 xop.eq_3 xop.eq_4 xop.eq_5 xop.eq_6 xop.eq_7 xop.eq_8 xop.eq_9 xop.eq_10 xop.eq_11 xop.eq_12 xop.eq_13 xop.eq_14 xop.eq_15 xop.eq_16 xop.eq_17 xop.eq_18 xop.eq_19 xop.eq_20 xop.eq_21 xop.eq_22 xop.eq_23 xop.eq_24 xop.eq_25 xop.eq_26 xop.eq_27 xop.eq_28 xop.eq_29 xop.eq_30 xop.eq_31 xop.eq_32 xop.eq_33 xop.eq_34 xop.eq_35 xop.eq_36 wantV.eq_1 wantV.eq_3 resV.eq_1 resV.eq_2 resX.eq_1 resX.eq_2 oneOr.eq_1 settleX.eq_1 settleX.eq_2 settleX.eq_3 onK.eq_1 onK.eq_2 callK.eq_1 callK.eq_2 dfK.eq_1 dfK.eq_2 opK.eq_1 opK.eq_2 opK.eq_3 opK.eq_4 opK.eq_5 opK.eq_6 opK.eq_7 opK.eq_8 wantK.eq_1 wantK.eq_2 wantK.eq_3 op1.eq_1 opsK.eq_1 opsK.eq_2 opsK.eq_3 opsX.eq_1 opsX.eq_2 trcK.eq_1 trcK.eq_2 trc1.eq_1 traceX.eq_1 traceX.eq_2 endOf.eq_1 endOf.eq_2 endOf.eq_3 endOf.eq_4 finO.eq_1 finO.eq_2 finK.eq_1 finK.eq_2 finK.eq_3 hookO.eq_1 hookO.eq_2 callX.eq_1 buildX.eq_1 buildX.eq_2 bldS.eq_1 bldS.eq_2 bldA.eq_1 bldA.eq_2 fillX.eq_1 fillX.eq_2 placesX.eq_1 placesX.eq_2 cut.eq_1 wr.eq_1 rep.eq_1 rep.eq_2 rowLen.eq_1 info3 Tryz.t3 sz3 agg3 zero3 Tryz.underlying3 info4 Tryz.t4 sz4 agg4 zero4 Tryz.underlying4 info5 Tryz.t5 sz5 agg5 zero5 Tryz.underlying5 info89 Tryz.t89 sz89 agg89 zero89 Tryz.underlying89 info9 Tryz.t9 sz9 agg9 zero9 Tryz.underlying9 info80 Tryz.t80 sz80 agg80 zero80 Tryz.underlying80 info20 Tryz.t20 sz20 agg20 zero20 Tryz.underlying20 info22 Tryz.t22 sz22 agg22 zero22 Tryz.underlying22 info24 Tryz.t24 sz24 agg24 zero24 Tryz.underlying24 info141 Tryz.t141 sz141 agg141 zero141 Tryz.underlying141 info32 Tryz.t32 sz32 agg32 zero32 Tryz.underlying32 info30 Tryz.t30 sz30 agg30 zero30 Tryz.underlying30 info31 Tryz.t31 sz31 agg31 zero31 Tryz.underlying31 info34 Tryz.t34 sz34 agg34 zero34 Tryz.underlying34 info37 Tryz.t37 sz37 agg37 zero37 Tryz.underlying37 info61 Tryz.t61 sz61 agg61 zero61 Tryz.underlying61 info62 Tryz.t62 sz62 agg62 zero62 Tryz.underlying62 info64 Tryz.t64 sz64 agg64 zero64 Tryz.underlying64 info70 Tryz.t70 sz70 agg70 zero70 Tryz.underlying70 info71 Tryz.t71 sz71 agg71 zero71 Tryz.underlying71 info74 Tryz.t74 sz74 agg74 zero74 Tryz.underlying74 info76 Tryz.t76 sz76 agg76 zero76 Tryz.underlying76 info78 Tryz.t78 sz78 agg78 zero78 Tryz.underlying78 info73 Tryz.t73 sz73 agg73 zero73 Tryz.underlying73 info92 Tryz.t92 sz92 agg92 zero92 Tryz.underlying92 info96 Tryz.t96 sz96 agg96 zero96 Tryz.underlying96 info94 Tryz.t94 sz94 agg94 zero94 Tryz.underlying94 info103 Tryz.t103 sz103 agg103 zero103 Tryz.underlying103 info101 Tryz.t101 sz101 agg101 zero101 Tryz.underlying101 info26 Tryz.t26 sz26 agg26 zero26 Tryz.underlying26 info68 Tryz.t68 sz68 agg68 zero68 Tryz.underlying68 info23 Tryz.t23 sz23 agg23 zero23 Tryz.underlying23 info27 Tryz.t27 sz27 agg27 zero27 Tryz.underlying27 info28 Tryz.t28 sz28 agg28 zero28 Tryz.underlying28 info41 Tryz.t41 sz41 agg41 zero41 Tryz.underlying41 bin_add bin_sub bin_mul bin_lss bin_leq bin_gtr bin_geq bin_eql bin_neq bin_and bin_or bin_xor bin_rem bin_quo bin_shl bin_shr un_not un_neg un_xor bin_seq bin_sne cv_int_int cv_int_uint8 cv_int_uint64 cv_uint8_int cv_uint8_uint8 cv_uint8_uint64 cv_uint64_int cv_uint64_uint8 cv_uint64_uint64 cv_uint16_int cv_uint16_uint8 flat_int flat_bool flat_str flat_nilI flat_nilF flat_nilS flat_nilP flat_nilM size_str goInt_nat isOpen_open notInt_slice notInt_string one_int one_bool one_str one_ptr one_slice one_map one_func one_nilF one_iface one_nilI one_fz one_fp List.size_toArray icast_add icast_mul icast_pow icast_tmod icast_tdiv icast_fdiv icast_toNat bits_u64 bits_i64 bits_u8 min_l wrap_i64 wrap_u64 wrap_u8 strBytes_str one_bvs length_bvs List.take_of_length_le List.toList_toArray List.drop_nil str_extract str_list take1 drop1 pickX.eq_1 Option.bind_some Bool.true_beq Bool.false_beq ble_t ble_f blt_t blt_f beq_t beqF dec_t dec_f ieq_t ieq_f ine_t ine_f List.take_length List.drop_zero ev_c0 ev_c1 ev_c2 ev_c3 ev_c4 ev_c5 ev_c6 ev_c7 ev_c8 ev_c9 ev_c10 ev_c11 ev_c12 ev_c13 ev_c14 ev_c15 ev_c16 ev_c20 ev_c26 ev_c30 ev_c31 ev_c32 ev_c33 ev_c48 ev_c63 ev_c64 ev_c65 ev_c97 ev_c126 ev_c127 ev_c128 ev_c129 ev_c250 ev_c255 ev_c256 ev_c300 ev_c500 ev_c1000 ev_c4000 ev_c65535 ev_cneg ev_cneg' ev_cbool ev_cstr ev_cnilI ev_cnilF ev_cnilP ev_cnilM ev_cnilS ev_cfn idx_str List.getElem_cons_zero List.getElem_cons_succ wantX frm_get oneOr_nil oneOr_two ev_tmp lk_hit lk_miss lk_nil putX_frm putX_none wd_get wd_put wd_push wd_next run1 hooksOf tab_hit tab_miss Nat.zero_add Nat.add_zero Bool.and_true Bool.true_and Bool.false_and Bool.and_false Bool.not_true Bool.not_false Bool.or_true Bool.true_or Bool.or_false Bool.false_or cond_true cond_false Value.cells List.getElem?_cons_zero List.getElem?_cons_succ List.getElem?_toArray List.length_cons List.length_nil List.all_cons List.all_nil List.drop_succ_cons List.take_succ_cons List.take_zero List.cons_append List.nil_append List.append_nil Nat.zero_mod Nat.sub_self
end Go.Proofs.YthlkgmdkabelpaaGreatDoor.X
