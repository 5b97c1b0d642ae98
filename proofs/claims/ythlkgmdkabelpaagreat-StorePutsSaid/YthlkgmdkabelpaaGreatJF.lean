/-
  Facts of this program's types; hooks of the hashes, of the order of hashes and of the copy check.
  The facts by which the machine is carried out, as a set for rewriting.
  The stores, as callers see them: the store (a map of hashes) and that of the reference (a list).
  The store: New, Put and Get walked.
  The store: Get walked; New, Put and Get as hooks.
  Functions that touch no object: their results by their arguments; bytes of strings. Over any program.
  The reference's store in plain terms; the order of hashes as a hook.
  The reference's store: Put walked.
  The reference's store: Get walked.
  Slices of rows that nobody writes again: length, places, cells; a row that a result holds is frozen. Over any program.
  The reference's All and Hashes.
  The reference's All.
  No condition.
-/
import Derived.Test.YthlkgmdkabelpaaGreatJD
import Derived.Test.YthlkgmdkabelpaaGreatJE
set_option linter.all false
set_option linter.unusedVariables false
set_option linter.unusedSimpArgs false
namespace Go.Proofs.YthlkgmdkabelpaaGreat.X
open Go Go.RowKit
theorem mixed : Tryz.prog.follows .mixedOrders = true := by kernel_rfl
theorem sz3 : sz Tryz.prog 3 = some 1 := by kernel_rfl
theorem agg3 : aggT Tryz.prog 3 = some false := by kernel_rfl
theorem zero3 : zeroOf Tryz.prog 3 = some (.int .i64 0) := by kernel_rfl
theorem info3 : Tryz.prog.info? 3 = some Tryz.t3 := by kernel_rfl
theorem sz4 : sz Tryz.prog 4 = some 1 := by kernel_rfl
theorem agg4 : aggT Tryz.prog 4 = some false := by kernel_rfl
theorem zero4 : zeroOf Tryz.prog 4 = some (.bool false) := by kernel_rfl
theorem info4 : Tryz.prog.info? 4 = some Tryz.t4 := by kernel_rfl
theorem sz5 : sz Tryz.prog 5 = some 1 := by kernel_rfl
theorem agg5 : aggT Tryz.prog 5 = some false := by kernel_rfl
theorem zero5 : zeroOf Tryz.prog 5 = some (.int .u8 0) := by kernel_rfl
theorem info5 : Tryz.prog.info? 5 = some Tryz.t5 := by kernel_rfl
theorem sz9 : sz Tryz.prog 9 = some 1 := by kernel_rfl
theorem agg9 : aggT Tryz.prog 9 = some false := by kernel_rfl
theorem zero9 : zeroOf Tryz.prog 9 = some (.string (str [])) := by kernel_rfl
theorem info9 : Tryz.prog.info? 9 = some Tryz.t9 := by kernel_rfl
theorem sz92 : sz Tryz.prog 92 = some 1 := by kernel_rfl
theorem agg92 : aggT Tryz.prog 92 = some false := by kernel_rfl
theorem zero92 : zeroOf Tryz.prog 92 = some (.nilIface) := by kernel_rfl
theorem info92 : Tryz.prog.info? 92 = some Tryz.t92 := by kernel_rfl
theorem sz20 : sz Tryz.prog 20 = some 1 := by kernel_rfl
theorem agg20 : aggT Tryz.prog 20 = some false := by kernel_rfl
theorem zero20 : zeroOf Tryz.prog 20 = some (.nilIface) := by kernel_rfl
theorem info20 : Tryz.prog.info? 20 = some Tryz.t20 := by kernel_rfl
theorem sz22 : sz Tryz.prog 22 = some 1 := by kernel_rfl
theorem agg22 : aggT Tryz.prog 22 = some false := by kernel_rfl
theorem zero22 : zeroOf Tryz.prog 22 = some (.slice none 0 0) := by kernel_rfl
theorem info22 : Tryz.prog.info? 22 = some Tryz.t22 := by kernel_rfl
theorem sz80 : sz Tryz.prog 80 = some 1 := by kernel_rfl
theorem agg80 : aggT Tryz.prog 80 = some false := by kernel_rfl
theorem zero80 : zeroOf Tryz.prog 80 = some (.slice none 0 0) := by kernel_rfl
theorem info80 : Tryz.prog.info? 80 = some Tryz.t80 := by kernel_rfl
theorem sz35 : sz Tryz.prog 35 = some 1 := by kernel_rfl
theorem agg35 : aggT Tryz.prog 35 = some false := by kernel_rfl
theorem zero35 : zeroOf Tryz.prog 35 = some (.slice none 0 0) := by kernel_rfl
theorem info35 : Tryz.prog.info? 35 = some Tryz.t35 := by kernel_rfl
theorem sz23 : sz Tryz.prog 23 = some 32 := by kernel_rfl
theorem agg23 : aggT Tryz.prog 23 = some true := by kernel_rfl
theorem zero23 : zeroOf Tryz.prog 23 = some (.agg #[.int .u8 0, .int .u8 0, .int .u8 0, .int .u8 0, .int .u8 0, .int .u8 0, .int .u8 0, .int .u8 0, .int .u8 0, .int .u8 0, .int .u8 0, .int .u8 0, .int .u8 0, .int .u8 0, .int .u8 0, .int .u8 0, .int .u8 0, .int .u8 0, .int .u8 0, .int .u8 0, .int .u8 0, .int .u8 0, .int .u8 0, .int .u8 0, .int .u8 0, .int .u8 0, .int .u8 0, .int .u8 0, .int .u8 0, .int .u8 0, .int .u8 0, .int .u8 0]) := by kernel_rfl
theorem info23 : Tryz.prog.info? 23 = some Tryz.t23 := by kernel_rfl
theorem sz24 : sz Tryz.prog 24 = some 32 := by kernel_rfl
theorem agg24 : aggT Tryz.prog 24 = some true := by kernel_rfl
theorem zero24 : zeroOf Tryz.prog 24 = some (.agg #[.int .u8 0, .int .u8 0, .int .u8 0, .int .u8 0, .int .u8 0, .int .u8 0, .int .u8 0, .int .u8 0, .int .u8 0, .int .u8 0, .int .u8 0, .int .u8 0, .int .u8 0, .int .u8 0, .int .u8 0, .int .u8 0, .int .u8 0, .int .u8 0, .int .u8 0, .int .u8 0, .int .u8 0, .int .u8 0, .int .u8 0, .int .u8 0, .int .u8 0, .int .u8 0, .int .u8 0, .int .u8 0, .int .u8 0, .int .u8 0, .int .u8 0, .int .u8 0]) := by kernel_rfl
theorem info24 : Tryz.prog.info? 24 = some Tryz.t24 := by kernel_rfl
theorem sz48 : sz Tryz.prog 48 = some 1 := by kernel_rfl
theorem agg48 : aggT Tryz.prog 48 = some false := by kernel_rfl
theorem zero48 : zeroOf Tryz.prog 48 = some (.slice none 0 0) := by kernel_rfl
theorem info48 : Tryz.prog.info? 48 = some Tryz.t48 := by kernel_rfl
theorem sz65 : sz Tryz.prog 65 = some 1 := by kernel_rfl
theorem agg65 : aggT Tryz.prog 65 = some true := by kernel_rfl
theorem zero65 : zeroOf Tryz.prog 65 = some (.agg #[.map none]) := by kernel_rfl
theorem info65 : Tryz.prog.info? 65 = some Tryz.t65 := by kernel_rfl
theorem sz26 : sz Tryz.prog 26 = some 1 := by kernel_rfl
theorem agg26 : aggT Tryz.prog 26 = some false := by kernel_rfl
theorem zero26 : zeroOf Tryz.prog 26 = some (.pointer none) := by kernel_rfl
theorem info26 : Tryz.prog.info? 26 = some Tryz.t26 := by kernel_rfl
theorem sz63 : sz Tryz.prog 63 = some 1 := by kernel_rfl
theorem agg63 : aggT Tryz.prog 63 = some false := by kernel_rfl
theorem zero63 : zeroOf Tryz.prog 63 = some (.map none) := by kernel_rfl
theorem info63 : Tryz.prog.info? 63 = some Tryz.t63 := by kernel_rfl
theorem sz69 : sz Tryz.prog 69 = some 1 := by kernel_rfl
theorem agg69 : aggT Tryz.prog 69 = some true := by kernel_rfl
theorem zero69 : zeroOf Tryz.prog 69 = some (.agg #[.slice none 0 0]) := by kernel_rfl
theorem info69 : Tryz.prog.info? 69 = some Tryz.t69 := by kernel_rfl
theorem sz28 : sz Tryz.prog 28 = some 1 := by kernel_rfl
theorem agg28 : aggT Tryz.prog 28 = some false := by kernel_rfl
theorem zero28 : zeroOf Tryz.prog 28 = some (.pointer none) := by kernel_rfl
theorem info28 : Tryz.prog.info? 28 = some Tryz.t28 := by kernel_rfl
theorem sz72 : sz Tryz.prog 72 = some 33 := by kernel_rfl
theorem agg72 : aggT Tryz.prog 72 = some true := by kernel_rfl
theorem zero72 : zeroOf Tryz.prog 72 = some (.agg #[.int .u8 0, .int .u8 0, .int .u8 0, .int .u8 0, .int .u8 0, .int .u8 0, .int .u8 0, .int .u8 0, .int .u8 0, .int .u8 0, .int .u8 0, .int .u8 0, .int .u8 0, .int .u8 0, .int .u8 0, .int .u8 0, .int .u8 0, .int .u8 0, .int .u8 0, .int .u8 0, .int .u8 0, .int .u8 0, .int .u8 0, .int .u8 0, .int .u8 0, .int .u8 0, .int .u8 0, .int .u8 0, .int .u8 0, .int .u8 0, .int .u8 0, .int .u8 0, .string (str [])]) := by kernel_rfl
theorem info72 : Tryz.prog.info? 72 = some Tryz.t72 := by kernel_rfl
theorem sz67 : sz Tryz.prog 67 = some 1 := by kernel_rfl
theorem agg67 : aggT Tryz.prog 67 = some false := by kernel_rfl
theorem zero67 : zeroOf Tryz.prog 67 = some (.slice none 0 0) := by kernel_rfl
theorem info67 : Tryz.prog.info? 67 = some Tryz.t67 := by kernel_rfl
theorem sz82 : sz Tryz.prog 82 = some 2 := by kernel_rfl
theorem agg82 : aggT Tryz.prog 82 = some true := by kernel_rfl
theorem zero82 : zeroOf Tryz.prog 82 = some (.agg #[.pointer none, .slice none 0 0]) := by kernel_rfl
theorem info82 : Tryz.prog.info? 82 = some Tryz.t82 := by kernel_rfl
theorem sz79 : sz Tryz.prog 79 = some 1 := by kernel_rfl
theorem agg79 : aggT Tryz.prog 79 = some false := by kernel_rfl
theorem zero79 : zeroOf Tryz.prog 79 = some (.pointer none) := by kernel_rfl
theorem info79 : Tryz.prog.info? 79 = some Tryz.t79 := by kernel_rfl
theorem sz43 : sz Tryz.prog 43 = some 1 := by kernel_rfl
theorem agg43 : aggT Tryz.prog 43 = some false := by kernel_rfl
theorem zero43 : zeroOf Tryz.prog 43 = some (.int .i64 0) := by kernel_rfl
theorem info43 : Tryz.prog.info? 43 = some Tryz.t43 := by kernel_rfl
theorem sz113 : sz Tryz.prog 113 = some 1 := by kernel_rfl
theorem agg113 : aggT Tryz.prog 113 = some false := by kernel_rfl
theorem zero113 : zeroOf Tryz.prog 113 = some (.nilFunc) := by kernel_rfl
theorem info113 : Tryz.prog.info? 113 = some Tryz.t113 := by kernel_rfl
theorem sz116 : sz Tryz.prog 116 = some 1 := by kernel_rfl
theorem agg116 : aggT Tryz.prog 116 = some false := by kernel_rfl
theorem zero116 : zeroOf Tryz.prog 116 = some (.nilFunc) := by kernel_rfl
theorem info116 : Tryz.prog.info? 116 = some Tryz.t116 := by kernel_rfl
theorem sz168 : sz Tryz.prog 168 = some 1 := by kernel_rfl
theorem agg168 : aggT Tryz.prog 168 = some false := by kernel_rfl
theorem zero168 : zeroOf Tryz.prog 168 = some (.nilFunc) := by kernel_rfl
theorem info168 : Tryz.prog.info? 168 = some Tryz.t168 := by kernel_rfl
theorem sz58 : sz Tryz.prog 58 = some 3 := by kernel_rfl
theorem agg58 : aggT Tryz.prog 58 = some true := by kernel_rfl
theorem zero58 : zeroOf Tryz.prog 58 = some (.agg #[.int .i64 0, .int .i64 0, .slice none 0 0]) := by kernel_rfl
theorem info58 : Tryz.prog.info? 58 = some Tryz.t58 := by kernel_rfl
theorem sz60 : sz Tryz.prog 60 = some 2 := by kernel_rfl
theorem agg60 : aggT Tryz.prog 60 = some true := by kernel_rfl
theorem zero60 : zeroOf Tryz.prog 60 = some (.agg #[.int .i64 0, .int .i64 0]) := by kernel_rfl
theorem info60 : Tryz.prog.info? 60 = some Tryz.t60 := by kernel_rfl
theorem sz40 : sz Tryz.prog 40 = some 1 := by kernel_rfl
theorem agg40 : aggT Tryz.prog 40 = some true := by kernel_rfl
theorem zero40 : zeroOf Tryz.prog 40 = some (.agg #[.slice none 0 0]) := by kernel_rfl
theorem info40 : Tryz.prog.info? 40 = some Tryz.t40 := by kernel_rfl
theorem sz38 : sz Tryz.prog 38 = some 1 := by kernel_rfl
theorem agg38 : aggT Tryz.prog 38 = some false := by kernel_rfl
theorem zero38 : zeroOf Tryz.prog 38 = some (.slice none 0 0) := by kernel_rfl
theorem info38 : Tryz.prog.info? 38 = some Tryz.t38 := by kernel_rfl
theorem sz56 : sz Tryz.prog 56 = some 1 := by kernel_rfl
theorem agg56 : aggT Tryz.prog 56 = some false := by kernel_rfl
theorem zero56 : zeroOf Tryz.prog 56 = some (.slice none 0 0) := by kernel_rfl
theorem info56 : Tryz.prog.info? 56 = some Tryz.t56 := by kernel_rfl
theorem sz37 : sz Tryz.prog 37 = some 1 := by kernel_rfl
theorem agg37 : aggT Tryz.prog 37 = some false := by kernel_rfl
theorem zero37 : zeroOf Tryz.prog 37 = some (.slice none 0 0) := by kernel_rfl
theorem info37 : Tryz.prog.info? 37 = some Tryz.t37 := by kernel_rfl
theorem sz176 : sz Tryz.prog 176 = some 1 := by kernel_rfl
theorem agg176 : aggT Tryz.prog 176 = some false := by kernel_rfl
theorem zero176 : zeroOf Tryz.prog 176 = some (.map none) := by kernel_rfl
theorem info176 : Tryz.prog.info? 176 = some Tryz.t176 := by kernel_rfl
theorem sz180 : sz Tryz.prog 180 = some 1 := by kernel_rfl
theorem agg180 : aggT Tryz.prog 180 = some false := by kernel_rfl
theorem zero180 : zeroOf Tryz.prog 180 = some (.map none) := by kernel_rfl
theorem info180 : Tryz.prog.info? 180 = some Tryz.t180 := by kernel_rfl
theorem sz181 : sz Tryz.prog 181 = some 1 := by kernel_rfl
theorem agg181 : aggT Tryz.prog 181 = some false := by kernel_rfl
theorem zero181 : zeroOf Tryz.prog 181 = some (.map none) := by kernel_rfl
theorem info181 : Tryz.prog.info? 181 = some Tryz.t181 := by kernel_rfl
theorem sz182 : sz Tryz.prog 182 = some 1 := by kernel_rfl
theorem agg182 : aggT Tryz.prog 182 = some false := by kernel_rfl
theorem zero182 : zeroOf Tryz.prog 182 = some (.map none) := by kernel_rfl
theorem info182 : Tryz.prog.info? 182 = some Tryz.t182 := by kernel_rfl
theorem sz76 : sz Tryz.prog 76 = some 1 := by kernel_rfl
theorem agg76 : aggT Tryz.prog 76 = some false := by kernel_rfl
theorem zero76 : zeroOf Tryz.prog 76 = some (.map none) := by kernel_rfl
theorem info76 : Tryz.prog.info? 76 = some Tryz.t76 := by kernel_rfl
theorem sz178 : sz Tryz.prog 178 = some 2 := by kernel_rfl
theorem agg178 : aggT Tryz.prog 178 = some true := by kernel_rfl
theorem zero178 : zeroOf Tryz.prog 178 = some (.agg #[.map none, .slice none 0 0]) := by kernel_rfl
theorem info178 : Tryz.prog.info? 178 = some Tryz.t178 := by kernel_rfl
theorem sz135 : sz Tryz.prog 135 = some 1 := by kernel_rfl
theorem agg135 : aggT Tryz.prog 135 = some false := by kernel_rfl
theorem zero135 : zeroOf Tryz.prog 135 = some (.pointer none) := by kernel_rfl
theorem info135 : Tryz.prog.info? 135 = some Tryz.t135 := by kernel_rfl
theorem sz84 : sz Tryz.prog 84 = some 2 := by kernel_rfl
theorem agg84 : aggT Tryz.prog 84 = some true := by kernel_rfl
theorem zero84 : zeroOf Tryz.prog 84 = some (.agg #[.pointer none, .slice none 0 0]) := by kernel_rfl
theorem info84 : Tryz.prog.info? 84 = some Tryz.t84 := by kernel_rfl
theorem sz78 : sz Tryz.prog 78 = some 1 := by kernel_rfl
theorem agg78 : aggT Tryz.prog 78 = some false := by kernel_rfl
theorem zero78 : zeroOf Tryz.prog 78 = some (.pointer none) := by kernel_rfl
theorem info78 : Tryz.prog.info? 78 = some Tryz.t78 := by kernel_rfl
theorem sz109 : sz Tryz.prog 109 = some 33 := by kernel_rfl
theorem agg109 : aggT Tryz.prog 109 = some true := by kernel_rfl
theorem zero109 : zeroOf Tryz.prog 109 = some (.agg #[.int .i64 0, .int .u8 0, .int .u8 0, .int .u8 0, .int .u8 0, .int .u8 0, .int .u8 0, .int .u8 0, .int .u8 0, .int .u8 0, .int .u8 0, .int .u8 0, .int .u8 0, .int .u8 0, .int .u8 0, .int .u8 0, .int .u8 0, .int .u8 0, .int .u8 0, .int .u8 0, .int .u8 0, .int .u8 0, .int .u8 0, .int .u8 0, .int .u8 0, .int .u8 0, .int .u8 0, .int .u8 0, .int .u8 0, .int .u8 0, .int .u8 0, .int .u8 0, .int .u8 0]) := by kernel_rfl
theorem info109 : Tryz.prog.info? 109 = some Tryz.t109 := by kernel_rfl
theorem sz106 : sz Tryz.prog 106 = some 1 := by kernel_rfl
theorem agg106 : aggT Tryz.prog 106 = some false := by kernel_rfl
theorem zero106 : zeroOf Tryz.prog 106 = some (.slice none 0 0) := by kernel_rfl
theorem info106 : Tryz.prog.info? 106 = some Tryz.t106 := by kernel_rfl
theorem sz165 : sz Tryz.prog 165 = some 1 := by kernel_rfl
theorem agg165 : aggT Tryz.prog 165 = some true := by kernel_rfl
theorem zero165 : zeroOf Tryz.prog 165 = some (.agg #[.string (str [])]) := by kernel_rfl
theorem info165 : Tryz.prog.info? 165 = some Tryz.t165 := by kernel_rfl
theorem sz160 : sz Tryz.prog 160 = some 1 := by kernel_rfl
theorem agg160 : aggT Tryz.prog 160 = some false := by kernel_rfl
theorem zero160 : zeroOf Tryz.prog 160 = some (.pointer none) := by kernel_rfl
theorem info160 : Tryz.prog.info? 160 = some Tryz.t160 := by kernel_rfl
theorem sz159 : sz Tryz.prog 159 = some 1 := by kernel_rfl
theorem agg159 : aggT Tryz.prog 159 = some true := by kernel_rfl
theorem zero159 : zeroOf Tryz.prog 159 = some (.agg #[.int .i64 0]) := by kernel_rfl
theorem info159 : Tryz.prog.info? 159 = some Tryz.t159 := by kernel_rfl
theorem sz123 : sz Tryz.prog 123 = some 1 := by kernel_rfl
theorem agg123 : aggT Tryz.prog 123 = some false := by kernel_rfl
theorem zero123 : zeroOf Tryz.prog 123 = some (.int .u64 0) := by kernel_rfl
theorem info123 : Tryz.prog.info? 123 = some Tryz.t123 := by kernel_rfl
theorem sz54 : sz Tryz.prog 54 = some 2 := by kernel_rfl
theorem agg54 : aggT Tryz.prog 54 = some true := by kernel_rfl
theorem zero54 : zeroOf Tryz.prog 54 = some (.agg #[.int .i64 0, .int .i64 0]) := by kernel_rfl
theorem info54 : Tryz.prog.info? 54 = some Tryz.t54 := by kernel_rfl
theorem sz36 : sz Tryz.prog 36 = some 2 := by kernel_rfl
theorem agg36 : aggT Tryz.prog 36 = some true := by kernel_rfl
theorem zero36 : zeroOf Tryz.prog 36 = some (.agg #[.int .u8 0, .int .u8 0]) := by kernel_rfl
theorem info36 : Tryz.prog.info? 36 = some Tryz.t36 := by kernel_rfl
theorem sz103 : sz Tryz.prog 103 = some 33 := by kernel_rfl
theorem agg103 : aggT Tryz.prog 103 = some true := by kernel_rfl
theorem zero103 : zeroOf Tryz.prog 103 = some (.agg #[.int .i64 0, .int .u8 0, .int .u8 0, .int .u8 0, .int .u8 0, .int .u8 0, .int .u8 0, .int .u8 0, .int .u8 0, .int .u8 0, .int .u8 0, .int .u8 0, .int .u8 0, .int .u8 0, .int .u8 0, .int .u8 0, .int .u8 0, .int .u8 0, .int .u8 0, .int .u8 0, .int .u8 0, .int .u8 0, .int .u8 0, .int .u8 0, .int .u8 0, .int .u8 0, .int .u8 0, .int .u8 0, .int .u8 0, .int .u8 0, .int .u8 0, .int .u8 0, .int .u8 0]) := by kernel_rfl
theorem info103 : Tryz.prog.info? 103 = some Tryz.t103 := by kernel_rfl
theorem sz97 : sz Tryz.prog 97 = some 1 := by kernel_rfl
theorem agg97 : aggT Tryz.prog 97 = some false := by kernel_rfl
theorem zero97 : zeroOf Tryz.prog 97 = some (.slice none 0 0) := by kernel_rfl
theorem info97 : Tryz.prog.info? 97 = some Tryz.t97 := by kernel_rfl
theorem sz139 : sz Tryz.prog 139 = some 1 := by kernel_rfl
theorem agg139 : aggT Tryz.prog 139 = some false := by kernel_rfl
theorem zero139 : zeroOf Tryz.prog 139 = some (.nilFunc) := by kernel_rfl
theorem info139 : Tryz.prog.info? 139 = some Tryz.t139 := by kernel_rfl
theorem sz141 : sz Tryz.prog 141 = some 1 := by kernel_rfl
theorem agg141 : aggT Tryz.prog 141 = some false := by kernel_rfl
theorem zero141 : zeroOf Tryz.prog 141 = some (.nilFunc) := by kernel_rfl
theorem info141 : Tryz.prog.info? 141 = some Tryz.t141 := by kernel_rfl
theorem sz185 : sz Tryz.prog 185 = some 1 := by kernel_rfl
theorem agg185 : aggT Tryz.prog 185 = some false := by kernel_rfl
theorem zero185 : zeroOf Tryz.prog 185 = some (.nilFunc) := by kernel_rfl
theorem info185 : Tryz.prog.info? 185 = some Tryz.t185 := by kernel_rfl
theorem sz187 : sz Tryz.prog 187 = some 1 := by kernel_rfl
theorem agg187 : aggT Tryz.prog 187 = some false := by kernel_rfl
theorem zero187 : zeroOf Tryz.prog 187 = some (.nilFunc) := by kernel_rfl
theorem info187 : Tryz.prog.info? 187 = some Tryz.t187 := by kernel_rfl
theorem sz88 : sz Tryz.prog 88 = some 1 := by kernel_rfl
theorem agg88 : aggT Tryz.prog 88 = some false := by kernel_rfl
theorem zero88 : zeroOf Tryz.prog 88 = some (.nilFunc) := by kernel_rfl
theorem info88 : Tryz.prog.info? 88 = some Tryz.t88 := by kernel_rfl
theorem sz144 : sz Tryz.prog 144 = some 1 := by kernel_rfl
theorem agg144 : aggT Tryz.prog 144 = some false := by kernel_rfl
theorem zero144 : zeroOf Tryz.prog 144 = some (.nilFunc) := by kernel_rfl
theorem info144 : Tryz.prog.info? 144 = some Tryz.t144 := by kernel_rfl
theorem sz183 : sz Tryz.prog 183 = some 1 := by kernel_rfl
theorem agg183 : aggT Tryz.prog 183 = some false := by kernel_rfl
theorem zero183 : zeroOf Tryz.prog 183 = some (.nilFunc) := by kernel_rfl
theorem info183 : Tryz.prog.info? 183 = some Tryz.t183 := by kernel_rfl
theorem sz105 : sz Tryz.prog 105 = some 1 := by kernel_rfl
theorem agg105 : aggT Tryz.prog 105 = some false := by kernel_rfl
theorem zero105 : zeroOf Tryz.prog 105 = some (.pointer none) := by kernel_rfl
theorem info105 : Tryz.prog.info? 105 = some Tryz.t105 := by kernel_rfl
noncomputable def hCC : HF := retH (hCopyCheck Tryz.prog 82)
def hSha : HF := retH hSum
theorem okSum : HookOk Tryz.prog 28 hSha := ⟨enters_of (by kernel_rfl), fun args W e W' h => by obtain ⟨v, rfl, q⟩ := retH_some h; exact hSum_ext q,
  fun args W e W' h ρ args' w m hfr hH hA => by obtain ⟨v, rfl, q⟩ := retH_some h; exact hSum_sim (fun s w hs => sum_any s w hs) q hH hA⟩
theorem rsum_ba (s : ByteArray) (w : World) (hs : s.size ≤ 140737488351232) : Calls Tryz.prog 27 #[.string s] w fun e w' => e = .returned (.agg (bvs (sha s.data.toList)).toArray) ∧ Keeps noBlock w w' := by
  have := rsum_any s.data.toList w (by have := size_data s; omega)
  rw [show str s.data.toList = s from rfl] at this
  exact this
theorem okRSum : HookOk Tryz.prog 27 hSha := ⟨enters_of (by kernel_rfl), fun args W e W' h => by obtain ⟨v, rfl, q⟩ := retH_some h; exact hSum_ext q,
  fun args W e W' h ρ args' w m hfr hH hA => by obtain ⟨v, rfl, q⟩ := retH_some h; exact hSum_sim rsum_ba q hH hA⟩
theorem okCC : HookOk Tryz.prog 73 hCC := ⟨enters_of (by kernel_rfl), fun args W e W' h => by obtain ⟨v, rfl, q⟩ := retH_some h; exact hCopyCheck_ext q,
  fun args W e W' h ρ args' w m hfr hH hA => by obtain ⟨v, rfl, q⟩ := retH_some h; exact hCopyCheck_sim ccUsed ccFirst q hH hA⟩
theorem base0 : Base Tryz.prog (hooksOf [] []) := ⟨mixed, hooksOf_sim .nil .nil⟩
theorem hashT : HashT Tryz.prog 24 5 := ⟨Tryz.underlying24, by kernel_rfl, Tryz.underlying5, by kernel_rfl⟩
theorem hSha_eq {l : List UInt8} {W : XW} (h : l.length ≤ 140737488351232) : hSha [.string (str l)] W = some (.ret (.agg (bvs (sha l)).toArray), W) := by
  have e : hSum [.string (str l)] W = some (.agg (bvs (sha l)).toArray, W) := by
    show (bif Nat.ble (str l).size 140737488351232 then shaF (str l).data.toList (hashOut W) else none) = _
    rw [size_str, ble_t h, cond_true, shaF_eq]
    rfl
  unfold hSha retH
  rw [e]
end Go.Proofs.YthlkgmdkabelpaaGreat.X
namespace Go.Proofs.YthlkgmdkabelpaaGreat.X
open Go Go.RowKit
theorem cv_int_int {k' : IntKind} {a : Int} {W : XW} : convX Tryz.prog W 3 3 (some (.int k' a)) (some (.int .i64)) (some (.int .i64)) = some (.val (some (.int .i64 (IntKind.wrap .i64 a)))) := conv_int Tryz.underlying3 Tryz.underlying3
theorem cv_int_uint8 {k' : IntKind} {a : Int} {W : XW} : convX Tryz.prog W 3 5 (some (.int k' a)) (some (.int .i64)) (some (.int .u8)) = some (.val (some (.int .u8 (IntKind.wrap .u8 a)))) := conv_int Tryz.underlying3 Tryz.underlying5
theorem cv_uint8_int {k' : IntKind} {a : Int} {W : XW} : convX Tryz.prog W 5 3 (some (.int k' a)) (some (.int .u8)) (some (.int .i64)) = some (.val (some (.int .i64 (IntKind.wrap .i64 a)))) := conv_int Tryz.underlying5 Tryz.underlying3
theorem cv_uint8_uint8 {k' : IntKind} {a : Int} {W : XW} : convX Tryz.prog W 5 5 (some (.int k' a)) (some (.int .u8)) (some (.int .u8)) = some (.val (some (.int .u8 (IntKind.wrap .u8 a)))) := conv_int Tryz.underlying5 Tryz.underlying5
theorem cv_int_uint {k' : IntKind} {a : Int} {W : XW} : convX Tryz.prog W 3 123 (some (.int k' a)) (some (.int .i64)) (some (.int .u64)) = some (.val (some (.int .u64 (IntKind.wrap .u64 a)))) := conv_int Tryz.underlying3 Tryz.underlying123
theorem cv_uint_int {k' : IntKind} {a : Int} {W : XW} : convX Tryz.prog W 123 3 (some (.int k' a)) (some (.int .u64)) (some (.int .i64)) = some (.val (some (.int .i64 (IntKind.wrap .i64 a)))) := conv_int Tryz.underlying123 Tryz.underlying3
attribute [go_sem] ev.eq_3 ev.eq_4 evs.eq_1 evs.eq_2 oneC.eq_1 oneC.eq_2 loadX.eq_1 loadX.eq_2 inFr.eq_1 storeX.eq_1 evP.eq_1 evP.eq_2 aggO.eq_1 aggO.eq_2 val.eq_1 newV.eq_1 newS.eq_1 newAt.eq_1 bound.eq_1 bound.eq_2 srcX.eq_1 srcX.eq_2 srcX.eq_3 srcX.eq_4 lenX.eq_1 lenX.eq_2 lenX.eq_3 modO.eq_1 modO.eq_2 frCut.eq_1 rowIs.eq_1 rowIs.eq_2 okNeed.eq_1 app4.eq_1 app5.eq_1 app5.eq_2 app3.eq_1 app3.eq_2 app2.eq_1 app1.eq_1 app1.eq_2 appS.eq_1 appendX.eq_1 adv.eq_1 slS.eq_1 slL.eq_1 slZ.eq_1 slM.eq_1 slA.eq_1 sliceX.eq_1 sliceX.eq_3 sliceX.eq_4 sliceX.eq_5 sliceX.eq_7 mapGet.eq_1 mapGet.eq_2 byteIn.eq_1 byteIn.eq_2 bytesOf.eq_1 bytesOf.eq_2 lenMap.eq_1 lenMap.eq_2 lenB.eq_1 lenB.eq_2 lenB.eq_4 lenB.eq_5 lenB.eq_7 cpy3.eq_1 cpy2.eq_1 cpy2.eq_2 cpy1.eq_1 cpyB.eq_1 usd.eq_1 usd.eq_2 ust2.eq_1 ust2.eq_2 ust1.eq_1 ustB.eq_1 ustB.eq_2 notInt.eq_1 notInt.eq_3 undO.eq_1 undO.eq_2 valO.eq_1 valO.eq_2 valF.eq_1 valF.eq_2 builtinX.eq_1 builtinX.eq_2 builtinX.eq_3 builtinX.eq_4 builtinX.eq_5 builtinX.eq_6 builtinX.eq_7 builtinX.eq_8 builtinX.eq_9 boxX.eq_1 boxX.eq_2 allocX.eq_1 allocX.eq_2 bldX.eq_1 bldX.eq_2 bsl2.eq_1 bsl2.eq_2 bsl1.eq_1 bslX.eq_1 ldX.eq_1 ldX.eq_2 stX.eq_1 nilX.eq_1 nilX.eq_2 eqW.eq_1 eqW.eq_2 unX.eq_2 strO.eq_1 strO.eq_2 bytesO.eq_1 bytesO.eq_2 bytesStr.eq_1 convF.eq_1 convF.eq_2 convX.eq_1 convX.eq_2 s2aX.eq_1 ifaceX.eq_1 mkfX.eq_1 newM.eq_1 mkmX.eq_1 mkmX.eq_2 mks1.eq_1 mksX.eq_1 slcX.eq_1 slcX.eq_2 fadd.eq_1 fad1.eq_1 fad1.eq_2 fadZ.eq_1 fadY.eq_1 fadY.eq_2 fadX.eq_1 fadX.eq_2 fld1.eq_1 fld1.eq_2 fldX.eq_1 iad1.eq_1 iad1.eq_2 iadZ.eq_1 iadZ.eq_2 iadX.eq_1 iadX.eq_2 iadX.eq_3 iadX.eq_4 idx1.eq_1 idx1.eq_2 byteO.eq_1 byteO.eq_2 idxX.eq_1 idxX.eq_2 okV.eq_1 lku2.eq_1 lku2.eq_2 lku2.eq_3 lku1.eq_1 lkuX.eq_1 upd3.eq_1 upd3.eq_2 upd2.eq_1 upd2.eq_2 upd2.eq_3 upd1.eq_1 updX.eq_1 asr1.eq_1 asrX.eq_1 extX.eq_1 callV.eq_1 callV.eq_2 bltX.eq_1 bltX.eq_2 calX.eq_1 calX.eq_2 defV.eq_1 defX.eq_1 panX.eq_1 reserveX.eq_1 reserveX.eq_2 xop.eq_1 xop.eq_2 xop.eq_3 xop.eq_4 xop.eq_5 xop.eq_6 xop.eq_7 xop.eq_8 xop.eq_9 xop.eq_10 xop.eq_11 xop.eq_12 xop.eq_13 xop.eq_14 xop.eq_15 xop.eq_16 xop.eq_17 xop.eq_18 xop.eq_19 xop.eq_20 xop.eq_21 xop.eq_22 xop.eq_23 xop.eq_24 xop.eq_25 xop.eq_26 xop.eq_27 xop.eq_28 xop.eq_29 xop.eq_30 xop.eq_31 xop.eq_32 xop.eq_33 xop.eq_34 xop.eq_35 xop.eq_36 wantV.eq_1 wantV.eq_3 resV.eq_1 resV.eq_2 resX.eq_1 resX.eq_2 oneOr.eq_1 settleX.eq_1 settleX.eq_2 settleX.eq_3 onK.eq_1 onK.eq_2 callK.eq_1 callK.eq_2 dfK.eq_1 dfK.eq_2 opK.eq_1 opK.eq_2 opK.eq_3 opK.eq_4 opK.eq_5 opK.eq_6 opK.eq_7 opK.eq_8 wantK.eq_1 wantK.eq_2 wantK.eq_3 op1.eq_1 opsK.eq_1 opsK.eq_2 opsK.eq_3 opsX.eq_1 opsX.eq_2 trcK.eq_1 trcK.eq_2 trc1.eq_1 traceX.eq_1 traceX.eq_2 endOf.eq_1 endOf.eq_2 endOf.eq_3 endOf.eq_4 finO.eq_1 finO.eq_2 finK.eq_1 finK.eq_2 finK.eq_3 hookO.eq_1 hookO.eq_2 callX.eq_1 buildX.eq_1 buildX.eq_2 bldS.eq_1 bldS.eq_2 bldA.eq_1 bldA.eq_2 fillX.eq_1 fillX.eq_2 placesX.eq_1 placesX.eq_2 cut.eq_1 wr.eq_1 rep.eq_1 rep.eq_2 rowLen.eq_1 info3 Tryz.t3 sz3 agg3 zero3 Tryz.underlying3 info4 Tryz.t4 sz4 agg4 zero4 Tryz.underlying4 info5 Tryz.t5 sz5 agg5 zero5 Tryz.underlying5 info9 Tryz.t9 sz9 agg9 zero9 Tryz.underlying9 info92 Tryz.t92 sz92 agg92 zero92 Tryz.underlying92 info20 Tryz.t20 sz20 agg20 zero20 Tryz.underlying20 info22 Tryz.t22 sz22 agg22 zero22 Tryz.underlying22 info80 Tryz.t80 sz80 agg80 zero80 Tryz.underlying80 info35 Tryz.t35 sz35 agg35 zero35 Tryz.underlying35 info23 Tryz.t23 sz23 agg23 zero23 Tryz.underlying23 info24 Tryz.t24 sz24 agg24 zero24 Tryz.underlying24 info48 Tryz.t48 sz48 agg48 zero48 Tryz.underlying48 info65 Tryz.t65 sz65 agg65 zero65 Tryz.underlying65 info26 Tryz.t26 sz26 agg26 zero26 Tryz.underlying26 info63 Tryz.t63 sz63 agg63 zero63 Tryz.underlying63 info69 Tryz.t69 sz69 agg69 zero69 Tryz.underlying69 info28 Tryz.t28 sz28 agg28 zero28 Tryz.underlying28 info72 Tryz.t72 sz72 agg72 zero72 Tryz.underlying72 info67 Tryz.t67 sz67 agg67 zero67 Tryz.underlying67 info82 Tryz.t82 sz82 agg82 zero82 Tryz.underlying82 info79 Tryz.t79 sz79 agg79 zero79 Tryz.underlying79 info43 Tryz.t43 sz43 agg43 zero43 Tryz.underlying43 info113 Tryz.t113 sz113 agg113 zero113 Tryz.underlying113 info116 Tryz.t116 sz116 agg116 zero116 Tryz.underlying116 info168 Tryz.t168 sz168 agg168 zero168 Tryz.underlying168 info58 Tryz.t58 sz58 agg58 zero58 Tryz.underlying58 info60 Tryz.t60 sz60 agg60 zero60 Tryz.underlying60 info40 Tryz.t40 sz40 agg40 zero40 Tryz.underlying40 info38 Tryz.t38 sz38 agg38 zero38 Tryz.underlying38 info56 Tryz.t56 sz56 agg56 zero56 Tryz.underlying56 info37 Tryz.t37 sz37 agg37 zero37 Tryz.underlying37 info176 Tryz.t176 sz176 agg176 zero176 Tryz.underlying176 info180 Tryz.t180 sz180 agg180 zero180 Tryz.underlying180 info181 Tryz.t181 sz181 agg181 zero181 Tryz.underlying181 info182 Tryz.t182 sz182 agg182 zero182 Tryz.underlying182 info76 Tryz.t76 sz76 agg76 zero76 Tryz.underlying76 info178 Tryz.t178 sz178 agg178 zero178 Tryz.underlying178 info135 Tryz.t135 sz135 agg135 zero135 Tryz.underlying135 info84 Tryz.t84 sz84 agg84 zero84 Tryz.underlying84 info78 Tryz.t78 sz78 agg78 zero78 Tryz.underlying78 info109 Tryz.t109 sz109 agg109 zero109 Tryz.underlying109 info106 Tryz.t106 sz106 agg106 zero106 Tryz.underlying106 info165 Tryz.t165 sz165 agg165 zero165 Tryz.underlying165 info160 Tryz.t160 sz160 agg160 zero160 Tryz.underlying160 info159 Tryz.t159 sz159 agg159 zero159 Tryz.underlying159 info123 Tryz.t123 sz123 agg123 zero123 Tryz.underlying123 info54 Tryz.t54 sz54 agg54 zero54 Tryz.underlying54 info36 Tryz.t36 sz36 agg36 zero36 Tryz.underlying36 info103 Tryz.t103 sz103 agg103 zero103 Tryz.underlying103 info97 Tryz.t97 sz97 agg97 zero97 Tryz.underlying97 info139 Tryz.t139 sz139 agg139 zero139 Tryz.underlying139 info141 Tryz.t141 sz141 agg141 zero141 Tryz.underlying141 info185 Tryz.t185 sz185 agg185 zero185 Tryz.underlying185 info187 Tryz.t187 sz187 agg187 zero187 Tryz.underlying187 info88 Tryz.t88 sz88 agg88 zero88 Tryz.underlying88 info144 Tryz.t144 sz144 agg144 zero144 Tryz.underlying144 info183 Tryz.t183 sz183 agg183 zero183 Tryz.underlying183 info105 Tryz.t105 sz105 agg105 zero105 Tryz.underlying105 bin_add bin_sub bin_mul bin_lss bin_leq bin_gtr bin_geq bin_eql bin_neq bin_and bin_or bin_xor bin_rem bin_quo bin_shl bin_shr un_not un_neg un_xor bin_seq bin_sne cv_int_int cv_int_uint8 cv_uint8_int cv_uint8_uint8 cv_int_uint cv_uint_int flat_int flat_bool flat_str flat_nilI flat_nilF flat_nilS flat_nilP flat_nilM size_str goInt_nat isOpen_open notInt_slice notInt_string one_int one_bool one_str one_ptr one_slice one_map one_func one_nilF one_iface one_nilI one_fz one_fp List.size_toArray icast_add icast_mul icast_pow icast_tmod icast_tdiv icast_fdiv icast_toNat bits_u64 bits_i64 bits_u8 min_l wrap_i64 wrap_u64 wrap_u8 strBytes_str one_bvs length_bvs List.take_of_length_le List.toList_toArray List.drop_nil str_extract str_list take1 drop1 pickX.eq_1 Option.bind_some Bool.true_beq Bool.false_beq ble_t ble_f blt_t blt_f beq_t beqF dec_t dec_f ieq_t ieq_f ine_t ine_f List.take_length List.drop_zero ev_c0 ev_c1 ev_c2 ev_c3 ev_c4 ev_c5 ev_c6 ev_c7 ev_c8 ev_c9 ev_c10 ev_c11 ev_c12 ev_c13 ev_c14 ev_c15 ev_c16 ev_c20 ev_c26 ev_c30 ev_c31 ev_c32 ev_c33 ev_c48 ev_c63 ev_c64 ev_c65 ev_c97 ev_c126 ev_c127 ev_c128 ev_c129 ev_c250 ev_c255 ev_c256 ev_c300 ev_c500 ev_c1000 ev_c4000 ev_c65535 ev_cneg ev_cneg' ev_cbool ev_cstr ev_cnilI ev_cnilF ev_cnilP ev_cnilM ev_cnilS ev_cfn idx_str List.getElem_cons_zero List.getElem_cons_succ wantX frm_get oneOr_nil oneOr_two ev_tmp lk_hit lk_miss lk_nil putX_frm putX_none wd_get wd_put wd_push wd_next run1 hooksOf tab_hit tab_miss Nat.zero_add Nat.add_zero Bool.and_true Bool.true_and Bool.false_and Bool.and_false Bool.not_true Bool.not_false Bool.or_true Bool.true_or Bool.or_false Bool.false_or cond_true cond_false Value.cells List.getElem?_cons_zero List.getElem?_cons_succ List.getElem?_toArray List.length_cons List.length_nil List.all_cons List.all_nil List.drop_succ_cons List.take_succ_cons List.take_zero List.cons_append List.nil_append List.append_nil Nat.zero_mod Nat.sub_self
end Go.Proofs.YthlkgmdkabelpaaGreat.X
namespace Go.Proofs.YthlkgmdkabelpaaGreat.X
open Go Go.RowKit
abbrev ObL := List (HB × List UInt8)
def shaB (l : List UInt8) : HB := ⟨sha l, sha_length l⟩
def encS (t : List UInt8) : Value := .string (str t)
theorem bare_encS (t : List UInt8) : Bare (encS t) := bare_flat 8 rfl
theorem str_inj {a b : List UInt8} (h : str a = str b) : a = b := by
  have := congrArg (fun q : ByteArray => q.data.toList) h
  exact this
theorem encS_inj {a b : List UInt8} (h : encS a = encS b) : a = b := by
  unfold encS at h
  injection h with h
  exact str_inj h
theorem bv_inj {a b : UInt8} (h : bv a = bv b) : a = b := by
  unfold bv at h
  injection h with _ h
  exact UInt8.toNat_inj.1 (by omega)
theorem bvs_inj {a b : List UInt8} (h : bvs a = bvs b) : a = b := (List.map_inj_right (fun x y e => bv_inj e)).1 h
theorem hbV_inj {a b : HB} (h : hbV a = hbV b) : a = b := by
  unfold hbV at h
  injection h with h
  have := congrArg Array.toList h
  exact Subtype.ext (bvs_inj (by simpa using this))
theorem entF_inj : ∀ {l m : ObL} {i j : Nat}, entF encS l i = entF encS m j → l = m
  | [], [], _, _, _ => rfl
  | [], _ :: _, _, _, h => by simp [entF] at h
  | _ :: _, [], _, _, h => by simp [entF] at h
  | (a, x) :: l, (b, y) :: m, i, j, h => by
    unfold entF at h
    injection h with h1 h2
    injection h1 with h3 h4 _
    have e1 : a = b := hbV_inj h3
    have e2 : x = y := encS_inj h4
    rw [e1, e2, entF_inj h2]
def stM : ObL → Nat → Value
  | [], _ => .map none
  | _ :: _, b => .map (some b)
def stMain (es : ObL) (b : Nat) : XObj := .cells [stM es b] 65 (0, 0)
def stSat : ObL → Option XObj
  | [] => none
  | x :: l => some (.map (entL encS (x :: l)) (x :: l).length)
def stHnd : XObj → Option Nat
  | .cells [.map (some b)] _ _ => some b
  | _ => none
noncomputable def stE : PairE Tryz.prog ObL where
  main es _ b := stMain es b
  sat := stSat
  hnd := stHnd
  hnd_eq es w b := by cases es <;> rfl
  inj a a' w b h hs := by
    cases a <;> cases a' <;> first | rfl | (cases hs; done) | skip
    rename_i x l y m
    injection hs with hs
    injection hs with hs _
    exact entF_inj hs
  free a w b b' h := by
    cases a
    · rfl
    · cases h
  ren a w w' b b' θ h1 h2 := by
    cases a with
    | nil => exact to_tvs (tvs_cons (tv_flat 1 rfl) tvs_nil)
    | cons x l => exact to_tvs (tvs_cons (tv_map (h2 (fun e => by cases e))) tvs_nil)
  bare a o h := by
    cases a with
    | nil => cases h
    | cons x l => cases h; exact bareO_map bare_encS _ _
def obC (x : HB × List UInt8) : List Value := bvs x.1.1 ++ [encS x.2]
def rowOb (l : ObL) : List Value := l.flatMap obC
theorem obC_len (x : HB × List UInt8) : (obC x).length = 33 := by
  unfold obC
  rw [List.length_append, length_bvs, x.1.2]
  rfl
theorem bares_obC (x : HB × List UInt8) : Bares (obC x) := bares_append (bares_bvs _) (bares_cons (bare_encS _) bares_nil)
theorem bares_rowOb (l : ObL) : Bares (rowOb l) := bares_flatMap bares_obC l
theorem rowOb_inj : ∀ {l m : ObL}, rowOb l = rowOb m → l = m
  | [], [], _ => rfl
  | [], y :: m, h => by
    have := congrArg List.length h
    unfold rowOb at this
    rw [List.flatMap_cons, List.length_append, obC_len, List.flatMap_nil, List.length_nil] at this
    omega
  | x :: l, [], h => by
    have := congrArg List.length h
    unfold rowOb at this
    rw [List.flatMap_cons, List.length_append, obC_len, List.flatMap_nil, List.length_nil] at this
    omega
  | (a, x) :: l, (b, y) :: m, h => by
    unfold rowOb at h
    rw [List.flatMap_cons, List.flatMap_cons] at h
    obtain ⟨h1, h2⟩ := List.append_inj h (by rw [obC_len, obC_len])
    unfold obC at h1
    obtain ⟨h3, h4⟩ := List.append_inj h1 (by rw [length_bvs, length_bvs, a.2, b.2])
    injection h4 with h4 _
    have e1 : a = b := Subtype.ext (bvs_inj h3)
    have e2 : x = y := encS_inj h4
    rw [e1, e2, rowOb_inj (l := l) (m := m) h2]
def rfMain (es : ObL) (b : Nat) : XObj := .cells [gsv b es.length] 69 (0, 0)
def rfHnd : XObj → Option Nat
  | .cells [.slice (some ⟨b, _, _⟩) _ _] _ _ => some b
  | _ => none
noncomputable def rfE : PairE Tryz.prog ObL where
  main es _ b := rfMain es b
  sat es := growO 72 (rowOb es) es.length
  hnd := rfHnd
  hnd_eq es w b := by cases es <;> rfl
  inj a a' w b h hs := by
    cases a <;> cases a' <;> first | rfl | (cases hs; done) | skip
    rename_i x l y m
    injection hs with hs
    injection hs with hs _ _
    exact rowOb_inj hs
  free a w b b' h := by
    cases a
    · rfl
    · cases h
  ren a w w' b b' θ h1 h2 := by
    cases a with
    | nil => exact to_tvs (tvs_cons (tv_flat 1 rfl) tvs_nil)
    | cons x l => exact to_tvs (tvs_cons (tv_slice (h2 (fun e => by cases e))) tvs_nil)
  bare a o h := by
    cases a with
    | nil => cases h
    | cons x l => cases h; exact bareO_bares (bares_rowOb _)
def putS (es : ObL) (o : List UInt8) : ObL := if (getB (shaB o) es).isSome then es else es ++ [(shaB o, o)]
def stMd : ObL → Md
  | [] => .mv
  | _ :: _ => .pl
open Classical in
noncomputable def pPut : PP ObL := fun xs es => if h : ∃ o : List UInt8, xs = [.string (str o)] ∧ o.length ≤ 140737488351232 then some (hbV (shaB (Classical.choose h)), putS es (Classical.choose h), stMd es) else none
theorem pPut_eq {es : ObL} {o : List UInt8} (h : o.length ≤ 140737488351232) : pPut [.string (str o)] es = some (hbV (shaB o), putS es o, stMd es) := by
  have hx : ∃ q : List UInt8, [Value.string (str o)] = [.string (str q)] ∧ q.length ≤ 140737488351232 := ⟨o, rfl, h⟩
  have e : pPut [.string (str o)] es = some (hbV (shaB (Classical.choose hx)), putS es (Classical.choose hx), stMd es) := dif_pos hx
  have hq : o = Classical.choose hx := by
    have := (Classical.choose_spec hx).1
    injection this with this _
    exact encS_inj this
  rw [e, ← hq]
theorem pPut_inv {xs : List Value} {es es' : ObL} {v : Value} {md : Md} (h : pPut xs es = some (v, es', md)) : ∃ o : List UInt8, xs = [.string (str o)] ∧ o.length ≤ 140737488351232 ∧ v = hbV (shaB o) ∧ es' = putS es o ∧ md = stMd es := by
  unfold pPut at h
  split at h
  · rename_i hx
    obtain ⟨h1, h2⟩ := Classical.choose_spec hx
    cases h
    exact ⟨_, h1, h2, rfl, rfl, rfl⟩
  · cases h
open Classical in
noncomputable def pGet : PP ObL := fun xs es => if h : ∃ k : HB, xs = [hbV k] then some (.tuple #[((getB (Classical.choose h) es).map encS).getD (.string (str [])), .bool (getB (Classical.choose h) es).isSome], es, .rd) else none
theorem pGet_eq {es : ObL} {k : HB} : pGet [hbV k] es = some (.tuple #[((getB k es).map encS).getD (.string (str [])), .bool (getB k es).isSome], es, .rd) := by
  have hx : ∃ q : HB, [hbV k] = [hbV q] := ⟨k, rfl⟩
  have e : pGet [hbV k] es = some (.tuple #[((getB (Classical.choose hx) es).map encS).getD (.string (str [])), .bool (getB (Classical.choose hx) es).isSome], es, .rd) := dif_pos hx
  have hq : k = Classical.choose hx := by
    have := Classical.choose_spec hx
    injection this with this _
    exact hbV_inj this
  rw [e, ← hq]
theorem pGet_inv {xs : List Value} {es es' : ObL} {v : Value} {md : Md} (h : pGet xs es = some (v, es', md)) : ∃ k : HB, xs = [hbV k] ∧ v = .tuple #[((getB k es).map encS).getD (.string (str [])), .bool (getB k es).isSome] ∧ es' = es ∧ md = .rd := by
  unfold pGet at h
  split at h
  · rename_i hx
    have h1 := Classical.choose_spec hx
    cases h
    exact ⟨_, h1, rfl, rfl, rfl⟩
  · cases h
theorem bare_got {es : ObL} {k : HB} : Bare (.tuple #[((getB k es).map encS).getD (.string (str [])), .bool (getB k es).isSome]) :=
  bare_tuple (cs := [_, _]) (bares_cons (by cases getB k es <;> exact bare_encS _) (bares_cons (bare_flat 1 rfl) bares_nil))
end Go.Proofs.YthlkgmdkabelpaaGreat.X
namespace Go.Proofs.YthlkgmdkabelpaaGreat.X
open Go Go.RowKit
theorem allLk_cons {α : Type} {b t : Nat} {v : Option α} {F F' : List (Nat × Option α)} (h : t < b) (hl : lk F t = v) (hs : AllLk b F F') : AllLk b F ((t, v) :: F') := by
  cases v with
  | none => exact hs
  | some v => exact ⟨⟨h, hl⟩, hs⟩
theorem bin_pnil {P : Program} {t e : TypeId} {x y : Operand} {b o : Nat} (hu : P.underlying t = some (.pointer e)) : binX P .eql t x y (some (.pointer (some ⟨b, o, none⟩))) (some (.pointer none)) = some (.val (some (.bool false))) := by
  show eqW .eql (eqX P t (.pointer (some ⟨b, o, none⟩)) (.pointer none)) = _
  unfold eqX
  rw [hu]
  rfl
theorem bin_msome {P : Program} {t k e : TypeId} {x y : Operand} {b : Nat} (hu : P.underlying t = some (.map k e)) : binX P .eql t x y (some (.map (some b))) (some (.map none)) = some (.val (some (.bool false))) := by
  show eqW .eql (eqX P t (.map (some b)) (.map none)) = _
  unfold eqX
  rw [hu]
  rfl
theorem bin_mnil {n : Nat} : binX Tryz.prog .eql 63 (.tmp n) (.const (.map none)) (some (.map none)) (some (.map none)) = some (.val (some (.bool true))) := by kernel_rfl
theorem stMain_ne {l : ObL} (h : l ≠ []) {b : Nat} : stMain l b = .cells [.map (some b)] 65 (0, 0) := by
  cases l with
  | nil => exact absurd rfl h
  | cons x l => rfl
theorem stSat_ne {l : ObL} (h : l ≠ []) : stSat l = some (.map (entL encS l) l.length) := by
  cases l with
  | nil => exact absurd rfl h
  | cons x l => rfl
theorem findB_none {k : HB} {l : ObL} (h : getB k l = none) : findB k l 0 = none := by
  have := findB_get k l 0
  rw [h] at this
  cases e : findB k l 0 with
  | none => rfl
  | some x => rw [e] at this; cases this
theorem findB_some {k : HB} {l : ObL} {t : List UInt8} (h : getB k l = some t) : ∃ i, findB k l 0 = some (i, t) := by
  have := findB_get k l 0
  rw [h] at this
  cases e : findB k l 0 with
  | none => rw [e] at this; cases this
  | some x => rw [e] at this; obtain ⟨i, u⟩ := x; cases this; exact ⟨i, rfl⟩
theorem putS_new {es : ObL} {o : List UInt8} (h : getB (shaB o) es = none) : putS es o = es ++ [(shaB o, o)] := by unfold putS; rw [h]; rfl
theorem putS_old {es : ObL} {o t : List UInt8} (h : getB (shaB o) es = some t) : putS es o = es := by unfold putS; rw [h]; rfl
theorem snoc_ne {α : Type} {l : List α} {x : α} : l ++ [x] ≠ [] := by simp
theorem map_snoc (es : ObL) (k : HB) (o : List UInt8) {n : Nat} (h : n = es.length) : some (XObj.map (entL encS es ++ [⟨hbV k, .string (str o), n⟩]) (n + 1)) = some (XObj.map (entL encS (es ++ [(k, o)])) (es ++ [(k, o)]).length) := by
  subst h
  have := entF_snoc (enc := encS) k o es 0
  rw [Nat.zero_add] at this
  unfold entL
  rw [← this, List.length_append]
  rfl
theorem xwp_drawn_last {P : Program} {H : Hooks} {N k : Nat} {s : XS} {Q : XQ} (hB : Base P H) {id : Nat} {ops : Array Oper} {d : Code} (S : XS) (h : ∃ rs s', traceX P (xrun P H 1) N none ops ops.toList s = some (rs, s') ∧ okD P ops s.ds.length rs = true ∧ ChLe P k s' S) (q : XWp P N k d S Q) :
    XWp P N k (.region id ops true) s (thenQ P N k d Q) := by
  obtain ⟨rs, s', h1, h2, h3⟩ := h
  exact xwp_drawn hB h1 h2 (show XWp P N k d s' Q from xwp_le h3 q)
def T2 : List (FuncId × HF) := [(28, hSha)]
theorem base2 : Base Tryz.prog (hooksOf T2 []) := ⟨mixed, hooksOf_sim (.cons _ _ _ okSum .nil) .nil⟩
theorem putLocal (es : ObL) (o : List UInt8) (ho : o.length ≤ 140737488351232) : Local Tryz.prog 10 [.pointer (some ⟨0, 0, none⟩), .string (str o)] (lw stE es) fun e W' => e = .ret (hbV (shaB o)) ∧ EndP stE es (putS es o) W' (stMd es) := by
  have hln : (bvs (sha o)).length = 32 := by rw [length_bvs, sha_length]
  have hkv : Value.agg (bvs (sha o)).toArray = hbV (shaB o) := rfl
  have hsl : (sha o).length = 32 := sha_length o
  cases es with
  | nil =>
    show Local _ _ _ (wd [(0, some (.cells [.map none] 65 (0, 0)))] 1 [] 0) _
    refine lit_local base2 Tryz.func10 rfl (Nat.le_of_ble_eq_true rfl) ?_
    simp only [frOfL.eq_1, frOfL.eq_2, wd_next, Tryz.ntmps10, Nat.reduceAdd]
    refine xwp_seq (xwp_region (e := ?e1) (s' := ?s1) base2 ?h1 ?q1)
    case h1 =>
      simp (disch := first | decide | omega | (simp only [List.length_cons, List.length_nil, List.length_append, length_bvs, List.length_take, List.length_drop]; omega)) only [go_sem, Nat.reduceAdd, Nat.reduceMul, Nat.reduceSub]
      all_goals with_reducible rfl
    case q1 =>
    refine xwp_seq (xwp_region (e := ?e2) (s' := ?s2) base2 ?h2 ?q2)
    case h2 =>
      simp (disch := first | decide | omega | (simp only [List.length_cons, List.length_nil, List.length_append, length_bvs, List.length_take, List.length_drop]; omega)) only [T2, hSha_eq ho, List.drop_eq_nil_of_le, List.all_append, go_sem, Nat.reduceAdd, Nat.reduceMul, Nat.reduceSub]
      all_goals with_reducible rfl
    case q2 =>
    refine xwp_seq ?_
    refine xwp_seq (xwp_region (e := ?e3) (s' := ?s3) base2 ?h3 ?q3)
    case h3 =>
      simp (disch := first | decide | omega | (simp only [List.length_cons, List.length_nil, List.length_append, length_bvs, List.length_take, List.length_drop]; omega)) only [bin_pnil Tryz.underlying26, go_sem, Nat.reduceAdd, Nat.reduceMul, Nat.reduceSub]
      all_goals with_reducible rfl
    case q3 =>
    refine xwp_cf ?h4 ?q4
    case h4 =>
      simp (disch := first | decide | omega | (simp only [List.length_cons, List.length_nil, List.length_append, length_bvs, List.length_take, List.length_drop]; omega)) only [go_sem, Nat.reduceAdd, Nat.reduceMul, Nat.reduceSub]
      all_goals with_reducible rfl
    case q4 =>
    refine xwp_skip ?_
    refine xwp_seq ?_
    refine xwp_seq (xwp_region (e := ?e5) (s' := ?s5) base2 ?h5 ?q5)
    case h5 =>
      simp (disch := first | decide | omega | (simp only [List.length_cons, List.length_nil, List.length_append, length_bvs, List.length_take, List.length_drop]; omega)) only [bin_mnil, go_sem, Nat.reduceAdd, Nat.reduceMul, Nat.reduceSub]
      all_goals with_reducible rfl
    case q5 =>
    refine xwp_ct ?h6 ?q6
    case h6 =>
      simp (disch := first | decide | omega | (simp only [List.length_cons, List.length_nil, List.length_append, length_bvs, List.length_take, List.length_drop]; omega)) only [go_sem, Nat.reduceAdd, Nat.reduceMul, Nat.reduceSub]
      all_goals with_reducible rfl
    case q6 =>
    refine xwp_region (e := ?e7) (s' := ?s7) base2 ?h7 ?q7
    case h7 =>
      simp (disch := first | decide | omega | (simp only [List.length_cons, List.length_nil, List.length_append, length_bvs, List.length_take, List.length_drop]; omega)) only [go_sem, Nat.reduceAdd, Nat.reduceMul, Nat.reduceSub]
      all_goals with_reducible rfl
    case q7 =>
    show XWp _ _ _ _ _ _
    refine xwp_le (s' := ⟨frm [(0, some (.pointer (some ⟨0, 0, none⟩))), (1, some (.string (str o))), (4, some (.pointer (some ⟨1, 0, none⟩))), (5, some (.pointer (some ⟨2, 0, none⟩)))], wd [(0, some (.cells [.map (some 3)] 65 (0, 0))), (1, some (.cells (bvs (List.replicate 32 0)) 24 (0, 0))), (2, some (.cells (bvs (sha o)) 24 (0, 0))), (3, some (.map (entL encS []) 0))] 4 [] 0, []⟩) (chle_lit (by simp (disch := decide) [AllLk, lk_hit, lk_miss, lk_nil]) (allLk_cons (by decide) rfl (allLk_cons (by decide) rfl (allLk_cons (by decide) rfl (allLk_cons (by decide) rfl trivial)))) (by decide)) ?_
    refine xwp_seq ?_
    refine xwp_drawn_to base2 ⟨frm [(0, some (.pointer (some ⟨0, 0, none⟩))), (1, some (.string (str o))), (4, some (.pointer (some ⟨1, 0, none⟩))), (5, some (.pointer (some ⟨2, 0, none⟩))), (7, some (.bool false))], wd [(0, some (.cells [.map (some 3)] 65 (0, 0))), (1, some (.cells (bvs (List.replicate 32 0)) 24 (0, 0))), (2, some (.cells (bvs (sha o)) 24 (0, 0))), (3, some (.map (entL encS []) 0))] 4 [] 0, []⟩ ?hd10 ?qd10
    case hd10 =>
      refine ⟨?rs10, ?sx10, ?hx10, ?kx10, ?lx10⟩
      case hx10 =>
        simp (disch := first | decide | omega | (simp only [List.length_cons, List.length_nil, List.length_append, length_bvs, List.length_take, List.length_drop]; omega)) only [traceX.eq_1, traceX.eq_2, trc1.eq_1, trcK.eq_1, trcK.eq_2, traceD_nil, traceD_t, traceD_f, holeK.eq_1, holeK.eq_2, hln, hkv, keyOk_hb hashT, findX_hb hashT, show findB (shaB o) ([] : ObL) 0 = none from rfl, Option.map_none, Option.map_some, go_sem, Nat.reduceAdd, Nat.reduceMul, Nat.reduceSub]
        all_goals with_reducible rfl
      case kx10 => kernel_rfl
      case lx10 => exact chle_lit (by simp (disch := decide) [AllLk, lk_hit, lk_miss, lk_nil]) (by simp (disch := decide) [AllLk, lk_hit, lk_miss, lk_nil]) (by decide)
    case qd10 =>
    refine xwp_seq (xwp_region (e := ?e8) (s' := ?s8) base2 ?h8 ?q8)
    case h8 =>
      simp (disch := first | decide | omega | (simp only [List.length_cons, List.length_nil, List.length_append, length_bvs, List.length_take, List.length_drop]; omega)) only [go_sem, Nat.reduceAdd, Nat.reduceMul, Nat.reduceSub]
      all_goals with_reducible rfl
    case q8 =>
    refine xwp_ct ?h9 ?q9
    case h9 =>
      simp (disch := first | decide | omega | (simp only [List.length_cons, List.length_nil, List.length_append, length_bvs, List.length_take, List.length_drop]; omega)) only [go_sem, Nat.reduceAdd, Nat.reduceMul, Nat.reduceSub]
      all_goals with_reducible rfl
    case q9 =>
    refine xwp_drawn_last base2 ⟨frm [(0, some (.pointer (some ⟨0, 0, none⟩))), (1, some (.string (str o))), (4, some (.pointer (some ⟨1, 0, none⟩))), (5, some (.pointer (some ⟨2, 0, none⟩)))], wd [(0, some (.cells [.map (some 3)] 65 (0, 0))), (1, some (.cells (bvs (List.replicate 32 0)) 24 (0, 0))), (2, some (.cells (bvs (sha o)) 24 (0, 0))), (3, some (.map (entL encS ([] ++ [(shaB o, o)])) ([] ++ [(shaB o, o)]).length))] 4 [] 0, []⟩ ?he10 ?qe10
    case he10 =>
      refine ⟨?rt10, ?sy10, ?hy10, ?ky10, ?ly10⟩
      case hy10 =>
        simp (disch := first | decide | omega | (simp only [List.length_cons, List.length_nil, List.length_append, length_bvs, List.length_take, List.length_drop]; omega)) only [traceX.eq_1, traceX.eq_2, trc1.eq_1, trcK.eq_1, trcK.eq_2, traceD_nil, traceD_t, traceD_f, holeK.eq_1, holeK.eq_2, hln, hkv, keyOk_hb hashT, findX_hb hashT, show findB (shaB o) ([] : ObL) 0 = none from rfl, Option.map_none, Option.map_some, go_sem, Nat.reduceAdd, Nat.reduceMul, Nat.reduceSub]
        all_goals with_reducible rfl
      case ky10 => kernel_rfl
      case ly10 => exact chle_lit (by simp (disch := decide) [AllLk, lk_hit, lk_miss, lk_nil]) (allLk_cons (by decide) rfl (allLk_cons (by decide) rfl (allLk_cons (by decide) rfl (allLk_cons (by decide) (by rw [lk_hit]; exact map_snoc _ _ _ rfl) trivial)))) (by decide)
    case qe10 =>
    refine xwp_seq (xwp_region (e := ?e10) (s' := ?s10) base2 ?h10 ?q10)
    case h10 =>
      simp (disch := first | decide | omega | (simp only [List.length_cons, List.length_nil, List.length_append, length_bvs, List.length_take, List.length_drop]; omega)) only [hln, List.drop_eq_nil_of_le, List.all_append, go_sem, Nat.reduceAdd, Nat.reduceMul, Nat.reduceSub]
      all_goals with_reducible rfl
    case q10 =>
    refine xwp_ret ?_
    refine ⟨_, ?e11, ?W11, rfl, ?h11, ?q11⟩
    case h11 =>
      simp (disch := first | decide | omega | (simp only [List.length_cons, List.length_nil, List.length_append, length_bvs, List.length_take, List.length_drop]; omega)) only [Tryz.results10, hln, List.drop_eq_nil_of_le, go_sem, Nat.reduceAdd, Nat.reduceMul, Nat.reduceSub]
      all_goals with_reducible rfl
    case q11 =>
    refine ⟨rfl, 3, by rw [lw_next]; decide, ?_, _, rfl, ?_⟩
    · show XW.get _ _ = some (.cells [.map (some 3)] 65 (0, 0))
      simp (disch := first | decide | omega | (simp only [List.length_cons, List.length_nil, List.length_append, length_bvs, List.length_take, List.length_drop]; omega)) only [go_sem, Nat.reduceAdd, Nat.reduceMul, Nat.reduceSub]
    · show XW.get _ _ = some (.map (entL encS ([] ++ [(shaB o, o)])) ([] ++ [(shaB o, o)]).length)
      rw [wd_get (by decide) (by decide)]
      simp (disch := first | decide | omega) only [lk_hit, lk_miss]
      rfl
  | cons x l =>
    obtain ⟨es, hes⟩ : ∃ es, es = x :: l := ⟨_, rfl⟩
    show Local _ _ _ (wd [(0, some (.cells [.map (some 1)] 65 (0, 0))), (1, some (.map (entL encS (x :: l)) (x :: l).length))] 2 [] 0) fun e W' => e = .ret (hbV (shaB o)) ∧ (W'.get 0 = some (stMain (putS (x :: l) o) 1) ∧ ∀ o2, stSat (putS (x :: l) o) = some o2 → stSat (x :: l) ≠ none ∧ W'.get 1 = some o2)
    rw [← hes]
    have hne : es ≠ [] := by rw [hes]; simp
    have hsat : stSat es ≠ none := by rw [stSat_ne hne]; simp
    clear hes
    refine lit_local base2 Tryz.func10 rfl (Nat.le_of_ble_eq_true rfl) ?_
    simp only [frOfL.eq_1, frOfL.eq_2, wd_next, Tryz.ntmps10, Nat.reduceAdd]
    refine xwp_seq (xwp_region (e := ?e12) (s' := ?s12) base2 ?h12 ?q12)
    case h12 =>
      simp (disch := first | decide | omega | (simp only [List.length_cons, List.length_nil, List.length_append, length_bvs, List.length_take, List.length_drop]; omega)) only [go_sem, Nat.reduceAdd, Nat.reduceMul, Nat.reduceSub]
      all_goals with_reducible rfl
    case q12 =>
    refine xwp_seq (xwp_region (e := ?e13) (s' := ?s13) base2 ?h13 ?q13)
    case h13 =>
      simp (disch := first | decide | omega | (simp only [List.length_cons, List.length_nil, List.length_append, length_bvs, List.length_take, List.length_drop]; omega)) only [T2, hSha_eq ho, List.drop_eq_nil_of_le, List.all_append, go_sem, Nat.reduceAdd, Nat.reduceMul, Nat.reduceSub]
      all_goals with_reducible rfl
    case q13 =>
    refine xwp_seq ?_
    refine xwp_seq (xwp_region (e := ?e14) (s' := ?s14) base2 ?h14 ?q14)
    case h14 =>
      simp (disch := first | decide | omega | (simp only [List.length_cons, List.length_nil, List.length_append, length_bvs, List.length_take, List.length_drop]; omega)) only [bin_pnil Tryz.underlying26, go_sem, Nat.reduceAdd, Nat.reduceMul, Nat.reduceSub]
      all_goals with_reducible rfl
    case q14 =>
    refine xwp_cf ?h15 ?q15
    case h15 =>
      simp (disch := first | decide | omega | (simp only [List.length_cons, List.length_nil, List.length_append, length_bvs, List.length_take, List.length_drop]; omega)) only [go_sem, Nat.reduceAdd, Nat.reduceMul, Nat.reduceSub]
      all_goals with_reducible rfl
    case q15 =>
    refine xwp_skip ?_
    refine xwp_seq ?_
    refine xwp_seq (xwp_region (e := ?e16) (s' := ?s16) base2 ?h16 ?q16)
    case h16 =>
      simp (disch := first | decide | omega | (simp only [List.length_cons, List.length_nil, List.length_append, length_bvs, List.length_take, List.length_drop]; omega)) only [bin_msome Tryz.underlying63, go_sem, Nat.reduceAdd, Nat.reduceMul, Nat.reduceSub]
      all_goals with_reducible rfl
    case q16 =>
    refine xwp_cf ?h17 ?q17
    case h17 =>
      simp (disch := first | decide | omega | (simp only [List.length_cons, List.length_nil, List.length_append, length_bvs, List.length_take, List.length_drop]; omega)) only [go_sem, Nat.reduceAdd, Nat.reduceMul, Nat.reduceSub]
      all_goals with_reducible rfl
    case q17 =>
    refine xwp_skip ?_
    show XWp _ _ _ _ _ _
    refine xwp_le (s' := ⟨frm [(0, some (.pointer (some ⟨0, 0, none⟩))), (1, some (.string (str o))), (4, some (.pointer (some ⟨2, 0, none⟩))), (5, some (.pointer (some ⟨3, 0, none⟩)))], wd [(0, some (.cells [.map (some 1)] 65 (0, 0))), (1, some (.map (entL encS es) es.length)), (2, some (.cells (bvs (List.replicate 32 0)) 24 (0, 0))), (3, some (.cells (bvs (sha o)) 24 (0, 0)))] 4 [] 0, []⟩) (chle_lit (by simp (disch := decide) [AllLk, lk_hit, lk_miss, lk_nil]) (allLk_cons (by decide) rfl (allLk_cons (by decide) rfl (allLk_cons (by decide) rfl (allLk_cons (by decide) rfl trivial)))) (by decide)) ?_
    rcases hg : getB (shaB o) es with _ | t
    · have hf := findB_none hg
      refine xwp_seq ?_
      refine xwp_drawn_to base2 ⟨frm [(0, some (.pointer (some ⟨0, 0, none⟩))), (1, some (.string (str o))), (4, some (.pointer (some ⟨2, 0, none⟩))), (5, some (.pointer (some ⟨3, 0, none⟩))), (7, some (.bool false))], wd [(0, some (.cells [.map (some 1)] 65 (0, 0))), (1, some (.map (entL encS es) es.length)), (2, some (.cells (bvs (List.replicate 32 0)) 24 (0, 0))), (3, some (.cells (bvs (sha o)) 24 (0, 0)))] 4 [] 0, []⟩ ?hd20 ?qd20
      case hd20 =>
        refine ⟨?rs20, ?sx20, ?hx20, ?kx20, ?lx20⟩
        case hx20 =>
          simp (disch := first | decide | omega | (simp only [List.length_cons, List.length_nil, List.length_append, length_bvs, List.length_take, List.length_drop]; omega)) only [traceX.eq_1, traceX.eq_2, trc1.eq_1, trcK.eq_1, trcK.eq_2, traceD_nil, traceD_t, traceD_f, holeK.eq_1, holeK.eq_2, hln, hkv, keyOk_hb hashT, findX_hb hashT, hf, Option.map_none, Option.map_some, go_sem, Nat.reduceAdd, Nat.reduceMul, Nat.reduceSub]
          all_goals with_reducible rfl
        case kx20 => kernel_rfl
        case lx20 => exact chle_lit (by simp (disch := decide) [AllLk, lk_hit, lk_miss, lk_nil]) (by simp (disch := decide) [AllLk, lk_hit, lk_miss, lk_nil]) (by decide)
      case qd20 =>
      refine xwp_seq (xwp_region (e := ?e18) (s' := ?s18) base2 ?h18 ?q18)
      case h18 =>
        simp (disch := first | decide | omega | (simp only [List.length_cons, List.length_nil, List.length_append, length_bvs, List.length_take, List.length_drop]; omega)) only [go_sem, Nat.reduceAdd, Nat.reduceMul, Nat.reduceSub]
        all_goals with_reducible rfl
      case q18 =>
      refine xwp_ct ?h19 ?q19
      case h19 =>
        simp (disch := first | decide | omega | (simp only [List.length_cons, List.length_nil, List.length_append, length_bvs, List.length_take, List.length_drop]; omega)) only [go_sem, Nat.reduceAdd, Nat.reduceMul, Nat.reduceSub]
        all_goals with_reducible rfl
      case q19 =>
      refine xwp_drawn_last base2 ⟨frm [(0, some (.pointer (some ⟨0, 0, none⟩))), (1, some (.string (str o))), (4, some (.pointer (some ⟨2, 0, none⟩))), (5, some (.pointer (some ⟨3, 0, none⟩)))], wd [(0, some (.cells [.map (some 1)] 65 (0, 0))), (1, some (.map (entL encS (es ++ [(shaB o, o)])) (es ++ [(shaB o, o)]).length)), (2, some (.cells (bvs (List.replicate 32 0)) 24 (0, 0))), (3, some (.cells (bvs (sha o)) 24 (0, 0)))] 4 [] 0, []⟩ ?he20 ?qe20
      case he20 =>
        refine ⟨?rt20, ?sy20, ?hy20, ?ky20, ?ly20⟩
        case hy20 =>
          simp (disch := first | decide | omega | (simp only [List.length_cons, List.length_nil, List.length_append, length_bvs, List.length_take, List.length_drop]; omega)) only [traceX.eq_1, traceX.eq_2, trc1.eq_1, trcK.eq_1, trcK.eq_2, traceD_nil, traceD_t, traceD_f, holeK.eq_1, holeK.eq_2, hln, hkv, keyOk_hb hashT, findX_hb hashT, hf, Option.map_none, Option.map_some, go_sem, Nat.reduceAdd, Nat.reduceMul, Nat.reduceSub]
          all_goals with_reducible rfl
        case ky20 => kernel_rfl
        case ly20 => exact chle_lit (by simp (disch := decide) [AllLk, lk_hit, lk_miss, lk_nil]) (allLk_cons (by decide) rfl (allLk_cons (by decide) (by rw [lk_hit]; exact map_snoc _ _ _ rfl) (allLk_cons (by decide) rfl (allLk_cons (by decide) rfl trivial)))) (by decide)
      case qe20 =>
      refine xwp_seq (xwp_region (e := ?e20) (s' := ?s20) base2 ?h20 ?q20)
      case h20 =>
        simp (disch := first | decide | omega | (simp only [List.length_cons, List.length_nil, List.length_append, length_bvs, List.length_take, List.length_drop]; omega)) only [hln, List.drop_eq_nil_of_le, List.all_append, go_sem, Nat.reduceAdd, Nat.reduceMul, Nat.reduceSub]
        all_goals with_reducible rfl
      case q20 =>
      refine xwp_ret ?_
      refine ⟨_, ?e21, ?W21, rfl, ?h21, ?q21⟩
      case h21 =>
        simp (disch := first | decide | omega | (simp only [List.length_cons, List.length_nil, List.length_append, length_bvs, List.length_take, List.length_drop]; omega)) only [Tryz.results10, hln, List.drop_eq_nil_of_le, go_sem, Nat.reduceAdd, Nat.reduceMul, Nat.reduceSub]
        all_goals with_reducible rfl
      case q21 =>
      refine ⟨rfl, ?_, fun o2 h2 => ⟨hsat, ?_⟩⟩
      · rw [putS_new hg, stMain_ne snoc_ne]
        simp (disch := first | decide | omega | (simp only [List.length_cons, List.length_nil, List.length_append, length_bvs, List.length_take, List.length_drop]; omega)) only [go_sem, Nat.reduceAdd, Nat.reduceMul, Nat.reduceSub]
      · rw [putS_new hg, stSat_ne snoc_ne] at h2
        rw [← h2, wd_get (by decide) (by decide)]
        simp (disch := first | decide | omega) only [lk_hit, lk_miss]
    · obtain ⟨i, hf⟩ := findB_some hg
      refine xwp_seq ?_
      refine xwp_drawn_to base2 ⟨frm [(0, some (.pointer (some ⟨0, 0, none⟩))), (1, some (.string (str o))), (4, some (.pointer (some ⟨2, 0, none⟩))), (5, some (.pointer (some ⟨3, 0, none⟩))), (7, some (.bool true))], wd [(0, some (.cells [.map (some 1)] 65 (0, 0))), (1, some (.map (entL encS es) es.length)), (2, some (.cells (bvs (List.replicate 32 0)) 24 (0, 0))), (3, some (.cells (bvs (sha o)) 24 (0, 0)))] 4 [] 0, []⟩ ?hd21 ?qd21
      case hd21 =>
        refine ⟨?rs21, ?sx21, ?hx21, ?kx21, ?lx21⟩
        case hx21 =>
          simp (disch := first | decide | omega | (simp only [List.length_cons, List.length_nil, List.length_append, length_bvs, List.length_take, List.length_drop]; omega)) only [traceX.eq_1, traceX.eq_2, trc1.eq_1, trcK.eq_1, trcK.eq_2, traceD_nil, traceD_t, traceD_f, holeK.eq_1, holeK.eq_2, hln, hkv, keyOk_hb hashT, findX_hb hashT, hf, Option.map_none, Option.map_some, go_sem, Nat.reduceAdd, Nat.reduceMul, Nat.reduceSub]
          all_goals with_reducible rfl
        case kx21 => kernel_rfl
        case lx21 => exact chle_lit (by simp (disch := decide) [AllLk, lk_hit, lk_miss, lk_nil]) (by simp (disch := decide) [AllLk, lk_hit, lk_miss, lk_nil]) (by decide)
      case qd21 =>
      refine xwp_seq (xwp_region (e := ?e22) (s' := ?s22) base2 ?h22 ?q22)
      case h22 =>
        simp (disch := first | decide | omega | (simp only [List.length_cons, List.length_nil, List.length_append, length_bvs, List.length_take, List.length_drop]; omega)) only [go_sem, Nat.reduceAdd, Nat.reduceMul, Nat.reduceSub]
        all_goals with_reducible rfl
      case q22 =>
      refine xwp_cf ?h23 ?q23
      case h23 =>
        simp (disch := first | decide | omega | (simp only [List.length_cons, List.length_nil, List.length_append, length_bvs, List.length_take, List.length_drop]; omega)) only [go_sem, Nat.reduceAdd, Nat.reduceMul, Nat.reduceSub]
        all_goals with_reducible rfl
      case q23 =>
      refine xwp_skip ?_
      show XWp _ _ _ _ _ _
      refine xwp_seq (xwp_region (e := ?e24) (s' := ?s24) base2 ?h24 ?q24)
      case h24 =>
        simp (disch := first | decide | omega | (simp only [List.length_cons, List.length_nil, List.length_append, length_bvs, List.length_take, List.length_drop]; omega)) only [hln, List.drop_eq_nil_of_le, List.all_append, go_sem, Nat.reduceAdd, Nat.reduceMul, Nat.reduceSub]
        all_goals with_reducible rfl
      case q24 =>
      refine xwp_ret ?_
      refine ⟨_, ?e25, ?W25, rfl, ?h25, ?q25⟩
      case h25 =>
        simp (disch := first | decide | omega | (simp only [List.length_cons, List.length_nil, List.length_append, length_bvs, List.length_take, List.length_drop]; omega)) only [Tryz.results10, hln, List.drop_eq_nil_of_le, go_sem, Nat.reduceAdd, Nat.reduceMul, Nat.reduceSub]
        all_goals with_reducible rfl
      case q25 =>
      refine ⟨rfl, ?_, fun o2 h2 => ⟨hsat, ?_⟩⟩
      · rw [putS_old hg, stMain_ne hne]
        simp (disch := first | decide | omega | (simp only [List.length_cons, List.length_nil, List.length_append, length_bvs, List.length_take, List.length_drop]; omega)) only [go_sem, Nat.reduceAdd, Nat.reduceMul, Nat.reduceSub]
      · rw [putS_old hg, stSat_ne hne] at h2
        rw [← h2, wd_get (by decide) (by decide)]
        simp (disch := first | decide | omega) only [lk_hit, lk_miss]
end Go.Proofs.YthlkgmdkabelpaaGreat.X
namespace Go.Proofs.YthlkgmdkabelpaaGreat.X
open Go Go.RowKit
theorem getLocal (es : ObL) (k : HB) : Local Tryz.prog 12 [.pointer (some ⟨0, 0, none⟩), hbV k] (lw stE es) fun e W' => e = .ret (.tuple #[((getB k es).map encS).getD (.string (str [])), .bool (getB k es).isSome]) ∧ EndP stE es es W' .rd := by
  have hln : (bvs k.1).length = 32 := by rw [length_bvs, k.2]
  have hkv : Value.agg (bvs k.1).toArray = hbV k := rfl
  cases es with
  | nil =>
    show Local _ _ [.pointer (some ⟨0, 0, none⟩), .agg (bvs k.1).toArray] (wd [(0, some (.cells [.map none] 65 (0, 0)))] 1 [] 0) fun e W' => e = .ret (.tuple #[.string (str []), .bool false]) ∧ W'.get 0 = some (.cells [.map none] 65 (0, 0)) ∧ ∀ o, stSat [] = some o → W'.get 1 = some o
    refine lit_local base0 Tryz.func12 rfl (Nat.le_of_ble_eq_true rfl) ?_
    simp only [frOfL.eq_1, frOfL.eq_2, wd_next, Tryz.ntmps12, Nat.reduceAdd]
    have hfn : findX Tryz.prog 24 (hbV k) [] = some none := findX_hb (enc := encS) hashT k ([] : ObL)
    refine xwp_seq (xwp_region (e := ?e1) (s' := ?s1) base0 ?h1 ?q1)
    case h1 =>
      simp (disch := first | decide | omega | (simp only [List.length_cons, List.length_nil, List.length_append, length_bvs, List.length_take, List.length_drop]; omega)) only [hln, go_sem, Nat.reduceAdd, Nat.reduceMul, Nat.reduceSub]
      all_goals with_reducible rfl
    case q1 =>
    refine xwp_seq ?_
    refine xwp_seq (xwp_region (e := ?e2) (s' := ?s2) base0 ?h2 ?q2)
    case h2 =>
      simp (disch := first | decide | omega | (simp only [List.length_cons, List.length_nil, List.length_append, length_bvs, List.length_take, List.length_drop]; omega)) only [bin_pnil Tryz.underlying26, go_sem, Nat.reduceAdd, Nat.reduceMul, Nat.reduceSub]
      all_goals with_reducible rfl
    case q2 =>
    refine xwp_cf ?h3 ?q3
    case h3 =>
      simp (disch := first | decide | omega | (simp only [List.length_cons, List.length_nil, List.length_append, length_bvs, List.length_take, List.length_drop]; omega)) only [go_sem, Nat.reduceAdd, Nat.reduceMul, Nat.reduceSub]
      all_goals with_reducible rfl
    case q3 =>
    refine xwp_skip ?_
    refine xwp_drawn_to base0 ⟨frm [(6, some (.string (str []))), (7, some (.bool false))], wd [(0, some (.cells [.map none] 65 (0, 0)))] 2 [] 0, []⟩ ?hda ?qda
    case hda =>
      refine ⟨?rsa, ?sxa, ?hxa, ?kxa, ?lxa⟩
      case hxa =>
        simp (disch := first | decide | omega | (simp only [List.length_cons, List.length_nil, List.length_append, length_bvs, List.length_take, List.length_drop]; omega)) only [traceX.eq_1, traceX.eq_2, trc1.eq_1, trcK.eq_1, trcK.eq_2, traceD_nil, traceD_t, traceD_f, holeK.eq_1, holeK.eq_2, hln, hkv, keyOk_hb hashT, hfn, Option.map_none, Option.map_some, go_sem, Nat.reduceAdd, Nat.reduceMul, Nat.reduceSub]
        all_goals with_reducible rfl
      case kxa => kernel_rfl
      case lxa => exact chle_lit (by simp (disch := decide) [AllLk, lk_hit, lk_miss, lk_nil]) (by simp (disch := decide) [AllLk, lk_hit, lk_miss, lk_nil]) (by decide)
    case qda =>
    refine xwp_seq (xwp_region (e := ?e4) (s' := ?s4) base0 ?h4 ?q4)
    case h4 =>
      simp (disch := first | decide | omega | (simp only [List.length_cons, List.length_nil, List.length_append, length_bvs, List.length_take, List.length_drop]; omega)) only [go_sem, Nat.reduceAdd, Nat.reduceMul, Nat.reduceSub]
      all_goals with_reducible rfl
    case q4 =>
    refine xwp_ret ?_
    refine ⟨_, ?e5, ?W5, rfl, ?h5, ?q5⟩
    case h5 =>
      simp (disch := first | decide | omega | (simp only [List.length_cons, List.length_nil, List.length_append, length_bvs, List.length_take, List.length_drop]; omega)) only [Tryz.results12, go_sem, Nat.reduceAdd, Nat.reduceMul, Nat.reduceSub]
      all_goals with_reducible rfl
    case q5 =>
    refine ⟨rfl, ?_, fun o h => (by cases h)⟩
    simp (disch := first | decide | omega | (simp only [List.length_cons, List.length_nil, List.length_append, length_bvs, List.length_take, List.length_drop]; omega)) only [go_sem, Nat.reduceAdd, Nat.reduceMul, Nat.reduceSub]
  | cons x l =>
    obtain ⟨es, hes⟩ : ∃ es, es = x :: l := ⟨_, rfl⟩
    show Local _ _ [.pointer (some ⟨0, 0, none⟩), .agg (bvs k.1).toArray] (wd [(0, some (.cells [.map (some 1)] 65 (0, 0))), (1, some (.map (entL encS (x :: l)) (x :: l).length))] 2 [] 0) fun e W' => e = .ret (.tuple #[((getB k (x :: l)).map encS).getD (.string (str [])), .bool (getB k (x :: l)).isSome]) ∧ W'.get 0 = some (.cells [.map (some 1)] 65 (0, 0)) ∧ ∀ o, stSat (x :: l) = some o → W'.get 1 = some o
    rw [← hes]
    have hne : es ≠ [] := by rw [hes]; simp
    clear hes
    refine lit_local base0 Tryz.func12 rfl (Nat.le_of_ble_eq_true rfl) ?_
    simp only [frOfL.eq_1, frOfL.eq_2, wd_next, Tryz.ntmps12, Nat.reduceAdd]
    refine xwp_seq (xwp_region (e := ?e6) (s' := ?s6) base0 ?h6 ?q6)
    case h6 =>
      simp (disch := first | decide | omega | (simp only [List.length_cons, List.length_nil, List.length_append, length_bvs, List.length_take, List.length_drop]; omega)) only [hln, go_sem, Nat.reduceAdd, Nat.reduceMul, Nat.reduceSub]
      all_goals with_reducible rfl
    case q6 =>
    refine xwp_seq ?_
    refine xwp_seq (xwp_region (e := ?e7) (s' := ?s7) base0 ?h7 ?q7)
    case h7 =>
      simp (disch := first | decide | omega | (simp only [List.length_cons, List.length_nil, List.length_append, length_bvs, List.length_take, List.length_drop]; omega)) only [bin_pnil Tryz.underlying26, go_sem, Nat.reduceAdd, Nat.reduceMul, Nat.reduceSub]
      all_goals with_reducible rfl
    case q7 =>
    refine xwp_cf ?h8 ?q8
    case h8 =>
      simp (disch := first | decide | omega | (simp only [List.length_cons, List.length_nil, List.length_append, length_bvs, List.length_take, List.length_drop]; omega)) only [go_sem, Nat.reduceAdd, Nat.reduceMul, Nat.reduceSub]
      all_goals with_reducible rfl
    case q8 =>
    refine xwp_skip ?_
    refine xwp_drawn_to base0 ⟨frm [(6, some (((getB k es).map encS).getD (.string (str [])))), (7, some (.bool (getB k es).isSome))], wd [(0, some (.cells [.map (some 1)] 65 (0, 0))), (1, some (.map (entL encS es) es.length))] 3 [] 0, []⟩ ?hdb ?qdb
    case hdb =>
      rcases hg : getB k es with _ | t
      · have hf := findB_none hg
        refine ⟨?rsb, ?sxb, ?hxb, ?kxb, ?lxb⟩
        case hxb =>
          simp (disch := first | decide | omega | (simp only [List.length_cons, List.length_nil, List.length_append, length_bvs, List.length_take, List.length_drop]; omega)) only [traceX.eq_1, traceX.eq_2, trc1.eq_1, trcK.eq_1, trcK.eq_2, traceD_nil, traceD_t, traceD_f, holeK.eq_1, holeK.eq_2, hln, hkv, keyOk_hb hashT, findX_hb hashT, hf, Option.map_none, Option.map_some, go_sem, Nat.reduceAdd, Nat.reduceMul, Nat.reduceSub]
          all_goals with_reducible rfl
        case kxb => kernel_rfl
        case lxb => exact chle_lit (allLk_cons (by decide) rfl (allLk_cons (by decide) rfl trivial)) (by simp (disch := decide) [AllLk, lk_hit, lk_miss, lk_nil]) (by decide)
      · obtain ⟨i, hf⟩ := findB_some hg
        refine ⟨?rsc, ?sxc, ?hxc, ?kxc, ?lxc⟩
        case hxc =>
          simp (disch := first | decide | omega | (simp only [List.length_cons, List.length_nil, List.length_append, length_bvs, List.length_take, List.length_drop]; omega)) only [traceX.eq_1, traceX.eq_2, trc1.eq_1, trcK.eq_1, trcK.eq_2, traceD_nil, traceD_t, traceD_f, holeK.eq_1, holeK.eq_2, hln, hkv, keyOk_hb hashT, findX_hb hashT, hf, Option.map_none, Option.map_some, go_sem, Nat.reduceAdd, Nat.reduceMul, Nat.reduceSub]
          all_goals with_reducible rfl
        case kxc => kernel_rfl
        case lxc => exact chle_lit (allLk_cons (by decide) rfl (allLk_cons (by decide) rfl trivial)) (by simp (disch := decide) [AllLk, lk_hit, lk_miss, lk_nil]) (by decide)
    case qdb =>
    have h1 : oneC (((getB k es).map encS).getD (.string (str []))) = true := by cases getB k es <;> rfl
    refine xwp_seq (xwp_region (e := ?e9) (s' := ?s9) base0 ?h9 ?q9)
    case h9 =>
      simp (disch := first | decide | omega | (simp only [List.length_cons, List.length_nil, List.length_append, length_bvs, List.length_take, List.length_drop]; omega)) only [go_sem, Nat.reduceAdd, Nat.reduceMul, Nat.reduceSub]
      all_goals with_reducible rfl
    case q9 =>
    refine xwp_ret ?_
    refine ⟨_, ?e10, ?W10, rfl, ?h10, ?q10⟩
    case h10 =>
      simp (disch := first | decide | omega | (simp only [List.length_cons, List.length_nil, List.length_append, length_bvs, List.length_take, List.length_drop]; omega)) only [Tryz.results12, go_sem, Nat.reduceAdd, Nat.reduceMul, Nat.reduceSub]
      all_goals with_reducible rfl
    case q10 =>
    refine ⟨rfl, ?_, fun o h => ?_⟩
    · simp (disch := first | decide | omega | (simp only [List.length_cons, List.length_nil, List.length_append, length_bvs, List.length_take, List.length_drop]; omega)) only [go_sem, Nat.reduceAdd, Nat.reduceMul, Nat.reduceSub]
    · rw [stSat_ne hne] at h
      rw [← h, wd_get (by decide) (by decide)]
      simp (disch := first | decide | omega) only [lk_hit, lk_miss]
theorem okPut : HookOk Tryz.prog 10 (prH stE pPut) := pr_ok (enters_of (by kernel_rfl)) (fun xs a v a' md h => by
    obtain ⟨o, rfl, _, rfl, _, _⟩ := pPut_inv h
    exact ⟨bares_cons (bare_flat 8 rfl) bares_nil, bares_hb _⟩) (fun xs a v a' md h => by
    obtain ⟨o, rfl, ho, rfl, rfl, rfl⟩ := pPut_inv h
    exact putLocal a o ho)
theorem okGet : HookOk Tryz.prog 12 (prH stE pGet) := pr_ok (enters_of (by kernel_rfl)) (fun xs a v a' md h => by
    obtain ⟨k, rfl, rfl, _, _⟩ := pGet_inv h
    exact ⟨bares_cons (bares_hb _) bares_nil, bare_got⟩) (fun xs a v a' md h => by
    obtain ⟨k, rfl, rfl, rfl, rfl⟩ := pGet_inv h
    exact getLocal _ k)
end Go.Proofs.YthlkgmdkabelpaaGreat.X
namespace Go.Proofs.YthlkgmdkabelpaaGreat.X
open Go Go.RowKit
def pureK (W : XW) : Option Value → Option (XEnd × XW)
  | some v => some (.ret v, W)
  | none => none
def pureH (p : List Value → Option Value) : HF := fun args W => pureK W (p args)
theorem pureH_ok {P : Program} {f : FuncId} {p : List Value → Option Value} (he : Enters P f) (hb : ∀ xs v, p xs = some v → Bares xs ∧ Bare v) (hl : ∀ xs v, p xs = some v → Local P f xs (wd [] 0 [] 0) fun e W' => e = .ret v) : HookOk P f (pureH p) := by
  have key : ∀ args W e W', pureH p args W = some (e, W') → ∃ v, p args = some v ∧ e = .ret v ∧ W' = W := fun args W e W' h => by
    unfold pureH at h
    cases hp : p args with
    | none => rw [hp] at h; cases h
    | some v => rw [hp] at h; cases h; exact ⟨v, rfl, rfl, rfl⟩
  refine ⟨he, fun args W e W' h => ?_, fun args W e W' h => ?_⟩
  · obtain ⟨v, _, _, rfl⟩ := key _ _ _ _ h
    exact .refl _
  · obtain ⟨v, hp, rfl, rfl⟩ := key _ _ _ _ h
    exact call_bare (hb _ _ hp).1 (hl _ _ hp) (fun e' W' hS => hS) (hb _ _ hp).2
theorem pureH_eq {p : List Value → Option Value} {args : List Value} {W : XW} : pureH p args W = pureK W (p args) := rfl
/-! ### bytes of strings -/
theorem bytesOf_cons {n : Nat} {l : List Value} : bytesOf (.int .u8 ((n : Nat) : Int) :: l) = byteIn n (bytesOf l) := rfl
theorem bytesOf_bvs : ∀ l : List UInt8, bytesOf (bvs l) = some l
  | [] => rfl
  | b :: l => by
    have hb := b.toNat_lt
    show byteIn b.toNat (bytesOf (bvs l)) = _
    rw [bytesOf_bvs l]
    show (bif Nat.blt b.toNat 256 then some (UInt8.ofNat b.toNat :: l) else none) = _
    rw [blt_t hb]
    simp
theorem strO_some {l : List UInt8} : strO (some l) = some (.val (some (.string (str l)))) := rfl
theorem calls_pure {P : Program} {f : FuncId} {p : List Value → Option Value} (he : Enters P f) (hb : ∀ xs v, p xs = some v → (∀ x ∈ xs, flatN 8 x = true) ∧ flatN 8 v = true)
    (hc : ∀ xs v, p xs = some v → ∀ w, Calls P f xs.toArray w fun e w' => e = .returned v ∧ Keeps noBlock w w') : HookOk P f (pureH p) := by
  have key : ∀ args W e W', pureH p args W = some (e, W') → ∃ v, p args = some v ∧ e = .ret v ∧ W' = W := fun args W e W' h => by
    unfold pureH at h
    cases hp : p args with
    | none => rw [hp] at h; cases h
    | some v => rw [hp] at h; cases h; exact ⟨v, rfl, rfl, rfl⟩
  refine ⟨he, fun args W e W' h => ?_, fun args W e W' h ρ args' w m hfr hH hA => ?_⟩
  · obtain ⟨v, _, _, rfl⟩ := key _ _ _ _ h
    exact .refl _
  · obtain ⟨v, hp, rfl, rfl⟩ := key _ _ _ _ h
    have := hA.of_flat 8 (hb _ _ hp).1
    subst this
    refine CallsIn.mono (callsIn_wide.2 (hc _ _ hp w)) fun en w' ⟨he, hk⟩ => ?_
    subst he
    exact ⟨ρ, .keep hk, hH.keep hk, .flat 8 _ (hb _ _ hp).2⟩
end Go.Proofs.YthlkgmdkabelpaaGreat.X
namespace Go.Proofs.YthlkgmdkabelpaaGreat.X
open Go Go.RowKit
def lessB (a b : HB) : Bool := lessL a.1 b.1
open Classical in
noncomputable def pLess : List Value → Option Value := fun xs => if h : ∃ q : HB × HB, xs = [hbV q.1, hbV q.2] then some (.bool (lessB (Classical.choose h).1 (Classical.choose h).2)) else none
theorem pLess_eq {a b : HB} : pLess [hbV a, hbV b] = some (.bool (lessB a b)) := by
  have hx : ∃ q : HB × HB, [hbV a, hbV b] = [hbV q.1, hbV q.2] := ⟨(a, b), rfl⟩
  have e : pLess [hbV a, hbV b] = some (.bool (lessB (Classical.choose hx).1 (Classical.choose hx).2)) := dif_pos hx
  have hq := Classical.choose_spec hx
  generalize Classical.choose hx = q at hq e
  injection hq with h1 h2
  injection h2 with h2 _
  rw [e, hbV_inj h1, hbV_inj h2]
theorem okLess : HookOk Tryz.prog 29 (pureH pLess) := by
  have inv : ∀ xs v, pLess xs = some v → ∃ a b : HB, xs = [hbV a, hbV b] ∧ v = .bool (lessB a b) := fun xs v h => by
    unfold pLess at h
    split at h
    · rename_i hx
      have hq := Classical.choose_spec hx
      cases h
      exact ⟨_, _, hq, rfl⟩
    · cases h
  refine calls_pure (enters_of (by kernel_rfl)) (fun xs v h => ?_) (fun xs v h w => ?_)
  · obtain ⟨a, b, rfl, rfl⟩ := inv _ _ h
    exact ⟨fun x hx => by
      simp only [List.mem_cons, List.not_mem_nil, or_false] at hx
      rcases hx with rfl | rfl <;> exact flat_hb _, rfl⟩
  · obtain ⟨a, b, rfl, rfl⟩ := inv _ _ h
    exact rless_any a.1 b.1 w a.2 b.2
def posS (h : HB) : ObL → Nat
  | [] => 0
  | x :: l => if lessB x.1 h then posS h l + 1 else 0
theorem posS_le (h : HB) : ∀ l : ObL, posS h l ≤ l.length
  | [] => Nat.le_refl _
  | x :: l => by
    unfold posS
    split
    · rw [List.length_cons]; have := posS_le h l; omega
    · exact Nat.zero_le _
theorem posS_of {h : HB} : ∀ {l : ObL} {i : Nat}, i ≤ l.length → (∀ j (q : j < l.length), j < i → lessB l[j].1 h = true) → (∀ q : i < l.length, lessB l[i].1 h = false) → posS h l = i
  | [], i, hi, _, _ => by unfold posS; have : i = 0 := by simpa using hi
                          exact this.symm
  | x :: l, 0, _, _, h2 => by
    have := h2 (by rw [List.length_cons]; omega)
    unfold posS
    rw [if_neg (by rw [show x.1 = ((x :: l)[0]'(by rw [List.length_cons]; omega)).1 from rfl, this]; simp)]
  | x :: l, i + 1, hi, h1, h2 => by
    have := h1 0 (by rw [List.length_cons]; omega) (by omega)
    unfold posS
    rw [if_pos (by exact this)]
    rw [posS_of (l := l) (i := i) (by rw [List.length_cons] at hi; omega) (fun j q hj => h1 (j + 1) (by rw [List.length_cons]; omega) (by omega)) (fun q => h2 (by rw [List.length_cons]; omega))]
def insS (es : ObL) (o : List UInt8) : ObL := es.take (posS (shaB o) es) ++ (shaB o, o) :: es.drop (posS (shaB o) es)
def hitS (es : ObL) (o : List UInt8) : Bool := match es[posS (shaB o) es]? with
  | some x => decide (x.1 = shaB o)
  | none => false
def putR (es : ObL) (o : List UInt8) : ObL := if hitS es o then es else insS es o
def rfMd (es : ObL) (o : List UInt8) : Md := if hitS es o then .pl else .mv
open Classical in
noncomputable def pRPut : PP ObL := fun xs es => if h : ∃ o : List UInt8, xs = [.string (str o)] ∧ o.length ≤ 140737488351232 ∧ es.length ≤ 1000000 then some (hbV (shaB (Classical.choose h)), putR es (Classical.choose h), rfMd es (Classical.choose h)) else none
theorem pRPut_eq {es : ObL} {o : List UInt8} (h : o.length ≤ 140737488351232) (hn : es.length ≤ 1000000) : pRPut [.string (str o)] es = some (hbV (shaB o), putR es o, rfMd es o) := by
  have hx : ∃ q : List UInt8, [Value.string (str o)] = [.string (str q)] ∧ q.length ≤ 140737488351232 ∧ es.length ≤ 1000000 := ⟨o, rfl, h, hn⟩
  have e : pRPut [.string (str o)] es = some (hbV (shaB (Classical.choose hx)), putR es (Classical.choose hx), rfMd es (Classical.choose hx)) := dif_pos hx
  have hq : o = Classical.choose hx := by
    have := (Classical.choose_spec hx).1
    injection this with this _
    exact encS_inj this
  rw [e, ← hq]
theorem pRPut_inv {xs : List Value} {es es' : ObL} {v : Value} {md : Md} (h : pRPut xs es = some (v, es', md)) : ∃ o : List UInt8, xs = [.string (str o)] ∧ o.length ≤ 140737488351232 ∧ es.length ≤ 1000000 ∧ v = hbV (shaB o) ∧ es' = putR es o ∧ md = rfMd es o := by
  unfold pRPut at h
  split at h
  · rename_i hx
    obtain ⟨h1, h2, h3⟩ := Classical.choose_spec hx
    cases h
    exact ⟨_, h1, h2, h3, rfl, rfl, rfl⟩
  · cases h
theorem rowOb_length : ∀ l : ObL, (rowOb l).length = l.length * 33
  | [] => rfl
  | x :: l => by
    unfold rowOb
    rw [List.flatMap_cons, List.length_append, obC_len, List.length_cons]
    have := rowOb_length l
    unfold rowOb at this
    rw [this]; omega
theorem rowOb_take : ∀ (l : ObL) (i : Nat), (rowOb l).take (i * 33) = rowOb (l.take i)
  | [], i => by simp [rowOb]
  | x :: l, 0 => by simp [rowOb]
  | x :: l, i + 1 => by
    show (obC x ++ rowOb l).take _ = obC x ++ rowOb (l.take i)
    rw [Nat.succ_mul, Nat.add_comm, List.take_append, List.take_of_length_le (by rw [obC_len]; omega), obC_len, show 33 + i * 33 - 33 = i * 33 by omega, rowOb_take l i]
theorem rowOb_drop : ∀ (l : ObL) (i : Nat), (rowOb l).drop (i * 33) = rowOb (l.drop i)
  | [], i => by simp [rowOb]
  | x :: l, 0 => by simp [rowOb]
  | x :: l, i + 1 => by
    show (obC x ++ rowOb l).drop _ = rowOb (l.drop i)
    rw [Nat.succ_mul, Nat.add_comm, List.drop_append, List.drop_of_length_le (by rw [obC_len]; omega), obC_len, show 33 + i * 33 - 33 = i * 33 by omega, rowOb_drop l i, List.nil_append]
theorem rowOb_append (a b : ObL) : rowOb a ++ rowOb b = rowOb (a ++ b) := by unfold rowOb; rw [List.flatMap_append]
theorem rowOb_at {l : ObL} {i : Nat} (h : i < l.length) : ((rowOb l).drop (i * 33)).take 32 = bvs l[i].1.1 := by
  rw [rowOb_drop, List.drop_eq_getElem_cons h]
  show (obC l[i] ++ rowOb (l.drop (i + 1))).take 32 = _
  unfold obC
  rw [List.append_assoc, List.take_append, List.take_of_length_le (by rw [length_bvs, l[i].1.2]; omega), length_bvs, l[i].1.2]
  simp
theorem rowOb_text {l : ObL} {i : Nat} (h : i < l.length) : (rowOb l)[i * 33 + 32]? = some (encS l[i].2) := by
  have e : (rowOb l)[i * 33 + 32]? = ((rowOb l).drop (i * 33))[32]? := by rw [List.getElem?_drop]
  rw [e, rowOb_drop, List.drop_eq_getElem_cons h]
  show (obC l[i] ++ rowOb (l.drop (i + 1)))[32]? = _
  unfold obC
  rw [List.append_assoc, List.getElem?_append_right (by rw [length_bvs, l[i].1.2]; omega), length_bvs, l[i].1.2]
  rfl
theorem one_rowOb (l : ObL) : (rowOb l).all oneC = true := by
  rw [List.all_eq_true]
  intro v hv
  obtain ⟨x, _, hx⟩ := List.mem_flatMap.1 hv
  unfold obC at hx
  rcases List.mem_append.1 hx with h | h
  · obtain ⟨b, _, rfl⟩ := List.mem_map.1 h; rfl
  · simp only [List.mem_cons, List.not_mem_nil, or_false] at h; subst h; rfl
theorem rfMain_ne {l : ObL} (h : l ≠ []) {b : Nat} : rfMain l b = .cells [.slice (some ⟨b, 0, none⟩) l.length openCap] 69 (0, 0) := by
  cases l with
  | nil => exact absurd rfl h
  | cons x l => rfl
theorem rfSat_ne {l : ObL} (h : l ≠ []) : growO 72 (rowOb l) l.length = some (.cells (rowOb l) 72 (0, 0)) := by
  cases l with
  | nil => exact absurd rfl h
  | cons x l => rfl
end Go.Proofs.YthlkgmdkabelpaaGreat.X
namespace Go.Proofs.YthlkgmdkabelpaaGreat.X
open Go Go.RowKit
theorem xwp_seq_to {P : Program} {N k : Nat} {c d : Code} {s : XS} {Q : XQ} (S : XS) (h : XWp P N k c s fun e s' => e = .norm ∧ ChLe P k s' S) (q : XWp P N k d S Q) : XWp P N k (.seq c d) s Q :=
  xwp_seq (xwp_mono (fun e s1 hx => by
    obtain ⟨rfl, hl⟩ := hx
    exact xwp_le hl q) h)
theorem iad_sl {P : Program} {n b o i c : Nat} {e : TypeId} {k : IntKind} : iadX P (some (.slice e)) (some (.slice (some ⟨b, o, none⟩) n c)) (some (.int k ((i : Nat) : Int))) = iad1 b o i n (sz P e) := rfl
theorem hb_beq (a b : HB) : (a.1 == b.1) = decide (a = b) := by
  by_cases h : a = b
  · subst h; simp
  · have : a.1 ≠ b.1 := fun e => h (Subtype.ext e)
    rw [decide_eq_false h, beq_false_of_ne this]
theorem isOpen0 : isOpen 0 = false := by decide
noncomputable def T5 : List (FuncId × HF) := [(27, hSha), (29, pureH pLess)]
theorem base5 : Base Tryz.prog (hooksOf T5 []) := ⟨mixed, hooksOf_sim (.cons _ _ _ okRSum (.cons _ _ _ okLess .nil)) .nil⟩
structure LpS (es : ObL) (h : HB) where
  i : Nat
  hi : i ≤ es.length
  hl : ∀ j (q : j < es.length), j < i → lessB es[j].1 h = true
set_option maxHeartbeats 1000000 in
theorem rputNe (es : ObL) (o : List UInt8) (ho : o.length ≤ 140737488351232) (hn : es.length ≤ 1000000) (hne : es ≠ []) : Local Tryz.prog 11 [.pointer (some ⟨0, 0, none⟩), .string (str o)]
    (wd [(0, some (.cells [.slice (some ⟨1, 0, none⟩) es.length openCap] 69 (0, 0))), (1, some (.cells (rowOb es) 72 (0, 0)))] 2 [] 0)
    fun e W' => e = .ret (hbV (shaB o)) ∧ ((hitS es o = true ∧ W'.get 0 = some (.cells [.slice (some ⟨1, 0, none⟩) es.length openCap] 69 (0, 0)) ∧ W'.get 1 = some (.cells (rowOb es) 72 (0, 0))) ∨
      (hitS es o = false ∧ ∃ b', 2 ≤ b' ∧ W'.get 0 = some (.cells [.slice (some ⟨b', 0, none⟩) (es.length + 1) openCap] 69 (0, 0)) ∧ W'.get b' = some (.cells (rowOb (insS es o)) 72 (0, 0)))) := by
  have hln : (bvs (sha o)).length = 32 := by rw [length_bvs, sha_length]
  have hkv : Value.agg (bvs (sha o)).toArray = hbV (shaB o) := rfl
  have hsl : (sha o).length = 32 := sha_length o
  have hlr := rowOb_length es
  refine lit_local base5 Tryz.func11 rfl (Nat.le_of_ble_eq_true rfl) ?_
  simp only [frOfL.eq_1, frOfL.eq_2, wd_next, Tryz.ntmps11, Nat.reduceAdd]
  refine xwp_seq (xwp_region (e := ?e1) (s' := ?s1) base5 ?h1 ?q1)
  case h1 =>
    simp (disch := first | decide | omega | (simp only [List.length_cons, List.length_nil, List.length_append, length_bvs, List.length_take, List.length_drop]; omega)) only [go_sem, Nat.reduceAdd, Nat.reduceMul, Nat.reduceSub]
    all_goals with_reducible rfl
  case q1 =>
  refine xwp_seq (xwp_region (e := ?e2) (s' := ?s2) base5 ?h2 ?q2)
  case h2 =>
    simp (disch := first | decide | omega | (simp only [List.length_cons, List.length_nil, List.length_append, length_bvs, List.length_take, List.length_drop]; omega)) only [T5, hSha_eq ho, List.drop_eq_nil_of_le, List.all_append, go_sem, Nat.reduceAdd, Nat.reduceMul, Nat.reduceSub]
    all_goals with_reducible rfl
  case q2 =>
  refine xwp_seq (xwp_region (e := ?e3) (s' := ?s3) base5 ?h3 ?q3)
  case h3 =>
    simp (disch := first | decide | omega | (simp only [List.length_cons, List.length_nil, List.length_append, length_bvs, List.length_take, List.length_drop]; omega)) only [go_sem, Nat.reduceAdd, Nat.reduceMul, Nat.reduceSub]
    all_goals with_reducible rfl
  case q3 =>
  refine xwp_seq_to ⟨frm [(0, some (.pointer (some ⟨0, 0, none⟩))), (1, some (.string (str o))), (4, some (.pointer (some ⟨2, 0, none⟩))), (5, some (.pointer (some ⟨3, 0, none⟩))), (6, some (.int .i64 ((posS (shaB o) es : Nat) : Int)))], wd [(0, some (.cells [.slice (some ⟨1, 0, none⟩) es.length openCap] 69 (0, 0))), (1, some (.cells (rowOb es) 72 (0, 0))), (2, some (.cells (bvs (List.replicate 32 0)) 24 (0, 0))), (3, some (.cells (bvs (sha o)) 24 (0, 0)))] 4 [] 0, []⟩ (xwp_block ?lp) ?aft
  case lp =>
    refine xwp_le (s' := ⟨frm [(0, some (.pointer (some ⟨0, 0, none⟩))), (1, some (.string (str o))), (4, some (.pointer (some ⟨2, 0, none⟩))), (5, some (.pointer (some ⟨3, 0, none⟩))), (6, some (.int .i64 ((0 : Nat) : Int)))], wd [(0, some (.cells [.slice (some ⟨1, 0, none⟩) es.length openCap] 69 (0, 0))), (1, some (.cells (rowOb es) 72 (0, 0))), (2, some (.cells (bvs (List.replicate 32 0)) 24 (0, 0))), (3, some (.cells (bvs (sha o)) 24 (0, 0)))] 4 [] 0, []⟩) (chle_lit (by simp (disch := decide) [AllLk, lk_hit, lk_miss, lk_nil]) (allLk_cons (by decide) rfl (allLk_cons (by decide) rfl (allLk_cons (by decide) rfl (allLk_cons (by decide) rfl trivial)))) (by decide)) ?_
    refine xwp_loop (α := LpS es (shaB o)) (fun y => ⟨frm [(0, some (.pointer (some ⟨0, 0, none⟩))), (1, some (.string (str o))), (4, some (.pointer (some ⟨2, 0, none⟩))), (5, some (.pointer (some ⟨3, 0, none⟩))), (6, some (.int .i64 (y.i : Int)))], wd [(0, some (.cells [.slice (some ⟨1, 0, none⟩) es.length openCap] 69 (0, 0))), (1, some (.cells (rowOb es) 72 (0, 0))), (2, some (.cells (bvs (List.replicate 32 0)) 24 (0, 0))), (3, some (.cells (bvs (sha o)) 24 (0, 0)))] 4 [] 0, []⟩) (fun y => es.length - y.i) ?_ ⟨0, Nat.zero_le _, fun j q h => absurd h (Nat.not_lt_zero j)⟩
    intro ⟨i, hi, hl⟩
    simp only
    by_cases hlt : i < es.length
    · have hat := rowOb_at hlt
      obtain ⟨x, hx⟩ : ∃ x, x = es[i] := ⟨_, rfl⟩
      rw [← hx] at hat
      have hxv : Value.agg (bvs x.1.1).toArray = hbV x.1 := rfl
      have hxl : (bvs x.1.1).length = 32 := by rw [length_bvs, x.1.2]
      have hxl2 := x.1.2
      refine xwp_seq ?_
      refine xwp_seq (xwp_region (e := ?e4) (s' := ?s4) base5 ?h4 ?q4)
      case h4 =>
        simp (disch := first | decide | omega | (simp only [List.length_cons, List.length_nil, List.length_append, length_bvs, List.length_take, List.length_drop]; omega)) only [go_sem, Nat.reduceAdd, Nat.reduceMul, Nat.reduceSub]
        all_goals with_reducible rfl
      case q4 =>
      refine xwp_ct ?h5 ?q5
      case h5 =>
        simp (disch := first | decide | omega | (simp only [List.length_cons, List.length_nil, List.length_append, length_bvs, List.length_take, List.length_drop]; omega)) only [go_sem, Nat.reduceAdd, Nat.reduceMul, Nat.reduceSub]
        all_goals with_reducible rfl
      case q5 =>
      refine xwp_skip ?_
      refine xwp_block ?_
      refine xwp_drawn_to base5 ⟨frm [(0, some (.pointer (some ⟨0, 0, none⟩))), (1, some (.string (str o))), (4, some (.pointer (some ⟨2, 0, none⟩))), (5, some (.pointer (some ⟨3, 0, none⟩))), (6, some (.int .i64 (i : Int))), (7, some (.bool (lessB x.1 (shaB o))))], wd [(0, some (.cells [.slice (some ⟨1, 0, none⟩) es.length openCap] 69 (0, 0))), (1, some (.cells (rowOb es) 72 (0, 0))), (2, some (.cells (bvs (List.replicate 32 0)) 24 (0, 0))), (3, some (.cells (bvs (sha o)) 24 (0, 0)))] 4 [] 0, []⟩ ?hda ?qda
      case hda =>
        refine ⟨?rsa, ?sxa, ?hxa, ?kxa, ?lxa⟩
        case hxa =>
          simp (disch := first | decide | omega | (simp only [List.length_cons, List.length_nil, List.length_append, length_bvs, List.length_take, List.length_drop]; omega)) only [traceX.eq_1, traceX.eq_2, trc1.eq_1, trcK.eq_1, trcK.eq_2, traceD_nil, traceD_t, traceD_f, holeK.eq_1, holeK.eq_2, T5, iad_sl, hln, hxl, hat, hxv, hkv, pureH_eq, pureK.eq_1, pLess_eq, go_sem, Nat.reduceAdd, Nat.reduceMul, Nat.reduceSub]
          all_goals with_reducible rfl
        case kxa => kernel_rfl
        case lxa => exact chle_lit (by simp (disch := decide) [AllLk, lk_hit, lk_miss, lk_nil]) (by simp (disch := decide) [AllLk, lk_hit, lk_miss, lk_nil]) (by decide)
      case qda =>
      refine xwp_seq ?_
      refine xwp_seq (xwp_region (e := ?e6) (s' := ?s6) base5 ?h6 ?q6)
      case h6 =>
        simp (disch := first | decide | omega | (simp only [List.length_cons, List.length_nil, List.length_append, length_bvs, List.length_take, List.length_drop]; omega)) only [go_sem, Nat.reduceAdd, Nat.reduceMul, Nat.reduceSub]
        all_goals with_reducible rfl
      case q6 =>
      cases hls : lessB x.1 (shaB o) with
      | false =>
        refine xwp_ct ?h7 ?q7
        case h7 =>
          simp (disch := first | decide | omega | (simp only [List.length_cons, List.length_nil, List.length_append, length_bvs, List.length_take, List.length_drop]; omega)) only [go_sem, Nat.reduceAdd, Nat.reduceMul, Nat.reduceSub]
          all_goals with_reducible rfl
        case q7 =>
        refine xwp_exit ?_
        have hp : posS (shaB o) es = i := posS_of hi hl (fun q => by rw [← hx]; exact hls)
        refine ⟨rfl, ?_⟩
        rw [hp]
        exact chle_lit (by simp (disch := decide) [AllLk, lk_hit, lk_miss, lk_nil]) (by simp (disch := decide) [AllLk, lk_hit, lk_miss, lk_nil]) (by decide)
      | true =>
        refine xwp_cf ?h8 ?q8
        case h8 =>
          simp (disch := first | decide | omega | (simp only [List.length_cons, List.length_nil, List.length_append, length_bvs, List.length_take, List.length_drop]; omega)) only [go_sem, Nat.reduceAdd, Nat.reduceMul, Nat.reduceSub]
          all_goals with_reducible rfl
        case q8 =>
        refine xwp_skip ?_
        show XWp _ _ _ _ _ _
        refine xwp_region (e := ?e9) (s' := ?s9) base5 ?h9 ?q9
        case h9 =>
          simp (disch := first | decide | omega | (simp only [List.length_cons, List.length_nil, List.length_append, length_bvs, List.length_take, List.length_drop]; omega)) only [go_sem, Nat.reduceAdd, Nat.reduceMul, Nat.reduceSub]
          all_goals with_reducible rfl
        case q9 =>
        refine ⟨⟨i + 1, hlt, fun j q h => ?_⟩, by simp only; omega, ?_⟩
        · by_cases hj : j = i
          · subst hj; rw [← hx]; exact hls
          · exact hl j q (by omega)
        · exact chle_lit (by simp (disch := decide) [AllLk, lk_hit, lk_miss, lk_nil]) (by simp (disch := decide) [AllLk, lk_hit, lk_miss, lk_nil]) (by decide)
    · refine xwp_seq ?_
      refine xwp_seq (xwp_region (e := ?e10) (s' := ?s10) base5 ?h10 ?q10)
      case h10 =>
        simp (disch := first | decide | omega | (simp only [List.length_cons, List.length_nil, List.length_append, length_bvs, List.length_take, List.length_drop]; omega)) only [go_sem, Nat.reduceAdd, Nat.reduceMul, Nat.reduceSub]
        all_goals with_reducible rfl
      case q10 =>
      refine xwp_cf ?h11 ?q11
      case h11 =>
        simp (disch := first | decide | omega | (simp only [List.length_cons, List.length_nil, List.length_append, length_bvs, List.length_take, List.length_drop]; omega)) only [go_sem, Nat.reduceAdd, Nat.reduceMul, Nat.reduceSub]
        all_goals with_reducible rfl
      case q11 =>
      refine xwp_exit ?_
      have hp : posS (shaB o) es = i := posS_of hi hl (fun q => absurd q hlt)
      refine ⟨rfl, ?_⟩
      rw [hp]
      exact chle_lit (by simp (disch := decide) [AllLk, lk_hit, lk_miss, lk_nil]) (by simp (disch := decide) [AllLk, lk_hit, lk_miss, lk_nil]) (by decide)
  case aft =>
  have hple := posS_le (shaB o) es
  obtain ⟨p, hp⟩ : ∃ p, p = posS (shaB o) es := ⟨_, rfl⟩
  rw [← hp] at hple ⊢
  refine xwp_seq ?_
  refine xwp_drawn_to base5 ⟨frm [(0, some (.pointer (some ⟨0, 0, none⟩))), (1, some (.string (str o))), (4, some (.pointer (some ⟨2, 0, none⟩))), (5, some (.pointer (some ⟨3, 0, none⟩))), (6, some (.int .i64 (p : Int))), (50, some (.bool (hitS es o)))], wd [(0, some (.cells [.slice (some ⟨1, 0, none⟩) es.length openCap] 69 (0, 0))), (1, some (.cells (rowOb es) 72 (0, 0))), (2, some (.cells (bvs (List.replicate 32 0)) 24 (0, 0))), (3, some (.cells (bvs (sha o)) 24 (0, 0)))] 4 [] 0, []⟩ ?hdb ?qdb
  case hdb =>
    by_cases hlt : p < es.length
    · have hat := rowOb_at hlt
      have hh : hitS es o = decide (es[p].1 = shaB o) := by unfold hitS; rw [← hp, List.getElem?_eq_getElem hlt]
      obtain ⟨x, hx⟩ : ∃ x, x = es[p] := ⟨_, rfl⟩
      rw [← hx] at hat hh
      have hxl : (bvs x.1.1).length = 32 := by rw [length_bvs, x.1.2]
      have hxl2 := x.1.2
      have hbh := fun a b => (bin_hash (x := a) (y := b) hashT x.1.2 (sha_length o)).1
      have hbq : (x.1.1 == sha o) = decide (x.1 = shaB o) := hb_beq x.1 (shaB o)
      rw [hh]
      refine ⟨?rsb, ?sxb, ?hxb, ?kxb, ?lxb⟩
      case hxb =>
        simp (disch := first | decide | omega | (simp only [List.length_cons, List.length_nil, List.length_append, length_bvs, List.length_take, List.length_drop]; omega)) only [traceX.eq_1, traceX.eq_2, trc1.eq_1, trcK.eq_1, trcK.eq_2, traceD_nil, traceD_t, traceD_f, holeK.eq_1, holeK.eq_2, iad_sl, hln, hxl, hat, hbh, hbq, go_sem, Nat.reduceAdd, Nat.reduceMul, Nat.reduceSub]
        all_goals with_reducible rfl
      case kxb => kernel_rfl
      case lxb => exact chle_lit (by simp (disch := decide) [AllLk, lk_hit, lk_miss, lk_nil]) (by simp (disch := decide) [AllLk, lk_hit, lk_miss, lk_nil]) (by decide)
    · have hh : hitS es o = false := by unfold hitS; rw [← hp, List.getElem?_eq_none (by omega)]
      rw [hh]
      refine ⟨?rsc, ?sxc, ?hxc, ?kxc, ?lxc⟩
      case hxc =>
        simp (disch := first | decide | omega | (simp only [List.length_cons, List.length_nil, List.length_append, length_bvs, List.length_take, List.length_drop]; omega)) only [traceX.eq_1, traceX.eq_2, trc1.eq_1, trcK.eq_1, trcK.eq_2, traceD_nil, traceD_t, traceD_f, holeK.eq_1, holeK.eq_2, iad_sl, hln, go_sem, Nat.reduceAdd, Nat.reduceMul, Nat.reduceSub]
        all_goals with_reducible rfl
      case kxc => kernel_rfl
      case lxc => exact chle_lit (by simp (disch := decide) [AllLk, lk_hit, lk_miss, lk_nil]) (by simp (disch := decide) [AllLk, lk_hit, lk_miss, lk_nil]) (by decide)
  case qdb =>
  cases hh : hitS es o with
  | true =>
    refine xwp_ct ?h12 ?q12
    case h12 =>
      simp (disch := first | decide | omega | (simp only [List.length_cons, List.length_nil, List.length_append, length_bvs, List.length_take, List.length_drop]; omega)) only [go_sem, Nat.reduceAdd, Nat.reduceMul, Nat.reduceSub]
      all_goals with_reducible rfl
    case q12 =>
    refine xwp_seq (xwp_region (e := ?e13) (s' := ?s13) base5 ?h13 ?q13)
    case h13 =>
      simp (disch := first | decide | omega | (simp only [List.length_cons, List.length_nil, List.length_append, length_bvs, List.length_take, List.length_drop]; omega)) only [hln, List.drop_eq_nil_of_le, List.all_append, go_sem, Nat.reduceAdd, Nat.reduceMul, Nat.reduceSub]
      all_goals with_reducible rfl
    case q13 =>
    refine xwp_ret ?_
    refine ⟨_, ?e14, ?W14, rfl, ?h14, ?q14⟩
    case h14 =>
      simp (disch := first | decide | omega | (simp only [List.length_cons, List.length_nil, List.length_append, length_bvs, List.length_take, List.length_drop]; omega)) only [Tryz.results11, hln, List.drop_eq_nil_of_le, go_sem, Nat.reduceAdd, Nat.reduceMul, Nat.reduceSub]
      all_goals with_reducible rfl
    case q14 =>
    refine ⟨rfl, .inl ⟨rfl, ?_, ?_⟩⟩
    · simp (disch := first | decide | omega | (simp only [List.length_cons, List.length_nil, List.length_append, length_bvs, List.length_take, List.length_drop]; omega)) only [go_sem, Nat.reduceAdd, Nat.reduceMul, Nat.reduceSub]
    · simp (disch := first | decide | omega | (simp only [List.length_cons, List.length_nil, List.length_append, length_bvs, List.length_take, List.length_drop]; omega)) only [go_sem, Nat.reduceAdd, Nat.reduceMul, Nat.reduceSub]
  | false =>
    refine xwp_cf ?h15 ?q15
    case h15 =>
      simp (disch := first | decide | omega | (simp only [List.length_cons, List.length_nil, List.length_append, length_bvs, List.length_take, List.length_drop]; omega)) only [go_sem, Nat.reduceAdd, Nat.reduceMul, Nat.reduceSub]
      all_goals with_reducible rfl
    case q15 =>
    refine xwp_skip ?_
    have hput : insS es o = es.take p ++ (shaB o, o) :: es.drop p := by unfold insS; rw [← hp]
    have hrt := rowOb_take es p
    have hrd := rowOb_drop es p
    have hob : obC (shaB o, o) = bvs (sha o) ++ [.string (str o)] := rfl
    have hro : ∀ l : ObL, (rowOb l).all oneC = true := one_rowOb
    have hrl : ∀ l : ObL, (rowOb l).length = l.length * 33 := rowOb_length
    refine xwp_seq (xwp_region (e := ?e16) (s' := ?s16) base5 ?h16 ?q16)
    case h16 =>
      simp (disch := first | decide | omega | (simp only [List.length_cons, List.length_nil, List.length_append, length_bvs, List.length_take, List.length_drop]; omega)) only [go_sem, Nat.reduceAdd, Nat.reduceMul, Nat.reduceSub]
      all_goals with_reducible rfl
    case q16 =>
    have htk : List.take 32 (bvs (sha o) ++ [Value.string (str [])]) = bvs (sha o) := by rw [List.take_append, hln, List.take_of_length_le (by rw [hln]; exact Nat.le_refl _)]; simp
    have hat : hitS es o = false → insS es o = es.take p ++ (shaB o, o) :: es.drop p := fun _ => hput
    have hpos : 0 < es.length := List.length_pos_iff.2 hne
    obtain ⟨m, hm⟩ : ∃ m, m = es.take p ++ [(shaB o, o)] := ⟨_, rfl⟩
    have hml : m.length = p + 1 := by rw [hm, List.length_append, List.length_take]; simp only [List.length_cons, List.length_nil]; omega
    have hcat : rowOb (es.take p) ++ (bvs (sha o) ++ [.string (str o)]) = rowOb m := by rw [hm, ← rowOb_append]; rfl
    have htm : (rowOb m).take ((p + 1) * 33) = rowOb m := List.take_of_length_le (by rw [rowOb_length, hml]; exact Nat.le_refl _)
    have hoc : (p + 1).ble openCap = true := Nat.ble_eq_true_of_le (Nat.le_trans (show p + 1 ≤ 1000001 by omega) (by decide))
    have hins : insS es o = m ++ es.drop p := by rw [hput, hm]; simp
    have hlen : (insS es o).length = es.length + 1 := by rw [hins, List.length_append, hml, List.length_drop]; omega
    rcases Nat.eq_zero_or_pos p with h0 | h0
    · subst h0
      have ht33 : (rowOb m).take 33 = rowOb m := htm
      have hcat0 : bvs (sha o) ++ [.string (str o)] = rowOb m := by rw [← hcat]; rfl
      refine xwp_seq (xwp_region (e := ?e17) (s' := ?s17) base5 ?h17 ?q17)
      case h17 =>
        simp (disch := first | decide | omega | (simp only [List.length_cons, List.length_nil, List.length_append, length_bvs, List.length_take, List.length_drop]; omega)) only [Option.map_some, Option.map_none, isOpen0, List.length_drop, List.length_take, Nat.beq_refl, Nat.sub_zero, Nat.zero_mul, one_rowOb, rowOb_length, rowOb_take, rowOb_drop, List.all_append, one_bvs, one_str, go_sem, Nat.reduceAdd, Nat.reduceMul, Nat.reduceSub]
        all_goals with_reducible rfl
      case q17 =>
      refine xwp_seq (xwp_region (e := ?e18) (s' := ?s18) base5 ?h18 ?q18)
      case h18 =>
        simp (disch := first | decide | omega | (simp only [List.length_cons, List.length_nil, List.length_append, length_bvs, List.length_take, List.length_drop]; omega)) only [hln, htk, hcat0, ht33, hml, List.drop_eq_nil_of_le, Option.map_some, Option.map_none, isOpen0, List.length_drop, List.length_take, Nat.beq_refl, Nat.sub_zero, Nat.zero_mul, one_rowOb, rowOb_length, rowOb_take, rowOb_drop, List.all_append, one_bvs, one_str, go_sem, Nat.reduceAdd, Nat.reduceMul, Nat.reduceSub]
        all_goals with_reducible rfl
      case q18 =>
      refine xwp_seq (xwp_region (e := ?e19) (s' := ?s19) base5 ?h19 ?q19)
      case h19 =>
        simp (disch := first | decide | omega | (simp only [List.length_cons, List.length_nil, List.length_append, length_bvs, List.length_take, List.length_drop]; omega)) only [hln, htk, hcat0, ht33, hml, htm, List.drop_eq_nil_of_le, Option.map_some, Option.map_none, isOpen0, List.length_drop, List.length_take, Nat.beq_refl, Nat.sub_zero, Nat.zero_mul, one_rowOb, rowOb_length, rowOb_take, rowOb_drop, List.all_append, one_bvs, one_str, go_sem, Nat.reduceAdd, Nat.reduceMul, Nat.reduceSub]
        all_goals with_reducible rfl
      case q19 =>
      refine xwp_seq (xwp_region (e := ?e20) (s' := ?s20) base5 ?h20 ?q20)
      case h20 =>
        simp (disch := first | decide | omega | (simp only [List.length_cons, List.length_nil, List.length_append, length_bvs, List.length_take, List.length_drop]; omega)) only [hln, List.drop_eq_nil_of_le, Option.map_some, Option.map_none, isOpen0, List.length_drop, List.length_take, Nat.beq_refl, Nat.sub_zero, Nat.zero_mul, one_rowOb, rowOb_length, rowOb_take, rowOb_drop, List.all_append, one_bvs, one_str, go_sem, Nat.reduceAdd, Nat.reduceMul, Nat.reduceSub]
        all_goals with_reducible rfl
      case q20 =>
      refine xwp_ret ?_
      refine ⟨_, ?e21, ?W21, rfl, ?h21, ?q21⟩
      case h21 =>
        simp (disch := first | decide | omega | (simp only [List.length_cons, List.length_nil, List.length_append, length_bvs, List.length_take, List.length_drop]; omega)) only [Tryz.results11, hln, List.drop_eq_nil_of_le, go_sem, Nat.reduceAdd, Nat.reduceMul, Nat.reduceSub]
        all_goals with_reducible rfl
      case q21 =>
      refine ⟨rfl, .inr ⟨rfl, 6, by decide, ?_, ?_⟩⟩
      · rw [wd_get (by decide) (by decide)]
        simp (disch := first | decide | omega) only [lk_hit, lk_miss]
        rw [Nat.add_comm]
      · rw [wd_get (by decide) (by decide)]
        simp (disch := first | decide | omega) only [lk_hit, lk_miss]
        rw [rowOb_append, hins]; rfl
    · refine xwp_seq (xwp_region (e := ?e22) (s' := ?s22) base5 ?h22 ?q22)
      case h22 =>
        simp (disch := first | decide | omega | (simp only [List.length_cons, List.length_nil, List.length_append, length_bvs, List.length_take, List.length_drop]; omega)) only [Option.map_some, Option.map_none, isOpen0, List.length_drop, List.length_take, Nat.beq_refl, Nat.sub_zero, Nat.zero_mul, one_rowOb, rowOb_length, rowOb_take, rowOb_drop, List.all_append, one_bvs, one_str, go_sem, Nat.reduceAdd, Nat.reduceMul, Nat.reduceSub]
        all_goals with_reducible rfl
      case q22 =>
      by_cases hlt : p < es.length
      · refine xwp_seq (xwp_region (e := ?e23) (s' := ?s23) base5 ?h23 ?q23)
        case h23 =>
          simp (disch := first | decide | omega | (simp only [List.length_cons, List.length_nil, List.length_append, length_bvs, List.length_take, List.length_drop]; omega)) only [hln, htk, hcat, hml, List.drop_eq_nil_of_le, Option.map_some, Option.map_none, isOpen0, List.length_drop, List.length_take, Nat.beq_refl, Nat.sub_zero, Nat.zero_mul, one_rowOb, rowOb_length, rowOb_take, rowOb_drop, List.all_append, one_bvs, one_str, go_sem, Nat.reduceAdd, Nat.reduceMul, Nat.reduceSub]
          all_goals with_reducible rfl
        case q23 =>
        refine xwp_seq (xwp_region (e := ?e24) (s' := ?s24) base5 ?h24 ?q24)
        case h24 =>
          simp (disch := first | decide | omega | (simp only [List.length_cons, List.length_nil, List.length_append, length_bvs, List.length_take, List.length_drop]; omega)) only [hln, htk, hcat, hml, htm, List.drop_eq_nil_of_le, Option.map_some, Option.map_none, isOpen0, List.length_drop, List.length_take, Nat.beq_refl, Nat.sub_zero, Nat.zero_mul, one_rowOb, rowOb_length, rowOb_take, rowOb_drop, List.all_append, one_bvs, one_str, go_sem, Nat.reduceAdd, Nat.reduceMul, Nat.reduceSub]
          all_goals with_reducible rfl
        case q24 =>
        refine xwp_seq (xwp_region (e := ?e25) (s' := ?s25) base5 ?h25 ?q25)
        case h25 =>
          simp (disch := first | decide | omega | (simp only [List.length_cons, List.length_nil, List.length_append, length_bvs, List.length_take, List.length_drop]; omega)) only [hln, List.drop_eq_nil_of_le, Option.map_some, Option.map_none, isOpen0, List.length_drop, List.length_take, Nat.beq_refl, Nat.sub_zero, Nat.zero_mul, one_rowOb, rowOb_length, rowOb_take, rowOb_drop, List.all_append, one_bvs, one_str, go_sem, Nat.reduceAdd, Nat.reduceMul, Nat.reduceSub]
          all_goals with_reducible rfl
        case q25 =>
        refine xwp_ret ?_
        refine ⟨_, ?e26, ?W26, rfl, ?h26, ?q26⟩
        case h26 =>
          simp (disch := first | decide | omega | (simp only [List.length_cons, List.length_nil, List.length_append, length_bvs, List.length_take, List.length_drop]; omega)) only [Tryz.results11, hln, List.drop_eq_nil_of_le, go_sem, Nat.reduceAdd, Nat.reduceMul, Nat.reduceSub]
          all_goals with_reducible rfl
        case q26 =>
        refine ⟨rfl, .inr ⟨rfl, 7, by decide, ?_, ?_⟩⟩
        · rw [wd_get (by decide) (by decide)]
          simp (disch := first | decide | omega) only [lk_hit, lk_miss]
          rw [show p + 1 + (es.length - p) = es.length + 1 by omega]
        · rw [wd_get (by decide) (by decide)]
          simp (disch := first | decide | omega) only [lk_hit, lk_miss]
          rw [rowOb_append, hins]
      · have hpe : p = es.length := by omega
        have hsb : es.length - p = 0 := by omega
        have hcat2 : rowOb es ++ (bvs (sha o) ++ [.string (str o)]) = rowOb m := by rw [← hcat, hpe, List.take_length]
        refine xwp_seq (xwp_region (e := ?e27) (s' := ?s27) base5 ?h27 ?q27)
        case h27 =>
          simp (disch := first | decide | omega | (simp only [List.length_cons, List.length_nil, List.length_append, length_bvs, List.length_take, List.length_drop]; omega)) only [hln, htk, hcat2, hml, List.drop_eq_nil_of_le, Option.map_some, Option.map_none, isOpen0, List.length_drop, List.length_take, Nat.beq_refl, Nat.sub_zero, Nat.zero_mul, one_rowOb, rowOb_length, rowOb_take, rowOb_drop, List.all_append, one_bvs, one_str, go_sem, Nat.reduceAdd, Nat.reduceMul, Nat.reduceSub]
          all_goals with_reducible rfl
        case q27 =>
        refine xwp_seq (xwp_region (e := ?e28) (s' := ?s28) base5 ?h28 ?q28)
        case h28 =>
          simp (disch := first | decide | omega | (simp only [List.length_cons, List.length_nil, List.length_append, length_bvs, List.length_take, List.length_drop]; omega)) only [hln, htk, hsb, hml, hoc, List.drop_eq_nil_of_le, Option.map_some, Option.map_none, isOpen0, List.length_drop, List.length_take, Nat.beq_refl, Nat.sub_zero, Nat.zero_mul, one_rowOb, rowOb_length, rowOb_take, rowOb_drop, List.all_append, one_bvs, one_str, go_sem, Nat.reduceAdd, Nat.reduceMul, Nat.reduceSub]
          all_goals with_reducible rfl
        case q28 =>
        refine xwp_seq (xwp_region (e := ?e29) (s' := ?s29) base5 ?h29 ?q29)
        case h29 =>
          simp (disch := first | decide | omega | (simp only [List.length_cons, List.length_nil, List.length_append, length_bvs, List.length_take, List.length_drop]; omega)) only [hln, List.drop_eq_nil_of_le, Option.map_some, Option.map_none, isOpen0, List.length_drop, List.length_take, Nat.beq_refl, Nat.sub_zero, Nat.zero_mul, one_rowOb, rowOb_length, rowOb_take, rowOb_drop, List.all_append, one_bvs, one_str, go_sem, Nat.reduceAdd, Nat.reduceMul, Nat.reduceSub]
          all_goals with_reducible rfl
        case q29 =>
        refine xwp_ret ?_
        refine ⟨_, ?e30, ?W30, rfl, ?h30, ?q30⟩
        case h30 =>
          simp (disch := first | decide | omega | (simp only [List.length_cons, List.length_nil, List.length_append, length_bvs, List.length_take, List.length_drop]; omega)) only [Tryz.results11, hln, List.drop_eq_nil_of_le, go_sem, Nat.reduceAdd, Nat.reduceMul, Nat.reduceSub]
          all_goals with_reducible rfl
        case q30 =>
        refine ⟨rfl, .inr ⟨rfl, 6, by decide, ?_, ?_⟩⟩
        · rw [wd_get (by decide) (by decide)]
          simp (disch := first | decide | omega) only [lk_hit, lk_miss]
          rw [hpe]
        · rw [wd_get (by decide) (by decide)]
          simp (disch := first | decide | omega) only [lk_hit, lk_miss]
          rw [hins, List.drop_of_length_le (by omega), List.append_nil]
theorem rput0 (o : List UInt8) (ho : o.length ≤ 140737488351232) : Local Tryz.prog 11 [.pointer (some ⟨0, 0, none⟩), .string (str o)]
    (wd [(0, some (.cells [.slice none 0 0] 69 (0, 0)))] 1 [] 0)
    fun e W' => e = .ret (hbV (shaB o)) ∧ ∃ b', 1 ≤ b' ∧ W'.get 0 = some (.cells [.slice (some ⟨b', 0, none⟩) 1 openCap] 69 (0, 0)) ∧ W'.get b' = some (.cells (rowOb [(shaB o, o)]) 72 (0, 0)) := by
  have hln : (bvs (sha o)).length = 32 := by rw [length_bvs, sha_length]
  have hkv : Value.agg (bvs (sha o)).toArray = hbV (shaB o) := rfl
  have hsl : (sha o).length = 32 := sha_length o
  have htk : List.take 32 (bvs (sha o) ++ [Value.string (str [])]) = bvs (sha o) := by rw [List.take_append, hln, List.take_of_length_le (by rw [hln]; exact Nat.le_refl _)]; simp
  obtain ⟨m, hm⟩ : ∃ m : ObL, m = [(shaB o, o)] := ⟨_, rfl⟩
  have hml : m.length = 1 := by rw [hm]; rfl
  have hcat0 : bvs (sha o) ++ [.string (str o)] = rowOb m := by rw [hm]; show _ = (bvs (sha o) ++ [encS o]) ++ []; rw [List.append_nil]; rfl
  have ht33 : (rowOb m).take 33 = rowOb m := List.take_of_length_le (by rw [rowOb_length, hml]; exact Nat.le_refl _)
  refine lit_local base5 Tryz.func11 rfl (Nat.le_of_ble_eq_true rfl) ?_
  simp only [frOfL.eq_1, frOfL.eq_2, wd_next, Tryz.ntmps11, Nat.reduceAdd]
  refine xwp_seq (xwp_region (e := ?e31) (s' := ?s31) base5 ?h31 ?q31)
  case h31 =>
    simp (disch := first | decide | omega | (simp only [List.length_cons, List.length_nil, List.length_append, length_bvs, List.length_take, List.length_drop]; omega)) only [go_sem, Nat.reduceAdd, Nat.reduceMul, Nat.reduceSub]
    all_goals with_reducible rfl
  case q31 =>
  refine xwp_seq (xwp_region (e := ?e32) (s' := ?s32) base5 ?h32 ?q32)
  case h32 =>
    simp (disch := first | decide | omega | (simp only [List.length_cons, List.length_nil, List.length_append, length_bvs, List.length_take, List.length_drop]; omega)) only [T5, hSha_eq ho, List.drop_eq_nil_of_le, List.all_append, go_sem, Nat.reduceAdd, Nat.reduceMul, Nat.reduceSub]
    all_goals with_reducible rfl
  case q32 =>
  refine xwp_seq (xwp_region (e := ?e33) (s' := ?s33) base5 ?h33 ?q33)
  case h33 =>
    simp (disch := first | decide | omega | (simp only [List.length_cons, List.length_nil, List.length_append, length_bvs, List.length_take, List.length_drop]; omega)) only [go_sem, Nat.reduceAdd, Nat.reduceMul, Nat.reduceSub]
    all_goals with_reducible rfl
  case q33 =>
  refine xwp_seq_to ⟨frm [(0, some (.pointer (some ⟨0, 0, none⟩))), (1, some (.string (str o))), (4, some (.pointer (some ⟨1, 0, none⟩))), (5, some (.pointer (some ⟨2, 0, none⟩))), (6, some (.int .i64 ((0 : Nat) : Int)))], wd [(0, some (.cells [.slice none 0 0] 69 (0, 0))), (1, some (.cells (bvs (List.replicate 32 0)) 24 (0, 0))), (2, some (.cells (bvs (sha o)) 24 (0, 0)))] 3 [] 0, []⟩ (xwp_block ?lp) ?aft
  case lp =>
    refine xwp_le (s' := ⟨frm [(0, some (.pointer (some ⟨0, 0, none⟩))), (1, some (.string (str o))), (4, some (.pointer (some ⟨1, 0, none⟩))), (5, some (.pointer (some ⟨2, 0, none⟩))), (6, some (.int .i64 ((0 : Nat) : Int)))], wd [(0, some (.cells [.slice none 0 0] 69 (0, 0))), (1, some (.cells (bvs (List.replicate 32 0)) 24 (0, 0))), (2, some (.cells (bvs (sha o)) 24 (0, 0)))] 3 [] 0, []⟩) (chle_lit (by simp (disch := decide) [AllLk, lk_hit, lk_miss, lk_nil]) (allLk_cons (by decide) rfl (allLk_cons (by decide) rfl (allLk_cons (by decide) rfl trivial))) (by decide)) ?_
    refine xwp_loop (α := Unit) (fun _ => ⟨frm [(0, some (.pointer (some ⟨0, 0, none⟩))), (1, some (.string (str o))), (4, some (.pointer (some ⟨1, 0, none⟩))), (5, some (.pointer (some ⟨2, 0, none⟩))), (6, some (.int .i64 ((0 : Nat) : Int)))], wd [(0, some (.cells [.slice none 0 0] 69 (0, 0))), (1, some (.cells (bvs (List.replicate 32 0)) 24 (0, 0))), (2, some (.cells (bvs (sha o)) 24 (0, 0)))] 3 [] 0, []⟩) (fun _ => 0) ?_ ()
    intro _
    refine xwp_seq ?_
    refine xwp_seq (xwp_region (e := ?e34) (s' := ?s34) base5 ?h34 ?q34)
    case h34 =>
      simp (disch := first | decide | omega | (simp only [List.length_cons, List.length_nil, List.length_append, length_bvs, List.length_take, List.length_drop]; omega)) only [go_sem, Nat.reduceAdd, Nat.reduceMul, Nat.reduceSub]
      all_goals with_reducible rfl
    case q34 =>
    refine xwp_cf ?h35 ?q35
    case h35 =>
      simp (disch := first | decide | omega | (simp only [List.length_cons, List.length_nil, List.length_append, length_bvs, List.length_take, List.length_drop]; omega)) only [go_sem, Nat.reduceAdd, Nat.reduceMul, Nat.reduceSub]
      all_goals with_reducible rfl
    case q35 =>
    refine xwp_exit ?_
    refine ⟨rfl, ?_⟩
    exact chle_lit (by simp (disch := decide) [AllLk, lk_hit, lk_miss, lk_nil]) (by simp (disch := decide) [AllLk, lk_hit, lk_miss, lk_nil]) (by decide)
  case aft =>
  refine xwp_seq ?_
  refine xwp_drawn_to base5 ⟨frm [(0, some (.pointer (some ⟨0, 0, none⟩))), (1, some (.string (str o))), (4, some (.pointer (some ⟨1, 0, none⟩))), (5, some (.pointer (some ⟨2, 0, none⟩))), (6, some (.int .i64 ((0 : Nat) : Int))), (50, some (.bool false))], wd [(0, some (.cells [.slice none 0 0] 69 (0, 0))), (1, some (.cells (bvs (List.replicate 32 0)) 24 (0, 0))), (2, some (.cells (bvs (sha o)) 24 (0, 0)))] 3 [] 0, []⟩ ?hdc ?qdc
  case hdc =>
    refine ⟨?rsd, ?sxd, ?hxd, ?kxd, ?lxd⟩
    case hxd =>
      simp (disch := first | decide | omega | (simp only [List.length_cons, List.length_nil, List.length_append, length_bvs, List.length_take, List.length_drop]; omega)) only [traceX.eq_1, traceX.eq_2, trc1.eq_1, trcK.eq_1, trcK.eq_2, traceD_nil, traceD_t, traceD_f, holeK.eq_1, holeK.eq_2, iad_sl, hln, go_sem, Nat.reduceAdd, Nat.reduceMul, Nat.reduceSub]
      all_goals with_reducible rfl
    case kxd => kernel_rfl
    case lxd => exact chle_lit (by simp (disch := decide) [AllLk, lk_hit, lk_miss, lk_nil]) (by simp (disch := decide) [AllLk, lk_hit, lk_miss, lk_nil]) (by decide)
  case qdc =>
  refine xwp_cf ?h36 ?q36
  case h36 =>
    simp (disch := first | decide | omega | (simp only [List.length_cons, List.length_nil, List.length_append, length_bvs, List.length_take, List.length_drop]; omega)) only [go_sem, Nat.reduceAdd, Nat.reduceMul, Nat.reduceSub]
    all_goals with_reducible rfl
  case q36 =>
  refine xwp_skip ?_
  refine xwp_seq (xwp_region (e := ?e37) (s' := ?s37) base5 ?h37 ?q37)
  case h37 =>
    simp (disch := first | decide | omega | (simp only [List.length_cons, List.length_nil, List.length_append, length_bvs, List.length_take, List.length_drop]; omega)) only [go_sem, Nat.reduceAdd, Nat.reduceMul, Nat.reduceSub]
    all_goals with_reducible rfl
  case q37 =>
  refine xwp_seq (xwp_region (e := ?e38) (s' := ?s38) base5 ?h38 ?q38)
  case h38 =>
    simp (disch := first | decide | omega | (simp only [List.length_cons, List.length_nil, List.length_append, length_bvs, List.length_take, List.length_drop]; omega)) only [Option.map_some, Option.map_none, isOpen0, List.length_drop, List.length_take, Nat.beq_refl, Nat.sub_zero, Nat.zero_mul, one_rowOb, rowOb_length, rowOb_take, rowOb_drop, List.all_append, one_bvs, one_str, go_sem, Nat.reduceAdd, Nat.reduceMul, Nat.reduceSub]
    all_goals with_reducible rfl
  case q38 =>
  refine xwp_seq (xwp_region (e := ?e39) (s' := ?s39) base5 ?h39 ?q39)
  case h39 =>
    simp (disch := first | decide | omega | (simp only [List.length_cons, List.length_nil, List.length_append, length_bvs, List.length_take, List.length_drop]; omega)) only [hln, htk, hcat0, ht33, hml, List.drop_eq_nil_of_le, Option.map_some, Option.map_none, isOpen0, List.length_drop, List.length_take, Nat.beq_refl, Nat.sub_zero, Nat.zero_mul, one_rowOb, rowOb_length, rowOb_take, rowOb_drop, List.all_append, one_bvs, one_str, go_sem, Nat.reduceAdd, Nat.reduceMul, Nat.reduceSub]
    all_goals with_reducible rfl
  case q39 =>
  refine xwp_seq (xwp_region (e := ?e40) (s' := ?s40) base5 ?h40 ?q40)
  case h40 =>
    simp (disch := first | decide | omega | (simp only [List.length_cons, List.length_nil, List.length_append, length_bvs, List.length_take, List.length_drop]; omega)) only [hln, htk, hcat0, ht33, hml, List.drop_eq_nil_of_le, Option.map_some, Option.map_none, isOpen0, List.length_drop, List.length_take, Nat.beq_refl, Nat.sub_zero, Nat.zero_mul, one_rowOb, rowOb_length, rowOb_take, rowOb_drop, List.all_append, one_bvs, one_str, go_sem, Nat.reduceAdd, Nat.reduceMul, Nat.reduceSub]
    all_goals with_reducible rfl
  case q40 =>
  refine xwp_seq (xwp_region (e := ?e41) (s' := ?s41) base5 ?h41 ?q41)
  case h41 =>
    simp (disch := first | decide | omega | (simp only [List.length_cons, List.length_nil, List.length_append, length_bvs, List.length_take, List.length_drop]; omega)) only [hln, List.drop_eq_nil_of_le, Option.map_some, Option.map_none, isOpen0, List.length_drop, List.length_take, Nat.beq_refl, Nat.sub_zero, Nat.zero_mul, one_rowOb, rowOb_length, rowOb_take, rowOb_drop, List.all_append, one_bvs, one_str, go_sem, Nat.reduceAdd, Nat.reduceMul, Nat.reduceSub]
    all_goals with_reducible rfl
  case q41 =>
  refine xwp_ret ?_
  refine ⟨_, ?e42, ?W42, rfl, ?h42, ?q42⟩
  case h42 =>
    simp (disch := first | decide | omega | (simp only [List.length_cons, List.length_nil, List.length_append, length_bvs, List.length_take, List.length_drop]; omega)) only [Tryz.results11, hln, List.drop_eq_nil_of_le, go_sem, Nat.reduceAdd, Nat.reduceMul, Nat.reduceSub]
    all_goals with_reducible rfl
  case q42 =>
  refine ⟨rfl, 4, by decide, ?_, ?_⟩
  · rw [wd_get (by decide) (by decide)]
    simp (disch := first | decide | omega) only [lk_hit, lk_miss]
  · rw [wd_get (by decide) (by decide), ← hm]
    simp (disch := first | decide | omega) only [lk_hit, lk_miss]
theorem rputLocal (es : ObL) (o : List UInt8) (ho : o.length ≤ 140737488351232) (hn : es.length ≤ 1000000) : Local Tryz.prog 11 [.pointer (some ⟨0, 0, none⟩), .string (str o)] (lw rfE es) fun e W' => e = .ret (hbV (shaB o)) ∧ EndP rfE es (putR es o) W' (rfMd es o) := by
  cases es with
  | nil =>
    refine Local.mono (rput0 o ho) fun e W' ⟨h1, b', h2, h3, h4⟩ => ⟨h1, ?_⟩
    show ∃ b', _
    exact ⟨b', by rw [lw_next]; exact h2, h3, _, rfl, h4⟩
  | cons x l =>
    have hne : (x :: l) ≠ [] := by simp
    refine Local.mono (rputNe (x :: l) o ho hn hne) fun e W' ⟨h1, h2⟩ => ⟨h1, ?_⟩
    rcases h2 with ⟨hh, h3, h4⟩ | ⟨hh, b', h3, h4, h5⟩
    · unfold rfMd putR
      rw [hh]
      exact ⟨h3, fun o2 h => ⟨by simp [rfE, growO], by cases h; exact h4⟩⟩
    · unfold rfMd putR
      rw [hh]
      have hi : (insS (x :: l) o).length = (x :: l).length + 1 := by unfold insS; rw [List.length_append, List.length_cons, List.length_take, List.length_drop]; have := posS_le (shaB o) (x :: l); omega
      have hne2 : insS (x :: l) o ≠ [] := by intro e; rw [e] at hi; simp at hi
      refine ⟨b', by rw [lw_next]; exact h3, ?_, .cells (rowOb (insS (x :: l) o)) 72 (0, 0), rfSat_ne hne2, h5⟩
      show _ = some (rfMain (insS (x :: l) o) b')
      rw [rfMain_ne hne2, hi]
      exact h4
theorem okRPut : HookOk Tryz.prog 11 (prH rfE pRPut) := pr_ok (enters_of (by kernel_rfl)) (fun xs a v a' md h => by
    obtain ⟨o, rfl, _, _, rfl, _, _⟩ := pRPut_inv h
    exact ⟨bares_cons (bare_flat 8 rfl) bares_nil, bares_hb _⟩) (fun xs a v a' md h => by
    obtain ⟨o, rfl, ho, hn, rfl, rfl, rfl⟩ := pRPut_inv h
    exact rputLocal a o ho hn)
end Go.Proofs.YthlkgmdkabelpaaGreat.X
namespace Go.Proofs.YthlkgmdkabelpaaGreat.X
open Go Go.RowKit
theorem getB_at {k : HB} : ∀ {l : ObL} {i : Nat} (hi : i < l.length), (∀ j (q : j < l.length), j < i → l[j].1 ≠ k) → l[i].1 = k → getB k l = some l[i].2
  | x :: l, 0, _, _, h => by
    have h : x.1 = k := h
    unfold getB
    rw [if_pos h.symm]
    rfl
  | x :: l, i + 1, hi, h1, h2 => by
    have h0 := h1 0 (by rw [List.length_cons]; omega) (by omega)
    unfold getB
    rw [if_neg (fun e => h0 e.symm)]
    exact getB_at (l := l) (i := i) (by rw [List.length_cons] at hi; omega) (fun j q hj => h1 (j + 1) (by rw [List.length_cons]; omega) (by omega)) h2
theorem getB_off {k : HB} : ∀ {l : ObL}, (∀ j (q : j < l.length), l[j].1 ≠ k) → getB k l = none
  | [], _ => rfl
  | x :: l, h => by
    have h0 := h 0 (by rw [List.length_cons]; omega)
    unfold getB
    rw [if_neg (fun e => h0 e.symm)]
    exact getB_off fun j q => h (j + 1) (by rw [List.length_cons]; omega)
structure LpG (es : ObL) (k : HB) where
  i : Nat
  hi : i ≤ es.length
  hl : ∀ j (q : j < es.length), j < i → es[j].1 ≠ k
theorem rgetNe (es : ObL) (k : HB) (hn : es.length ≤ 1000000) (hne : es ≠ []) : Local Tryz.prog 13 [.pointer (some ⟨0, 0, none⟩), .agg (bvs k.1).toArray]
    (wd [(0, some (.cells [.slice (some ⟨1, 0, none⟩) es.length openCap] 69 (0, 0))), (1, some (.cells (rowOb es) 72 (0, 0)))] 2 [] 0)
    fun e W' => e = .ret (.tuple #[((getB k es).map encS).getD (.string (str [])), .bool (getB k es).isSome]) ∧ W'.get 0 = some (.cells [.slice (some ⟨1, 0, none⟩) es.length openCap] 69 (0, 0)) ∧ W'.get 1 = some (.cells (rowOb es) 72 (0, 0)) := by
  have hln : (bvs k.1).length = 32 := by rw [length_bvs, k.2]
  have hkl := k.2
  have hlr := rowOb_length es
  refine lit_local base0 Tryz.func13 rfl (Nat.le_of_ble_eq_true rfl) ?_
  simp only [frOfL.eq_1, frOfL.eq_2, wd_next, Tryz.ntmps13, Nat.reduceAdd]
  refine xwp_seq (xwp_region (e := ?e1) (s' := ?s1) base0 ?h1 ?q1)
  case h1 =>
    simp (disch := first | decide | omega | (simp only [List.length_cons, List.length_nil, List.length_append, length_bvs, List.length_take, List.length_drop]; omega)) only [hln, go_sem, Nat.reduceAdd, Nat.reduceMul, Nat.reduceSub]
    all_goals with_reducible rfl
  case q1 =>
  refine xwp_seq ?_
  refine xwp_seq (xwp_region (e := ?e2) (s' := ?s2) base0 ?h2 ?q2)
  case h2 =>
    simp (disch := first | decide | omega | (simp only [List.length_cons, List.length_nil, List.length_append, length_bvs, List.length_take, List.length_drop]; omega)) only [go_sem, Nat.reduceAdd, Nat.reduceMul, Nat.reduceSub]
    all_goals with_reducible rfl
  case q2 =>
  refine xwp_block ?_
  refine xwp_le (s' := ⟨frm [(0, some (.pointer (some ⟨0, 0, none⟩))), (3, some (.pointer (some ⟨2, 0, none⟩))), (6, some (.int .i64 ((0 : Nat) : Int)))], wd [(0, some (.cells [.slice (some ⟨1, 0, none⟩) es.length openCap] 69 (0, 0))), (1, some (.cells (rowOb es) 72 (0, 0))), (2, some (.cells (bvs k.1) 24 (0, 0)))] 3 [] 0, []⟩) (chle_lit (by simp (disch := decide) [AllLk, lk_hit, lk_miss, lk_nil]) (by simp (disch := decide) [AllLk, lk_hit, lk_miss, lk_nil]) (by decide)) ?_
  refine xwp_loop (α := LpG es k) (fun y => ⟨frm [(0, some (.pointer (some ⟨0, 0, none⟩))), (3, some (.pointer (some ⟨2, 0, none⟩))), (6, some (.int .i64 (y.i : Int)))], wd [(0, some (.cells [.slice (some ⟨1, 0, none⟩) es.length openCap] 69 (0, 0))), (1, some (.cells (rowOb es) 72 (0, 0))), (2, some (.cells (bvs k.1) 24 (0, 0)))] 3 [] 0, []⟩) (fun y => es.length - y.i) ?_ ⟨0, Nat.zero_le _, fun j q h => absurd h (Nat.not_lt_zero j)⟩
  intro ⟨i, hi, hl⟩
  simp only
  by_cases hlt : i < es.length
  · have hat := rowOb_at hlt
    have htx := rowOb_text hlt
    have hfound := fun h => getB_at (k := k) hlt hl h
    obtain ⟨x, hx⟩ : ∃ x, x = es[i] := ⟨_, rfl⟩
    rw [← hx] at hat htx hfound
    have hxl2 := x.1.2
    have hbh := fun a b => (bin_hash (x := a) (y := b) hashT x.1.2 k.2).1
    have hbq : (x.1.1 == k.1) = decide (x.1 = k) := hb_beq x.1 k
    refine xwp_seq ?_
    refine xwp_seq (xwp_region (e := ?e3) (s' := ?s3) base0 ?h3 ?q3)
    case h3 =>
      simp (disch := first | decide | omega | (simp only [List.length_cons, List.length_nil, List.length_append, length_bvs, List.length_take, List.length_drop]; omega)) only [go_sem, Nat.reduceAdd, Nat.reduceMul, Nat.reduceSub]
      all_goals with_reducible rfl
    case q3 =>
    refine xwp_ct ?h4 ?q4
    case h4 =>
      simp (disch := first | decide | omega | (simp only [List.length_cons, List.length_nil, List.length_append, length_bvs, List.length_take, List.length_drop]; omega)) only [go_sem, Nat.reduceAdd, Nat.reduceMul, Nat.reduceSub]
      all_goals with_reducible rfl
    case q4 =>
    refine xwp_skip ?_
    refine xwp_seq (xwp_block ?_)
    refine xwp_drawn_to base0 ⟨frm [(0, some (.pointer (some ⟨0, 0, none⟩))), (3, some (.pointer (some ⟨2, 0, none⟩))), (6, some (.int .i64 (i : Int))), (25, some (.bool (decide (x.1 = k))))], wd [(0, some (.cells [.slice (some ⟨1, 0, none⟩) es.length openCap] 69 (0, 0))), (1, some (.cells (rowOb es) 72 (0, 0))), (2, some (.cells (bvs k.1) 24 (0, 0)))] 3 [] 0, []⟩ ?hda ?qda
    case hda =>
      refine ⟨?rsa, ?sxa, ?hxa, ?kxa, ?lxa⟩
      case hxa =>
        simp (disch := first | decide | omega | (simp only [List.length_cons, List.length_nil, List.length_append, length_bvs, List.length_take, List.length_drop]; omega)) only [traceX.eq_1, traceX.eq_2, trc1.eq_1, trcK.eq_1, trcK.eq_2, traceD_nil, traceD_t, traceD_f, holeK.eq_1, holeK.eq_2, iad_sl, hln, hat, hbh, hbq, go_sem, Nat.reduceAdd, Nat.reduceMul, Nat.reduceSub]
        all_goals with_reducible rfl
      case kxa => kernel_rfl
      case lxa => exact chle_lit (by simp (disch := decide) [AllLk, lk_hit, lk_miss, lk_nil]) (by simp (disch := decide) [AllLk, lk_hit, lk_miss, lk_nil]) (by decide)
    case qda =>
    by_cases hk : x.1 = k
    · rw [decide_eq_true hk]
      refine xwp_ct ?h5 ?q5
      case h5 =>
        simp (disch := first | decide | omega | (simp only [List.length_cons, List.length_nil, List.length_append, length_bvs, List.length_take, List.length_drop]; omega)) only [go_sem, Nat.reduceAdd, Nat.reduceMul, Nat.reduceSub]
        all_goals with_reducible rfl
      case q5 =>
      refine xwp_seq (xwp_region (e := ?e6) (s' := ?s6) base0 ?h6 ?q6)
      case h6 =>
        simp (disch := first | decide | omega | (simp only [List.length_cons, List.length_nil, List.length_append, length_bvs, List.length_take, List.length_drop]; omega)) only [iad_sl, htx, encS, go_sem, Nat.reduceAdd, Nat.reduceMul, Nat.reduceSub]
        all_goals with_reducible rfl
      case q6 =>
      refine xwp_ret ?_
      refine ⟨_, ?e7, ?W7, rfl, ?h7, ?q7⟩
      case h7 =>
        simp (disch := first | decide | omega | (simp only [List.length_cons, List.length_nil, List.length_append, length_bvs, List.length_take, List.length_drop]; omega)) only [Tryz.results13, go_sem, Nat.reduceAdd, Nat.reduceMul, Nat.reduceSub]
        all_goals with_reducible rfl
      case q7 =>
      rw [hfound hk]
      refine ⟨rfl, ?_, ?_⟩
      · simp (disch := first | decide | omega | (simp only [List.length_cons, List.length_nil, List.length_append, length_bvs, List.length_take, List.length_drop]; omega)) only [go_sem, Nat.reduceAdd, Nat.reduceMul, Nat.reduceSub]
      · simp (disch := first | decide | omega | (simp only [List.length_cons, List.length_nil, List.length_append, length_bvs, List.length_take, List.length_drop]; omega)) only [go_sem, Nat.reduceAdd, Nat.reduceMul, Nat.reduceSub]
    · rw [decide_eq_false hk]
      refine xwp_cf ?h8 ?q8
      case h8 =>
        simp (disch := first | decide | omega | (simp only [List.length_cons, List.length_nil, List.length_append, length_bvs, List.length_take, List.length_drop]; omega)) only [go_sem, Nat.reduceAdd, Nat.reduceMul, Nat.reduceSub]
        all_goals with_reducible rfl
      case q8 =>
      refine xwp_skip ?_
      show XWp _ _ _ _ _ _
      refine xwp_region (e := ?e9) (s' := ?s9) base0 ?h9 ?q9
      case h9 =>
        simp (disch := first | decide | omega | (simp only [List.length_cons, List.length_nil, List.length_append, length_bvs, List.length_take, List.length_drop]; omega)) only [go_sem, Nat.reduceAdd, Nat.reduceMul, Nat.reduceSub]
        all_goals with_reducible rfl
      case q9 =>
      refine ⟨⟨i + 1, hlt, fun j q h => ?_⟩, by simp only; omega, ?_⟩
      · by_cases hj : j = i
        · subst hj; rw [← hx]; exact hk
        · exact hl j q (by omega)
      · exact chle_lit (by simp (disch := decide) [AllLk, lk_hit, lk_miss, lk_nil]) (by simp (disch := decide) [AllLk, lk_hit, lk_miss, lk_nil]) (by decide)
  · refine xwp_seq ?_
    refine xwp_seq (xwp_region (e := ?e10) (s' := ?s10) base0 ?h10 ?q10)
    case h10 =>
      simp (disch := first | decide | omega | (simp only [List.length_cons, List.length_nil, List.length_append, length_bvs, List.length_take, List.length_drop]; omega)) only [go_sem, Nat.reduceAdd, Nat.reduceMul, Nat.reduceSub]
      all_goals with_reducible rfl
    case q10 =>
    refine xwp_cf ?h11 ?q11
    case h11 =>
      simp (disch := first | decide | omega | (simp only [List.length_cons, List.length_nil, List.length_append, length_bvs, List.length_take, List.length_drop]; omega)) only [go_sem, Nat.reduceAdd, Nat.reduceMul, Nat.reduceSub]
      all_goals with_reducible rfl
    case q11 =>
    refine xwp_exit ?_
    show XWp _ _ _ _ _ _
    refine xwp_seq (xwp_region (e := ?e12) (s' := ?s12) base0 ?h12 ?q12)
    case h12 =>
      simp (disch := first | decide | omega | (simp only [List.length_cons, List.length_nil, List.length_append, length_bvs, List.length_take, List.length_drop]; omega)) only [go_sem, Nat.reduceAdd, Nat.reduceMul, Nat.reduceSub]
      all_goals with_reducible rfl
    case q12 =>
    refine xwp_ret ?_
    refine ⟨_, ?e13, ?W13, rfl, ?h13, ?q13⟩
    case h13 =>
      simp (disch := first | decide | omega | (simp only [List.length_cons, List.length_nil, List.length_append, length_bvs, List.length_take, List.length_drop]; omega)) only [Tryz.results13, go_sem, Nat.reduceAdd, Nat.reduceMul, Nat.reduceSub]
      all_goals with_reducible rfl
    case q13 =>
    rw [getB_off fun j q => hl j q (by omega)]
    refine ⟨rfl, ?_, ?_⟩
    · simp (disch := first | decide | omega | (simp only [List.length_cons, List.length_nil, List.length_append, length_bvs, List.length_take, List.length_drop]; omega)) only [go_sem, Nat.reduceAdd, Nat.reduceMul, Nat.reduceSub]
    · simp (disch := first | decide | omega | (simp only [List.length_cons, List.length_nil, List.length_append, length_bvs, List.length_take, List.length_drop]; omega)) only [go_sem, Nat.reduceAdd, Nat.reduceMul, Nat.reduceSub]
theorem rget0 (k : HB) : Local Tryz.prog 13 [.pointer (some ⟨0, 0, none⟩), .agg (bvs k.1).toArray]
    (wd [(0, some (.cells [.slice none 0 0] 69 (0, 0)))] 1 [] 0)
    fun e W' => e = .ret (.tuple #[.string (str []), .bool false]) ∧ W'.get 0 = some (.cells [.slice none 0 0] 69 (0, 0)) := by
  have hln : (bvs k.1).length = 32 := by rw [length_bvs, k.2]
  have hkl := k.2
  refine lit_local base0 Tryz.func13 rfl (Nat.le_of_ble_eq_true rfl) ?_
  simp only [frOfL.eq_1, frOfL.eq_2, wd_next, Tryz.ntmps13, Nat.reduceAdd]
  refine xwp_seq (xwp_region (e := ?e14) (s' := ?s14) base0 ?h14 ?q14)
  case h14 =>
    simp (disch := first | decide | omega | (simp only [List.length_cons, List.length_nil, List.length_append, length_bvs, List.length_take, List.length_drop]; omega)) only [hln, go_sem, Nat.reduceAdd, Nat.reduceMul, Nat.reduceSub]
    all_goals with_reducible rfl
  case q14 =>
  refine xwp_seq ?_
  refine xwp_seq (xwp_region (e := ?e15) (s' := ?s15) base0 ?h15 ?q15)
  case h15 =>
    simp (disch := first | decide | omega | (simp only [List.length_cons, List.length_nil, List.length_append, length_bvs, List.length_take, List.length_drop]; omega)) only [go_sem, Nat.reduceAdd, Nat.reduceMul, Nat.reduceSub]
    all_goals with_reducible rfl
  case q15 =>
  refine xwp_block ?_
  refine xwp_le (s' := ⟨frm [(0, some (.pointer (some ⟨0, 0, none⟩))), (6, some (.int .i64 ((0 : Nat) : Int)))], wd [(0, some (.cells [.slice none 0 0] 69 (0, 0)))] 2 [] 0, []⟩) (chle_lit (by simp (disch := decide) [AllLk, lk_hit, lk_miss, lk_nil]) (by simp (disch := decide) [AllLk, lk_hit, lk_miss, lk_nil]) (by decide)) ?_
  refine xwp_loop (α := Unit) (fun _ => ⟨frm [(0, some (.pointer (some ⟨0, 0, none⟩))), (6, some (.int .i64 ((0 : Nat) : Int)))], wd [(0, some (.cells [.slice none 0 0] 69 (0, 0)))] 2 [] 0, []⟩) (fun _ => 0) ?_ ()
  intro _
  refine xwp_seq ?_
  refine xwp_seq (xwp_region (e := ?e16) (s' := ?s16) base0 ?h16 ?q16)
  case h16 =>
    simp (disch := first | decide | omega | (simp only [List.length_cons, List.length_nil, List.length_append, length_bvs, List.length_take, List.length_drop]; omega)) only [go_sem, Nat.reduceAdd, Nat.reduceMul, Nat.reduceSub]
    all_goals with_reducible rfl
  case q16 =>
  refine xwp_cf ?h17 ?q17
  case h17 =>
    simp (disch := first | decide | omega | (simp only [List.length_cons, List.length_nil, List.length_append, length_bvs, List.length_take, List.length_drop]; omega)) only [go_sem, Nat.reduceAdd, Nat.reduceMul, Nat.reduceSub]
    all_goals with_reducible rfl
  case q17 =>
  refine xwp_exit ?_
  show XWp _ _ _ _ _ _
  refine xwp_seq (xwp_region (e := ?e18) (s' := ?s18) base0 ?h18 ?q18)
  case h18 =>
    simp (disch := first | decide | omega | (simp only [List.length_cons, List.length_nil, List.length_append, length_bvs, List.length_take, List.length_drop]; omega)) only [go_sem, Nat.reduceAdd, Nat.reduceMul, Nat.reduceSub]
    all_goals with_reducible rfl
  case q18 =>
  refine xwp_ret ?_
  refine ⟨_, ?e19, ?W19, rfl, ?h19, ?q19⟩
  case h19 =>
    simp (disch := first | decide | omega | (simp only [List.length_cons, List.length_nil, List.length_append, length_bvs, List.length_take, List.length_drop]; omega)) only [Tryz.results13, go_sem, Nat.reduceAdd, Nat.reduceMul, Nat.reduceSub]
    all_goals with_reducible rfl
  case q19 =>
  refine ⟨rfl, ?_⟩
  simp (disch := first | decide | omega | (simp only [List.length_cons, List.length_nil, List.length_append, length_bvs, List.length_take, List.length_drop]; omega)) only [go_sem, Nat.reduceAdd, Nat.reduceMul, Nat.reduceSub]
open Classical in
noncomputable def pRGet : PP ObL := fun xs es => if es.length ≤ 1000000 then pGet xs es else none
theorem pRGet_eq {es : ObL} {k : HB} (hn : es.length ≤ 1000000) : pRGet [hbV k] es = some (.tuple #[((getB k es).map encS).getD (.string (str [])), .bool (getB k es).isSome], es, .rd) := by
  unfold pRGet
  rw [if_pos hn]
  exact pGet_eq
theorem okRGet : HookOk Tryz.prog 13 (prH rfE pRGet) := by
  have inv : ∀ {xs : List Value} {es es' : ObL} {v : Value} {md : Md}, pRGet xs es = some (v, es', md) → es.length ≤ 1000000 ∧ pGet xs es = some (v, es', md) := fun {xs es es' v md} h => by
    unfold pRGet at h
    split at h
    · exact ⟨by assumption, h⟩
    · cases h
  refine pr_ok (enters_of (by kernel_rfl)) (fun xs a v a' md h => ?_) (fun xs a v a' md h => ?_)
  · obtain ⟨k, rfl, rfl, _, _⟩ := pGet_inv (inv h).2
    exact ⟨bares_cons (bares_hb _) bares_nil, bare_got⟩
  · obtain ⟨hn, h⟩ := inv h
    obtain ⟨k, rfl, rfl, rfl, rfl⟩ := pGet_inv h
    cases a' with
    | nil => exact Local.mono (rget0 k) fun e W' ⟨h1, h2⟩ => ⟨h1, h2, fun o h => (by cases h)⟩
    | cons x l => exact Local.mono (rgetNe (x :: l) k hn (by simp)) fun e W' ⟨h1, h2, h3⟩ => ⟨h1, h2, fun o h => by cases h; exact h3⟩
end Go.Proofs.YthlkgmdkabelpaaGreat.X
namespace Go.Proofs.YthlkgmdkabelpaaGreat.X
open Go Go.RowKit
theorem lenB_gslV {W : XW} {e : TypeId} {c : List Value} {k : Nat} : lenB W (gslV c k) (some (.slice e)) = some (.val (some (.int .i64 (k : Int)))) := by cases k <;> rfl
theorem iad_gslV {P : Program} {e : TypeId} {c : List Value} {k i : Nat} {j : IntKind} (h : i < k) : iadX P (some (.slice e)) (some (gslV c k)) (some (.int j ((i : Nat) : Int))) = iadZ c i k (sz P e) := by
  cases k with
  | zero => omega
  | succ k => rfl
theorem load_FP {P : Program} {W : XW} {t : TypeId} {c : List Value} : loadX P W t (FP c) = cut P t c 0 := rfl
theorem row_at {α : Type} {g : α → List Value} {m : Nat} : ∀ {l : List α} (hl : ∀ x ∈ l, (g x).length = m) {i : Nat} (h : i < l.length), ((l.flatMap g).drop (i * m)).take m = g l[i]
  | [], _, i, h => absurd h (Nat.not_lt_zero i)
  | a :: l, hl, 0, h => by
    rw [List.flatMap_cons, Nat.zero_mul, List.drop_zero, List.take_left' (hl a List.mem_cons_self)]
    rfl
  | a :: l, hl, i + 1, h => by
    have ha := hl a List.mem_cons_self
    rw [List.flatMap_cons, Nat.succ_mul, Nat.add_comm, ← List.drop_drop, List.drop_left' ha]
    exact row_at (fun x hx => hl x (List.mem_cons_of_mem _ hx)) (by rw [List.length_cons] at h; omega)
theorem one_gsv {n : Nat} : ∀ k, oneC (gsv n k) = true
  | 0 => rfl
  | _ + 1 => rfl
theorem fz_inj {a b : List Value} {n m : Nat} (h : FZ a n = FZ b m) : a = b ∧ n = m := by
  unfold FZ at h
  injection h with h1 h2 _
  injection h1 with h1 _
  exact ⟨by have := congrArg Array.toList h2; simpa using this, h1⟩
theorem gslV_inj {a b : List Value} {n m : Nat} (h : gslV a n = gslV b m) (h0 : n = 0 → a = []) (h1 : m = 0 → b = []) : a = b ∧ n = m := by
  cases n with
  | zero =>
    cases m with
    | zero => exact ⟨by rw [h0 rfl, h1 rfl], rfl⟩
    | succ m => cases h
  | succ n =>
    cases m with
    | zero => cases h
    | succ m => exact fz_inj h
theorem freeze_ret {P : Program} {kk : Nat} {F : List (Nat × Option Value)} {L L' : List (Nat × Option XObj)} {n nl : Nat} {lg : List Nat} (t x : Nat) {c : List Value} {e : TypeId} {fr : Nat × Nat} {len : Nat}
    (hx : lk L x = some (.cells c e fr)) (hn : x < n) (hn2 : n < 16383) (ht : t < 511) (hF : lk F t = some (.slice (some ⟨x, 0, none⟩) len openCap)) (hl : len ≤ openCap) (hq : len = 0 → c = []) (hL : AllLk n ((x, none) :: L) L') :
    ChLe P kk ⟨frm F, wd L n lg nl, []⟩ ⟨frm [(t, some (FZ c len))], wd L' n lg nl, []⟩ := by
  refine chle_freeze x (c := c) (e := e) (fr := fr) (by show (wd L n lg nl).get x = _; rw [wd_get hn (by omega)]; exact hx) ?_ (Nat.le_refl _) (fun u v' h => ?_) (fun m o' h => ?_) .nil
  · show (wd L' n lg nl).get x = none
    cases e : (wd L' n lg nl).get x with
    | none => rfl
    | some o =>
      obtain ⟨_, g2⟩ := wd_some e
      obtain ⟨_, g3⟩ := hL.mem _ _ (lk_mem g2)
      rw [lk_hit] at g3; cases g3
  · have h1 := frm_some h
    by_cases hu : t = u
    · subst hu
      rw [lk_hit] at h1
      cases h1
      refine ⟨_, by show (frm F).get t = _; rw [frm_get ht]; exact hF, ?_⟩
      have := tv_frozen (n := x) (o := 0) (c := c) (q := c.length) hl (fun e => by rw [hq e]; rfl)
      rwa [List.drop_zero, List.take_length] at this
    · rw [lk_miss hu] at h1; cases h1
  · obtain ⟨g1, g2⟩ := wd_some h
    obtain ⟨g3, g4⟩ := hL.mem _ _ (lk_mem g2)
    by_cases hm : x = m
    · subst hm; rw [lk_hit] at g4; cases g4
    · rw [lk_miss hm] at g4
      exact ⟨o', by show (wd L n lg nl).get m = some o'; rw [wd_get g1 (by omega)]; exact g4, fun ρ ρ' i ob ht ho => ho.mono ⟨ht.2.1, ht.1⟩⟩
end Go.Proofs.YthlkgmdkabelpaaGreat.X
namespace Go.Proofs.YthlkgmdkabelpaaGreat.X
open Go Go.RowKit
def rowHs (l : List HB) : List Value := l.flatMap fun h => bvs h.1
theorem bares_rowHs (l : List HB) : Bares (rowHs l) := bares_flatMap (fun h => bares_bvs _) l
theorem rowHs_at {l : List HB} {i : Nat} (h : i < l.length) : ((rowHs l).drop (i * 32)).take 32 = bvs l[i].1 := row_at (g := fun h : HB => bvs h.1) (m := 32) (fun x _ => by rw [length_bvs, x.2]) h
theorem rowHs_length : ∀ l : List HB, (rowHs l).length = l.length * 32
  | [] => rfl
  | x :: l => by
    have := rowHs_length l
    unfold rowHs at this ⊢
    rw [List.flatMap_cons, List.length_append, length_bvs, x.2, List.length_cons, this]
    omega
theorem rowHs_snoc {l : List HB} {h : HB} : rowHs l ++ bvs h.1 = rowHs (l ++ [h]) := by simp [rowHs]
theorem rowHs_one {h : HB} : bvs h.1 = rowHs [h] := by simp [rowHs]
theorem rowHs_inj : ∀ {l m : List HB}, rowHs l = rowHs m → l = m
  | [], [], _ => rfl
  | [], y :: m, h => by
    have := congrArg List.length h
    rw [rowHs_length, rowHs_length, List.length_cons] at this
    simp at this
  | x :: l, [], h => by
    have := congrArg List.length h
    rw [rowHs_length, rowHs_length, List.length_cons] at this
    simp at this
  | x :: l, y :: m, h => by
    unfold rowHs at h
    rw [List.flatMap_cons, List.flatMap_cons] at h
    obtain ⟨h1, h2⟩ := List.append_inj h (by rw [length_bvs, length_bvs, x.2, y.2])
    have e1 : x = y := Subtype.ext (bvs_inj h1)
    rw [e1, rowHs_inj (l := l) (m := m) h2]
def hsV (l : List HB) : Value := gslV (rowHs l) l.length
theorem bare_hsV (l : List HB) : Bare (hsV l) := bare_gslV (bares_rowHs l) _
theorem hsV_inj {a b : List HB} (h : hsV a = hsV b) : a = b := rowHs_inj (gslV_inj h (fun e => by rw [List.length_eq_zero_iff.1 e]; rfl) (fun e => by rw [List.length_eq_zero_iff.1 e]; rfl)).1
/-! ### Hashes -/
open Classical in
noncomputable def pHs : List Value → Option Value := fun xs => if h : ∃ q : List HB × List HB, xs = [hsV q.1, hsV q.2] ∧ q.1.length ≤ 1000000 then some (.bool (decide ((Classical.choose h).1 = (Classical.choose h).2))) else none
theorem pHs_eq {a b : List HB} (ha : a.length ≤ 1000000) : pHs [hsV a, hsV b] = some (.bool (decide (a = b))) := by
  have hx : ∃ q : List HB × List HB, [hsV a, hsV b] = [hsV q.1, hsV q.2] ∧ q.1.length ≤ 1000000 := ⟨(a, b), rfl, ha⟩
  have e : pHs [hsV a, hsV b] = some (.bool (decide ((Classical.choose hx).1 = (Classical.choose hx).2))) := dif_pos hx
  have hq := (Classical.choose_spec hx).1
  generalize Classical.choose hx = q at hq e
  injection hq with h1 h2
  injection h2 with h2 _
  rw [e, hsV_inj h1, hsV_inj h2]
structure UpTo (n : Nat) where
  i : Nat
  h : i ≤ n
structure LpH (a b : List HB) where
  i : Nat
  hi : i ≤ a.length
  hl : ∀ j (q : j < a.length) (r : j < b.length), j < i → a[j] = b[j]
theorem hashesLocal (a b : List HB) (ha : a.length ≤ 1000000) : Local Tryz.prog 24 [hsV a, hsV b] (wd [] 0 [] 0) fun e W' => e = .ret (.bool (decide (a = b))) := by
  refine lit_local base0 Tryz.func24 rfl (Nat.le_of_ble_eq_true rfl) ?_
  simp only [frOfL.eq_1, frOfL.eq_2, wd_next, Tryz.ntmps24, Nat.reduceAdd, hsV]
  refine xwp_seq (xwp_region (e := ?e1) (s' := ?s1) base0 ?h1 ?q1)
  case h1 =>
    simp (disch := first | decide | omega | (simp only [List.length_cons, List.length_nil, List.length_append, length_bvs, List.length_take, List.length_drop]; omega)) only [go_sem, Nat.reduceAdd, Nat.reduceMul, Nat.reduceSub]
    all_goals with_reducible rfl
  case q1 =>
  refine xwp_seq ?_
  by_cases hlen : a.length = b.length
  · have hne : ((a.length : Nat) : Int) = ((b.length : Nat) : Int) := by omega
    refine xwp_seq (xwp_region (e := ?e2) (s' := ?s2) base0 ?h2 ?q2)
    case h2 =>
      simp (disch := first | decide | omega | (simp only [List.length_cons, List.length_nil, List.length_append, length_bvs, List.length_take, List.length_drop]; omega)) only [lenB_gslV, hne, go_sem, Nat.reduceAdd, Nat.reduceMul, Nat.reduceSub]
      all_goals with_reducible rfl
    case q2 =>
    refine xwp_cf ?h3 ?q3
    case h3 =>
      simp (disch := first | decide | omega | (simp only [List.length_cons, List.length_nil, List.length_append, length_bvs, List.length_take, List.length_drop]; omega)) only [go_sem, Nat.reduceAdd, Nat.reduceMul, Nat.reduceSub]
      all_goals with_reducible rfl
    case q3 =>
    refine xwp_skip ?_
    refine xwp_seq ?_
    refine xwp_seq (xwp_region (e := ?e4) (s' := ?s4) base0 ?h4 ?q4)
    case h4 =>
      simp (disch := first | decide | omega | (simp only [List.length_cons, List.length_nil, List.length_append, length_bvs, List.length_take, List.length_drop]; omega)) only [go_sem, Nat.reduceAdd, Nat.reduceMul, Nat.reduceSub]
      all_goals with_reducible rfl
    case q4 =>
    refine xwp_block ?_
    refine xwp_le (s' := ⟨frm [(0, some (gslV (rowHs a) a.length)), (1, some (gslV (rowHs b) b.length)), (5, some (.int .i64 ((0 : Nat) : Int)))], wd [] 0 [] 0, []⟩) (chle_lit (by simp (disch := decide) [AllLk, lk_hit, lk_miss, lk_nil]) trivial (by decide)) ?_
    refine xwp_loop (α := LpH a b) (fun y => ⟨frm [(0, some (gslV (rowHs a) a.length)), (1, some (gslV (rowHs b) b.length)), (5, some (.int .i64 (y.i : Int)))], wd [] 0 [] 0, []⟩) (fun y => a.length - y.i) ?_ ⟨0, Nat.zero_le _, fun j q r h => absurd h (Nat.not_lt_zero j)⟩
    intro ⟨i, hi, hl⟩
    simp only
    by_cases hlt : i < a.length
    · have hlb : i < b.length := by omega
      have h1 := rowHs_at hlt
      have h2 := rowHs_at hlb
      obtain ⟨x, hx⟩ : ∃ x, x = a[i] := ⟨_, rfl⟩
      obtain ⟨y, hy⟩ : ∃ y, y = b[i] := ⟨_, rfl⟩
      rw [← hx] at h1
      rw [← hy] at h2
      have hbh := fun p q => (bin_hash (x := p) (y := q) hashT x.2 y.2).2
      have hbq : (x.1 == y.1) = decide (x = y) := hb_beq x y
      have hxl := x.2
      have hyl := y.2
      refine xwp_seq ?_
      refine xwp_seq (xwp_region (e := ?e5) (s' := ?s5) base0 ?h5 ?q5)
      case h5 =>
        simp (disch := first | decide | omega | (simp only [List.length_cons, List.length_nil, List.length_append, length_bvs, List.length_take, List.length_drop]; omega)) only [lenB_gslV, go_sem, Nat.reduceAdd, Nat.reduceMul, Nat.reduceSub]
        all_goals with_reducible rfl
      case q5 =>
      refine xwp_ct ?h6 ?q6
      case h6 =>
        simp (disch := first | decide | omega | (simp only [List.length_cons, List.length_nil, List.length_append, length_bvs, List.length_take, List.length_drop]; omega)) only [go_sem, Nat.reduceAdd, Nat.reduceMul, Nat.reduceSub]
        all_goals with_reducible rfl
      case q6 =>
      refine xwp_skip ?_
      refine xwp_seq (xwp_block ?_)
      refine xwp_drawn_to base0 ⟨frm [(0, some (gslV (rowHs a) a.length)), (1, some (gslV (rowHs b) b.length)), (5, some (.int .i64 (i : Int))), (25, some (.bool (!decide (x = y))))], wd [] 0 [] 0, []⟩ ?hda ?qda
      case hda =>
        refine ⟨?rsa, ?sxa, ?hxa, ?kxa, ?lxa⟩
        case hxa =>
          simp (disch := first | decide | omega | (simp only [List.length_cons, List.length_nil, List.length_append, length_bvs, List.length_take, List.length_drop]; omega)) only [traceX.eq_1, traceX.eq_2, trc1.eq_1, trcK.eq_1, trcK.eq_2, traceD_nil, traceD_t, traceD_f, holeK.eq_1, holeK.eq_2, iad_gslV hlt, iad_gslV hlb, iadZ.eq_1, load_FP, h1, h2, hbh, hbq, go_sem, Nat.reduceAdd, Nat.reduceMul, Nat.reduceSub]
          all_goals with_reducible rfl
        case kxa => kernel_rfl
        case lxa => exact chle_lit (by simp (disch := decide) [AllLk, lk_hit, lk_miss, lk_nil]) trivial (by decide)
      case qda =>
      by_cases hxy : x = y
      · rw [decide_eq_true hxy, Bool.not_true]
        refine xwp_cf ?h7 ?q7
        case h7 =>
          simp (disch := first | decide | omega | (simp only [List.length_cons, List.length_nil, List.length_append, length_bvs, List.length_take, List.length_drop]; omega)) only [go_sem, Nat.reduceAdd, Nat.reduceMul, Nat.reduceSub]
          all_goals with_reducible rfl
        case q7 =>
        refine xwp_skip ?_
        show XWp _ _ _ _ _ _
        refine xwp_region (e := ?e8) (s' := ?s8) base0 ?h8 ?q8
        case h8 =>
          simp (disch := first | decide | omega | (simp only [List.length_cons, List.length_nil, List.length_append, length_bvs, List.length_take, List.length_drop]; omega)) only [go_sem, Nat.reduceAdd, Nat.reduceMul, Nat.reduceSub]
          all_goals with_reducible rfl
        case q8 =>
        refine ⟨⟨i + 1, hlt, fun j q r h => ?_⟩, by simp only; omega, ?_⟩
        · by_cases hj : j = i
          · subst hj; rw [← hx, ← hy]; exact hxy
          · exact hl j q r (by omega)
        · exact chle_lit (by simp (disch := decide) [AllLk, lk_hit, lk_miss, lk_nil]) trivial (by decide)
      · rw [decide_eq_false hxy, Bool.not_false]
        refine xwp_ct ?h9 ?q9
        case h9 =>
          simp (disch := first | decide | omega | (simp only [List.length_cons, List.length_nil, List.length_append, length_bvs, List.length_take, List.length_drop]; omega)) only [go_sem, Nat.reduceAdd, Nat.reduceMul, Nat.reduceSub]
          all_goals with_reducible rfl
        case q9 =>
        refine xwp_seq (xwp_region (e := ?e10) (s' := ?s10) base0 ?h10 ?q10)
        case h10 =>
          simp (disch := first | decide | omega | (simp only [List.length_cons, List.length_nil, List.length_append, length_bvs, List.length_take, List.length_drop]; omega)) only [go_sem, Nat.reduceAdd, Nat.reduceMul, Nat.reduceSub]
          all_goals with_reducible rfl
        case q10 =>
        refine xwp_ret ?_
        refine ⟨_, ?e11, ?W11, rfl, ?h11, ?q11⟩
        case h11 =>
          simp (disch := first | decide | omega | (simp only [List.length_cons, List.length_nil, List.length_append, length_bvs, List.length_take, List.length_drop]; omega)) only [Tryz.results24, go_sem, Nat.reduceAdd, Nat.reduceMul, Nat.reduceSub]
          all_goals with_reducible rfl
        case q11 =>
        have : ¬ a = b := fun e => by subst e; exact hxy (by rw [hx, hy])
        rw [decide_eq_false this]
    · refine xwp_seq ?_
      refine xwp_seq (xwp_region (e := ?e12) (s' := ?s12) base0 ?h12 ?q12)
      case h12 =>
        simp (disch := first | decide | omega | (simp only [List.length_cons, List.length_nil, List.length_append, length_bvs, List.length_take, List.length_drop]; omega)) only [lenB_gslV, go_sem, Nat.reduceAdd, Nat.reduceMul, Nat.reduceSub]
        all_goals with_reducible rfl
      case q12 =>
      refine xwp_cf ?h13 ?q13
      case h13 =>
        simp (disch := first | decide | omega | (simp only [List.length_cons, List.length_nil, List.length_append, length_bvs, List.length_take, List.length_drop]; omega)) only [go_sem, Nat.reduceAdd, Nat.reduceMul, Nat.reduceSub]
        all_goals with_reducible rfl
      case q13 =>
      refine xwp_exit ?_
      show XWp _ _ _ _ _ _
      refine xwp_seq (xwp_region (e := ?e14) (s' := ?s14) base0 ?h14 ?q14)
      case h14 =>
        simp (disch := first | decide | omega | (simp only [List.length_cons, List.length_nil, List.length_append, length_bvs, List.length_take, List.length_drop]; omega)) only [go_sem, Nat.reduceAdd, Nat.reduceMul, Nat.reduceSub]
        all_goals with_reducible rfl
      case q14 =>
      refine xwp_ret ?_
      refine ⟨_, ?e15, ?W15, rfl, ?h15, ?q15⟩
      case h15 =>
        simp (disch := first | decide | omega | (simp only [List.length_cons, List.length_nil, List.length_append, length_bvs, List.length_take, List.length_drop]; omega)) only [Tryz.results24, go_sem, Nat.reduceAdd, Nat.reduceMul, Nat.reduceSub]
        all_goals with_reducible rfl
      case q15 =>
      have : a = b := List.ext_getElem hlen fun j q r => hl j q r (by omega)
      rw [decide_eq_true this]
  · have hne : ¬ ((a.length : Nat) : Int) = ((b.length : Nat) : Int) := by omega
    refine xwp_seq (xwp_region (e := ?e16) (s' := ?s16) base0 ?h16 ?q16)
    case h16 =>
      simp (disch := first | decide | omega | (simp only [List.length_cons, List.length_nil, List.length_append, length_bvs, List.length_take, List.length_drop]; omega)) only [lenB_gslV, ine_t hne, go_sem, Nat.reduceAdd, Nat.reduceMul, Nat.reduceSub]
      all_goals with_reducible rfl
    case q16 =>
    refine xwp_ct ?h17 ?q17
    case h17 =>
      simp (disch := first | decide | omega | (simp only [List.length_cons, List.length_nil, List.length_append, length_bvs, List.length_take, List.length_drop]; omega)) only [go_sem, Nat.reduceAdd, Nat.reduceMul, Nat.reduceSub]
      all_goals with_reducible rfl
    case q17 =>
    refine xwp_seq (xwp_region (e := ?e18) (s' := ?s18) base0 ?h18 ?q18)
    case h18 =>
      simp (disch := first | decide | omega | (simp only [List.length_cons, List.length_nil, List.length_append, length_bvs, List.length_take, List.length_drop]; omega)) only [go_sem, Nat.reduceAdd, Nat.reduceMul, Nat.reduceSub]
      all_goals with_reducible rfl
    case q18 =>
    refine xwp_ret ?_
    refine ⟨_, ?e19, ?W19, rfl, ?h19, ?q19⟩
    case h19 =>
      simp (disch := first | decide | omega | (simp only [List.length_cons, List.length_nil, List.length_append, length_bvs, List.length_take, List.length_drop]; omega)) only [Tryz.results24, go_sem, Nat.reduceAdd, Nat.reduceMul, Nat.reduceSub]
      all_goals with_reducible rfl
    case q19 =>
    have : ¬ a = b := fun e => hlen (by rw [e])
    rw [decide_eq_false this]
theorem okHs : HookOk Tryz.prog 24 (pureH pHs) := by
  have inv : ∀ xs v, pHs xs = some v → ∃ a b : List HB, xs = [hsV a, hsV b] ∧ a.length ≤ 1000000 ∧ v = .bool (decide (a = b)) := fun xs v h => by
    unfold pHs at h
    split at h
    · rename_i hx
      have hq := Classical.choose_spec hx
      cases h
      exact ⟨_, _, hq.1, hq.2, rfl⟩
    · cases h
  refine pureH_ok (enters_of (by kernel_rfl)) (fun xs v h => ?_) (fun xs v h => ?_)
  · obtain ⟨a, b, rfl, _, rfl⟩ := inv _ _ h
    exact ⟨bares_cons (bare_hsV a) (bares_cons (bare_hsV b) bares_nil), bare_flat 1 rfl⟩
  · obtain ⟨a, b, rfl, ha, rfl⟩ := inv _ _ h
    exact hashesLocal a b ha
end Go.Proofs.YthlkgmdkabelpaaGreat.X
namespace Go.Proofs.YthlkgmdkabelpaaGreat.X
open Go Go.RowKit
def keysS (es : ObL) : List HB := es.map (·.1)
structure LpA (es : ObL) where
  i : Nat
  m : List HB
  hi : i ≤ es.length
  hm : m = keysS (es.take i)
set_option maxHeartbeats 1000000 in
theorem rallNe (es : ObL) (hn : es.length ≤ 1000000) (hne : es ≠ []) : Local Tryz.prog 30 [.pointer (some ⟨0, 0, none⟩)]
    (wd [(0, some (.cells [.slice (some ⟨1, 0, none⟩) es.length openCap] 69 (0, 0))), (1, some (.cells (rowOb es) 72 (0, 0)))] 2 [] 0)
    fun e W' => e = .ret (hsV (keysS es)) ∧ W'.get 0 = some (.cells [.slice (some ⟨1, 0, none⟩) es.length openCap] 69 (0, 0)) ∧ W'.get 1 = some (.cells (rowOb es) 72 (0, 0)) := by
  have hlr := rowOb_length es
  have hpos : 0 < es.length := List.length_pos_iff.2 hne
  refine lit_local base0 Tryz.func30 rfl (Nat.le_of_ble_eq_true rfl) ?_
  simp only [frOfL.eq_1, frOfL.eq_2, wd_next, Tryz.ntmps30, Nat.reduceAdd]
  refine xwp_seq (xwp_region (e := ?e1) (s' := ?s1) base0 ?h1 ?q1)
  case h1 =>
    simp (disch := first | decide | omega | (simp only [List.length_cons, List.length_nil, List.length_append, length_bvs, List.length_take, List.length_drop]; omega)) only [go_sem, Nat.reduceAdd, Nat.reduceMul, Nat.reduceSub]
    all_goals with_reducible rfl
  case q1 =>
  refine xwp_seq (xwp_region (e := ?e2) (s' := ?s2) base0 ?h2 ?q2)
  case h2 =>
    simp (disch := first | decide | omega | (simp only [List.length_cons, List.length_nil, List.length_append, length_bvs, List.length_take, List.length_drop]; omega)) only [go_sem, Nat.reduceAdd, Nat.reduceMul, Nat.reduceSub]
    all_goals with_reducible rfl
  case q2 =>
  refine xwp_seq ?_
  refine xwp_seq (xwp_region (e := ?e3) (s' := ?s3) base0 ?h3 ?q3)
  case h3 =>
    simp (disch := first | decide | omega | (simp only [List.length_cons, List.length_nil, List.length_append, length_bvs, List.length_take, List.length_drop]; omega)) only [go_sem, Nat.reduceAdd, Nat.reduceMul, Nat.reduceSub]
    all_goals with_reducible rfl
  case q3 =>
  refine xwp_block ?_
  refine xwp_le (s' := ⟨frm [(0, some (.pointer (some ⟨0, 0, none⟩))), (3, some (gsv 2 0)), (4, some (.int .i64 ((0 : Nat) : Int)))], wd [(0, some (.cells [.slice (some ⟨1, 0, none⟩) es.length openCap] 69 (0, 0))), (1, some (.cells (rowOb es) 72 (0, 0))), (2, growO 24 (rowHs []) 0)] 3 [] 0, []⟩) (chle_lit (by simp (disch := decide) [AllLk, lk_hit, lk_miss, lk_nil, gsv]) (by simp (disch := decide) [AllLk, lk_hit, lk_miss, lk_nil, growO]) (by decide)) ?_
  refine xwp_loop (α := LpA es) (fun y => ⟨frm [(0, some (.pointer (some ⟨0, 0, none⟩))), (3, some (gsv 2 y.m.length)), (4, some (.int .i64 (y.i : Int)))], wd [(0, some (.cells [.slice (some ⟨1, 0, none⟩) es.length openCap] 69 (0, 0))), (1, some (.cells (rowOb es) 72 (0, 0))), (2, growO 24 (rowHs y.m) y.m.length)] 3 [] 0, []⟩) (fun y => es.length - y.i) ?_ ⟨0, [], Nat.zero_le _, rfl⟩
  intro ⟨i, m, hi, hm⟩
  simp only
  have hml : m.length = i := by rw [hm]; unfold keysS; rw [List.length_map, List.length_take]; omega
  by_cases hlt : i < es.length
  · have hat := rowOb_at hlt
    have hm1 : m ++ [es[i].1] = keysS (es.take (i + 1)) := by rw [hm]; unfold keysS; rw [List.take_succ_eq_append_getElem hlt, List.map_append]; rfl
    obtain ⟨x, hx⟩ : ∃ x, x = es[i] := ⟨_, rfl⟩
    rw [← hx] at hat hm1
    have hat2 : (rowOb (es.drop i)).take 32 = bvs x.1.1 := by rw [← rowOb_drop]; exact hat
    have hxl2 := x.1.2
    refine xwp_seq ?_
    refine xwp_seq (xwp_region (e := ?e4) (s' := ?s4) base0 ?h4 ?q4)
    case h4 =>
      simp (disch := first | decide | omega | (simp only [List.length_cons, List.length_nil, List.length_append, length_bvs, List.length_take, List.length_drop]; omega)) only [go_sem, Nat.reduceAdd, Nat.reduceMul, Nat.reduceSub]
      all_goals with_reducible rfl
    case q4 =>
    refine xwp_ct ?h5 ?q5
    case h5 =>
      simp (disch := first | decide | omega | (simp only [List.length_cons, List.length_nil, List.length_append, length_bvs, List.length_take, List.length_drop]; omega)) only [go_sem, Nat.reduceAdd, Nat.reduceMul, Nat.reduceSub]
      all_goals with_reducible rfl
    case q5 =>
    refine xwp_skip ?_
    refine xwp_seq_to ⟨frm [(0, some (.pointer (some ⟨0, 0, none⟩))), (3, some (.slice (some ⟨4, 0, none⟩) (m.length + 1) openCap)), (4, some (.int .i64 (i : Int)))], wd [(0, some (.cells [.slice (some ⟨1, 0, none⟩) es.length openCap] 69 (0, 0))), (1, some (.cells (rowOb es) 72 (0, 0))), (4, some (.cells (rowHs (m ++ [x.1])) 24 (0, 0)))] 5 [] 0, []⟩ (xwp_block ?bd) ?ct
    case bd =>
      rcases m with _ | ⟨a, m'⟩
      · have hr1 : rowHs ([] ++ [x.1]) = bvs x.1.1 := rowHs_one.symm
        rw [hr1]
        refine xwp_region (e := ?e6) (s' := ?s6) base0 ?h6 ?q6
        case h6 =>
          simp (disch := first | decide | omega | (simp only [List.length_cons, List.length_nil, List.length_append, length_bvs, List.length_take, List.length_drop]; omega)) only [iad_sl, hat, hat2, gsv.eq_1, growO.eq_1, List.length_nil, List.drop_eq_nil_of_le, Option.map_some, Option.map_none, isOpen0, List.length_drop, List.length_take, Nat.beq_refl, Nat.sub_zero, Nat.zero_mul, one_rowOb, rowOb_length, rowOb_take, rowOb_drop, List.all_append, one_bvs, one_str, go_sem, Nat.reduceAdd, Nat.reduceMul, Nat.reduceSub]
          all_goals with_reducible rfl
        case q6 =>
        refine ⟨rfl, chle_lit (by simp (disch := decide) [AllLk, lk_hit, lk_miss, lk_nil]) (by simp (disch := decide) [AllLk, lk_hit, lk_miss, lk_nil]) (by decide)⟩
      · obtain ⟨m, hmm⟩ : ∃ m, m = a :: m' := ⟨_, rfl⟩
        have hg1 : gsv 2 (a :: m').length = .slice (some ⟨2, 0, none⟩) m.length openCap := by rw [hmm]; rfl
        have hg2 : growO 24 (rowHs (a :: m')) (a :: m').length = some (.cells (rowHs m) 24 (0, 0)) := by rw [hmm]; rfl
        rw [hg1, hg2, ← hmm]
        rw [← hmm] at hml
        have hrl := rowHs_length m
        have hrt : (rowHs m).take (m.length * 32) = rowHs m := List.take_of_length_le (by rw [hrl]; exact Nat.le_refl _)
        have hro : (rowHs m ++ bvs x.1.1) = rowHs (m ++ [x.1]) := rowHs_snoc
        refine xwp_region (e := ?e7) (s' := ?s7) base0 ?h7 ?q7
        case h7 =>
          simp (disch := first | decide | omega | (simp only [List.length_cons, List.length_nil, List.length_append, length_bvs, List.length_take, List.length_drop]; omega)) only [iad_sl, hat, hat2, hrl, hrt, hro, List.drop_eq_nil_of_le, Option.map_some, Option.map_none, isOpen0, List.length_drop, List.length_take, Nat.beq_refl, Nat.sub_zero, Nat.zero_mul, one_rowOb, rowOb_length, rowOb_take, rowOb_drop, List.all_append, one_bvs, one_str, go_sem, Nat.reduceAdd, Nat.reduceMul, Nat.reduceSub]
          all_goals with_reducible rfl
        case q7 =>
        refine ⟨rfl, chle_lit (by simp (disch := decide) [AllLk, lk_hit, lk_miss, lk_nil]) (by simp (disch := decide) [AllLk, lk_hit, lk_miss, lk_nil]) (by decide)⟩
    case ct =>
    refine xwp_region (e := ?e8) (s' := ?s8) base0 ?h8 ?q8
    case h8 =>
      simp (disch := first | decide | omega | (simp only [List.length_cons, List.length_nil, List.length_append, length_bvs, List.length_take, List.length_drop]; omega)) only [go_sem, Nat.reduceAdd, Nat.reduceMul, Nat.reduceSub]
      all_goals with_reducible rfl
    case q8 =>
    refine ⟨⟨i + 1, m ++ [x.1], hlt, hm1⟩, by simp only; omega, ?_⟩
    simp only [List.length_append, List.length_cons, List.length_nil, Nat.zero_add, gsv.eq_2, growO.eq_2]
    exact chle_ren_lit [(0, some 0), (1, some 1), (4, some 2)] [(0, some 0), (1, some 1), (2, some 4)] (by decide) (by decide) (by decide) (allTv_cons (v := .pointer (some ⟨0, 0, none⟩)) (by decide) (by simp (disch := first | decide | omega) only [lk_hit, lk_miss]) (tv_ptr (by simp (disch := first | decide | omega) only [lk_hit, lk_miss])) (allTv_cons (v := .slice (some ⟨4, 0, none⟩) (m.length + 1) openCap) (by decide) (by simp (disch := first | decide | omega) only [lk_hit, lk_miss]) (tv_slice (by simp (disch := first | decide | omega) only [lk_hit, lk_miss])) (allTv_cons (v := .int .i64 ((i + 1 : Nat) : Int)) (by decide) (by simp (disch := first | decide | omega) only [lk_hit, lk_miss]) (tv_flat 1 rfl) allTv_nil)))
      (allTo_cons (o := .cells [.slice (some ⟨1, 0, none⟩) es.length openCap] 69 (0, 0)) 0 (by simp (disch := first | decide | omega) only [lk_hit, lk_miss]) (by decide) (by decide) (by simp (disch := first | decide | omega) only [lk_hit, lk_miss]) (to_tvs (tvs_cons (tv_slice (by simp (disch := first | decide | omega) only [lk_hit, lk_miss])) tvs_nil))
      (allTo_cons (o := .cells (rowOb es) 72 (0, 0)) 1 (by simp (disch := first | decide | omega) only [lk_hit, lk_miss]) (by decide) (by decide) (by simp (disch := first | decide | omega) only [lk_hit, lk_miss]) (to_bareO names_fz (bareO_bares (bares_rowOb _)))
      (allTo_cons (o := .cells (rowHs (m ++ [x.1])) 24 (0, 0)) 4 (by simp (disch := first | decide | omega) only [lk_hit, lk_miss]) (by decide) (by decide) (by simp (disch := first | decide | omega) only [lk_hit, lk_miss]) (to_bareO names_fz (bareO_bares (bares_rowHs _))) allTo_nil))) .nil
  · have hie : i = es.length := by omega
    have hmk : m = keysS es := by rw [hm, hie, List.take_length]
    refine xwp_seq ?_
    refine xwp_seq (xwp_region (e := ?e9) (s' := ?s9) base0 ?h9 ?q9)
    case h9 =>
      simp (disch := first | decide | omega | (simp only [List.length_cons, List.length_nil, List.length_append, length_bvs, List.length_take, List.length_drop]; omega)) only [go_sem, Nat.reduceAdd, Nat.reduceMul, Nat.reduceSub]
      all_goals with_reducible rfl
    case q9 =>
    refine xwp_cf ?h10 ?q10
    case h10 =>
      simp (disch := first | decide | omega | (simp only [List.length_cons, List.length_nil, List.length_append, length_bvs, List.length_take, List.length_drop]; omega)) only [go_sem, Nat.reduceAdd, Nat.reduceMul, Nat.reduceSub]
      all_goals with_reducible rfl
    case q10 =>
    refine xwp_exit ?_
    show XWp _ _ _ _ _ _
    obtain ⟨n, hmn⟩ : ∃ n, m.length = n + 1 := ⟨m.length - 1, by omega⟩
    have hg1 : gsv 2 m.length = .slice (some ⟨2, 0, none⟩) m.length openCap := by rw [hmn]; rfl
    have hg2 : growO 24 (rowHs m) m.length = some (.cells (rowHs m) 24 (0, 0)) := by rw [hmn]; rfl
    rw [hg1, hg2]
    refine xwp_le (freeze_ret (L' := [(0, some (.cells [.slice (some ⟨1, 0, none⟩) es.length openCap] 69 (0, 0))), (1, some (.cells (rowOb es) 72 (0, 0)))]) 3 2 (c := rowHs m) (e := 24) (fr := (0, 0)) (len := m.length) (by simp (disch := first | decide | omega) only [lk_hit, lk_miss]) (by decide) (by decide) (by decide) (by simp (disch := first | decide | omega) only [lk_hit, lk_miss]) (Nat.le_trans (show m.length ≤ 1000000 by omega) (by decide)) (fun e => by omega) (by simp (disch := decide) [AllLk, lk_hit, lk_miss, lk_nil])) ?_
    refine xwp_seq (xwp_region (e := ?e11) (s' := ?s11) base0 ?h11 ?q11)
    case h11 =>
      simp (disch := first | decide | omega | (simp only [List.length_cons, List.length_nil, List.length_append, length_bvs, List.length_take, List.length_drop]; omega)) only [go_sem, Nat.reduceAdd, Nat.reduceMul, Nat.reduceSub]
      all_goals with_reducible rfl
    case q11 =>
    refine xwp_ret ?_
    refine ⟨_, ?e12, ?W12, rfl, ?h12, ?q12⟩
    case h12 =>
      simp (disch := first | decide | omega | (simp only [List.length_cons, List.length_nil, List.length_append, length_bvs, List.length_take, List.length_drop]; omega)) only [Tryz.results30, go_sem, Nat.reduceAdd, Nat.reduceMul, Nat.reduceSub]
      all_goals with_reducible rfl
    case q12 =>
    refine ⟨?_, ?_, ?_⟩
    · rw [← hmk]; unfold hsV; rw [hmn]; rfl
    · simp (disch := first | decide | omega | (simp only [List.length_cons, List.length_nil, List.length_append, length_bvs, List.length_take, List.length_drop]; omega)) only [go_sem, Nat.reduceAdd, Nat.reduceMul, Nat.reduceSub]
    · simp (disch := first | decide | omega | (simp only [List.length_cons, List.length_nil, List.length_append, length_bvs, List.length_take, List.length_drop]; omega)) only [go_sem, Nat.reduceAdd, Nat.reduceMul, Nat.reduceSub]
theorem rall0 : Local Tryz.prog 30 [.pointer (some ⟨0, 0, none⟩)]
    (wd [(0, some (.cells [.slice none 0 0] 69 (0, 0)))] 1 [] 0)
    fun e W' => e = .ret (hsV []) ∧ W'.get 0 = some (.cells [.slice none 0 0] 69 (0, 0)) := by
  refine lit_local base0 Tryz.func30 rfl (Nat.le_of_ble_eq_true rfl) ?_
  simp only [frOfL.eq_1, frOfL.eq_2, wd_next, Tryz.ntmps30, Nat.reduceAdd]
  refine xwp_seq (xwp_region (e := ?e13) (s' := ?s13) base0 ?h13 ?q13)
  case h13 =>
    simp (disch := first | decide | omega | (simp only [List.length_cons, List.length_nil, List.length_append, length_bvs, List.length_take, List.length_drop]; omega)) only [go_sem, Nat.reduceAdd, Nat.reduceMul, Nat.reduceSub]
    all_goals with_reducible rfl
  case q13 =>
  refine xwp_seq (xwp_region (e := ?e14) (s' := ?s14) base0 ?h14 ?q14)
  case h14 =>
    simp (disch := first | decide | omega | (simp only [List.length_cons, List.length_nil, List.length_append, length_bvs, List.length_take, List.length_drop]; omega)) only [go_sem, Nat.reduceAdd, Nat.reduceMul, Nat.reduceSub]
    all_goals with_reducible rfl
  case q14 =>
  refine xwp_seq ?_
  refine xwp_seq (xwp_region (e := ?e15) (s' := ?s15) base0 ?h15 ?q15)
  case h15 =>
    simp (disch := first | decide | omega | (simp only [List.length_cons, List.length_nil, List.length_append, length_bvs, List.length_take, List.length_drop]; omega)) only [go_sem, Nat.reduceAdd, Nat.reduceMul, Nat.reduceSub]
    all_goals with_reducible rfl
  case q15 =>
  refine xwp_block ?_
  refine xwp_le (s' := ⟨frm [(0, some (.pointer (some ⟨0, 0, none⟩))), (3, some (.slice none 0 0)), (4, some (.int .i64 ((0 : Nat) : Int)))], wd [(0, some (.cells [.slice none 0 0] 69 (0, 0)))] 1 [] 0, []⟩) (chle_lit (by simp (disch := decide) [AllLk, lk_hit, lk_miss, lk_nil]) (by simp (disch := decide) [AllLk, lk_hit, lk_miss, lk_nil]) (by decide)) ?_
  refine xwp_loop (α := Unit) (fun _ => ⟨frm [(0, some (.pointer (some ⟨0, 0, none⟩))), (3, some (.slice none 0 0)), (4, some (.int .i64 ((0 : Nat) : Int)))], wd [(0, some (.cells [.slice none 0 0] 69 (0, 0)))] 1 [] 0, []⟩) (fun _ => 0) ?_ ()
  intro _
  refine xwp_seq ?_
  refine xwp_seq (xwp_region (e := ?e16) (s' := ?s16) base0 ?h16 ?q16)
  case h16 =>
    simp (disch := first | decide | omega | (simp only [List.length_cons, List.length_nil, List.length_append, length_bvs, List.length_take, List.length_drop]; omega)) only [go_sem, Nat.reduceAdd, Nat.reduceMul, Nat.reduceSub]
    all_goals with_reducible rfl
  case q16 =>
  refine xwp_cf ?h17 ?q17
  case h17 =>
    simp (disch := first | decide | omega | (simp only [List.length_cons, List.length_nil, List.length_append, length_bvs, List.length_take, List.length_drop]; omega)) only [go_sem, Nat.reduceAdd, Nat.reduceMul, Nat.reduceSub]
    all_goals with_reducible rfl
  case q17 =>
  refine xwp_exit ?_
  show XWp _ _ _ _ _ _
  refine xwp_seq (xwp_region (e := ?e18) (s' := ?s18) base0 ?h18 ?q18)
  case h18 =>
    simp (disch := first | decide | omega | (simp only [List.length_cons, List.length_nil, List.length_append, length_bvs, List.length_take, List.length_drop]; omega)) only [go_sem, Nat.reduceAdd, Nat.reduceMul, Nat.reduceSub]
    all_goals with_reducible rfl
  case q18 =>
  refine xwp_ret ?_
  refine ⟨_, ?e19, ?W19, rfl, ?h19, ?q19⟩
  case h19 =>
    simp (disch := first | decide | omega | (simp only [List.length_cons, List.length_nil, List.length_append, length_bvs, List.length_take, List.length_drop]; omega)) only [Tryz.results30, go_sem, Nat.reduceAdd, Nat.reduceMul, Nat.reduceSub]
    all_goals with_reducible rfl
  case q19 =>
  refine ⟨rfl, ?_⟩
  simp (disch := first | decide | omega | (simp only [List.length_cons, List.length_nil, List.length_append, length_bvs, List.length_take, List.length_drop]; omega)) only [go_sem, Nat.reduceAdd, Nat.reduceMul, Nat.reduceSub]
open Classical in
noncomputable def pAll : PP ObL := fun xs es => if xs = [] ∧ es.length ≤ 1000000 then some (hsV (keysS es), es, .rd) else none
theorem pAll_eq {es : ObL} (hn : es.length ≤ 1000000) : pAll [] es = some (hsV (keysS es), es, .rd) := if_pos ⟨rfl, hn⟩
theorem okRAll : HookOk Tryz.prog 30 (prH rfE pAll) := by
  have inv : ∀ {xs : List Value} {es es' : ObL} {v : Value} {md : Md}, pAll xs es = some (v, es', md) → xs = [] ∧ es.length ≤ 1000000 ∧ v = hsV (keysS es) ∧ es' = es ∧ md = .rd := fun {xs es es' v md} h => by
    unfold pAll at h
    split at h
    · rename_i hx; cases h; exact ⟨hx.1, hx.2, rfl, rfl, rfl⟩
    · cases h
  refine pr_ok (enters_of (by kernel_rfl)) (fun xs a v a' md h => ?_) (fun xs a v a' md h => ?_)
  · obtain ⟨rfl, _, rfl, _, _⟩ := inv h
    exact ⟨bares_nil, bare_hsV _⟩
  · obtain ⟨rfl, hn, rfl, rfl, rfl⟩ := inv h
    cases a' with
    | nil => exact Local.mono rall0 fun e W' ⟨h1, h2⟩ => ⟨h1, h2, fun o h => (by cases h)⟩
    | cons x l => exact Local.mono (rallNe (x :: l) hn (by simp)) fun e W' ⟨h1, h2, h3⟩ => ⟨h1, h2, fun o h => by cases h; exact h3⟩
end Go.Proofs.YthlkgmdkabelpaaGreat.X
