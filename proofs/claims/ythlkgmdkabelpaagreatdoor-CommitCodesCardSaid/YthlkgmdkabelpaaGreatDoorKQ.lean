/-
  Words of 32 bits in the walk: what the model's operations give at words, and the contracts of the rotations. No condition but the rotation's number.
  The constants of the rounds, and the schedule of a block: what the program's functions return. No condition but that the block's 64 bytes lie there.
  The schedule of a block: what the program's functions return. No condition but that the block's 64 bytes lie there.
  A block added to a state: what the program's function does. No condition but that the block's 64 bytes lie there, apart from the state.
  slices.Chunk at rows of bytes whose length is a multiple of 64: the iterator's contract, for every loop body that keeps what the iterator reads. Condition: the size is 64, and it divides the row's length.
  A row of bytes that grows by append: what lies in it, whatever part beyond it is marked; laws for append of bytes, for append of zeros, and for the conversion of a string. Over any program. Conditions: lengths within Go's own limits.
  The program's hash: Sum returns the model's hash of its string. Condition: a string of at most 2^40 bytes.
  No condition.
-/
import Derived.Test.YthlkgmdkabelpaaGreatDoorKA
import Derived.Test.YthlkgmdkabelpaaGreatDoorChecked
import Derived.RegionTactic
import Derived.ChangeAlike
import Derived.Deep.QuietTactic
import Derived.BigQuiet
import Derived.Outline
import Derived.Deep.MidRow
import Derived.Deep.WholeRow
import Derived.RangeFuncNested
import Derived.RangeFuncBound
import Derived.RangeFuncCalls
import Derived.RangeFuncLeaves
import Derived.Shelf.Abstract
import Derived.Shelf.RegionOpen
import Derived.OwnWalkIn
import Derived.TacticsInMore
import Derived.LoopNIn
import Derived.LoopIn
import Derived.Deep.AppendSrc
import Derived.Deep.Upon
import Derived.Lib.ConvBytes
import Derived.Lib.AppendZerosOnto
set_option linter.all false
set_option linter.unusedVariables false
set_option linter.unusedSimpArgs false
namespace Go.Proofs.YthlkgmdkabelpaaGreatDoor
open Go Go.RowKit
theorem Keeps.drewN {S : Nat → Prop} {a w : World} (h : Keeps S a w) (n : Nat) : Keeps S a (w.drewN n) := h.trans' (T := S) ⟨rfl, rfl, rfl, Nat.le_refl _, fun _ _ _ => rfl⟩ (fun _ _ h => h)
theorem Keeps.any' {w w' : World} (h : Keeps noBlock w w') (S : Nat → Prop) : Keeps S w w' := h.mono fun _ _ e => e.elim
theorem Keeps.frozen {S : Nat → Prop} {w w' : World} (h : Keeps S w w') {p : Addr} (hl : p.block < w.heap.size) (hs : ¬ S p.block) (hf : w.frozen? p = false) : w'.frozen? p = false := by
  rw [World.frozen?_of_block (h.block _ hl hs)]; exact hf
def uw (x : W32) : Int := (x.toNat : Int)
def uv (x : W32) : Value := .int .u32 (uw x)
theorem uw_nonneg (x : W32) : 0 ≤ uw x := by unfold uw; omega
theorem uw_lt (x : W32) : uw x < 4294967296 := by unfold uw; have := x.isLt; omega
theorem uw_inj {x y : W32} (h : uw x = uw y) : x = y := BitVec.eq_of_toNat_eq (by unfold uw at h; omega)
theorem ofInt_uw (x : W32) : BitVec.ofInt 32 (uw x) = x := by
  unfold uw
  rw [BitVec.ofInt_natCast]
  simp
theorem wrap_toNat (x : W32) : IntKind.u32.wrap (x.toNat : Int) = uw x := by
  rw [IntKind.wrap_u32]; unfold uw; have := x.isLt; omega
theorem xor_uw (x y : W32) : bits .xor .u32 (uw x) (uw y) = uw (x ^^^ y) := by
  show IntKind.u32.wrap ((BitVec.ofInt 32 (uw x) ^^^ BitVec.ofInt 32 (uw y)).toNat : Int) = _
  rw [ofInt_uw, ofInt_uw]; exact wrap_toNat _
theorem and_uw (x y : W32) : bits .and .u32 (uw x) (uw y) = uw (x &&& y) := by
  show IntKind.u32.wrap ((BitVec.ofInt 32 (uw x) &&& BitVec.ofInt 32 (uw y)).toNat : Int) = _
  rw [ofInt_uw, ofInt_uw]; exact wrap_toNat _
theorem or_uw (x y : W32) : bits .or .u32 (uw x) (uw y) = uw (x ||| y) := by
  show IntKind.u32.wrap ((BitVec.ofInt 32 (uw x) ||| BitVec.ofInt 32 (uw y)).toNat : Int) = _
  rw [ofInt_uw, ofInt_uw]; exact wrap_toNat _
theorem not_uw (x : W32) : bits .xor .u32 4294967295 (uw x) = uw (~~~ x) := by
  show IntKind.u32.wrap ((BitVec.ofInt 32 4294967295 ^^^ BitVec.ofInt 32 (uw x)).toNat : Int) = _
  rw [ofInt_uw, show BitVec.ofInt 32 4294967295 = BitVec.allOnes 32 by decide, BitVec.allOnes_xor]; exact wrap_toNat _
theorem unary_uw (x : W32) : Op.unary .xor (.int .u32 (uw x)) = pure (.int .u32 (uw (~~~ x))) := by
  rw [unary_xor]
  rw [show (if IntKind.u32.signed = true then (-1 : Int) else IntKind.u32.max) = 4294967295 by decide, intBits_xor, not_uw]
theorem add_uw (x y : W32) : IntKind.u32.wrap (uw x + uw y) = uw (x + y) := by
  rw [IntKind.wrap_u32]; unfold uw; rw [BitVec.toNat_add]; omega
theorem shl_n (x : W32) (n : Nat) : uw x * ((2 ^ n : Nat) : Int) % 4294967296 = uw (x <<< n) := by
  unfold uw
  rw [BitVec.toNat_shiftLeft, Nat.shiftLeft_eq]
  omega
theorem shr_n (x : W32) (n : Nat) : uw x / ((2 ^ n : Nat) : Int) = uw (x >>> n) := by
  unfold uw
  rw [BitVec.toNat_ushiftRight, Nat.shiftRight_eq_div_pow]
  omega
theorem shl_7 (x : W32) : uw x * (128 : Int) % (4294967296 : Int) = uw (x <<< 7) := shl_n x 7
theorem shl_8 (x : W32) : uw x * (256 : Int) % (4294967296 : Int) = uw (x <<< 8) := shl_n x 8
theorem shl_10 (x : W32) : uw x * (1024 : Int) % (4294967296 : Int) = uw (x <<< 10) := shl_n x 10
theorem shl_13 (x : W32) : uw x * (8192 : Int) % (4294967296 : Int) = uw (x <<< 13) := shl_n x 13
theorem shl_14 (x : W32) : uw x * (16384 : Int) % (4294967296 : Int) = uw (x <<< 14) := shl_n x 14
theorem shl_15 (x : W32) : uw x * (32768 : Int) % (4294967296 : Int) = uw (x <<< 15) := shl_n x 15
theorem shl_16 (x : W32) : uw x * (65536 : Int) % (4294967296 : Int) = uw (x <<< 16) := shl_n x 16
theorem shl_19 (x : W32) : uw x * (524288 : Int) % (4294967296 : Int) = uw (x <<< 19) := shl_n x 19
theorem shl_21 (x : W32) : uw x * (2097152 : Int) % (4294967296 : Int) = uw (x <<< 21) := shl_n x 21
theorem shl_24 (x : W32) : uw x * (16777216 : Int) % (4294967296 : Int) = uw (x <<< 24) := shl_n x 24
theorem shl_25 (x : W32) : uw x * (33554432 : Int) % (4294967296 : Int) = uw (x <<< 25) := shl_n x 25
theorem shl_26 (x : W32) : uw x * (67108864 : Int) % (4294967296 : Int) = uw (x <<< 26) := shl_n x 26
theorem shl_30 (x : W32) : uw x * (1073741824 : Int) % (4294967296 : Int) = uw (x <<< 30) := shl_n x 30
theorem shr_2 (x : W32) : uw x / (4 : Int) = uw (x >>> 2) := shr_n x 2
theorem shr_3 (x : W32) : uw x / (8 : Int) = uw (x >>> 3) := shr_n x 3
theorem shr_6 (x : W32) : uw x / (64 : Int) = uw (x >>> 6) := shr_n x 6
theorem shr_7 (x : W32) : uw x / (128 : Int) = uw (x >>> 7) := shr_n x 7
theorem shr_8 (x : W32) : uw x / (256 : Int) = uw (x >>> 8) := shr_n x 8
theorem shr_10 (x : W32) : uw x / (1024 : Int) = uw (x >>> 10) := shr_n x 10
theorem shr_11 (x : W32) : uw x / (2048 : Int) = uw (x >>> 11) := shr_n x 11
theorem shr_13 (x : W32) : uw x / (8192 : Int) = uw (x >>> 13) := shr_n x 13
theorem shr_16 (x : W32) : uw x / (65536 : Int) = uw (x >>> 16) := shr_n x 16
theorem shr_17 (x : W32) : uw x / (131072 : Int) = uw (x >>> 17) := shr_n x 17
theorem shr_18 (x : W32) : uw x / (262144 : Int) = uw (x >>> 18) := shr_n x 18
theorem shr_19 (x : W32) : uw x / (524288 : Int) = uw (x >>> 19) := shr_n x 19
theorem shr_22 (x : W32) : uw x / (4194304 : Int) = uw (x >>> 22) := shr_n x 22
theorem shr_24 (x : W32) : uw x / (16777216 : Int) = uw (x >>> 24) := shr_n x 24
theorem shr_25 (x : W32) : uw x / (33554432 : Int) = uw (x >>> 25) := shr_n x 25
theorem conv_u8 (b : UInt8) : IntKind.u32.wrap (b.toNat : Int) = uw (b32 b) := by
  rw [IntKind.wrap_u32]; unfold uw b32; rw [BitVec.toNat_ofNat]; have := b.toNat_lt; omega
theorem conv_back (x : W32) (n : Nat) : IntKind.u8.wrap (uw (x >>> n)) = ((byteW x n).toNat : Int) := by
  rw [IntKind.wrap_u8]; unfold uw byteW
  simp
theorem conv_back0 (x : W32) : IntKind.u8.wrap (uw x) = ((byteW x 0).toNat : Int) := by
  have := conv_back x 0
  simpa using this
theorem rotr_eq (x : W32) (n : Nat) : (x <<< (32 - n)) ||| (x >>> n) = rotr x n := by unfold rotr; rw [BitVec.or_comm]
theorem rotl_7 (x : W32) (w : World) :
    Calls Tryz.prog 164 #[.int .u32 (uw x), .int .i64 (-7)] w fun e w' => e = .returned (.int .u32 (uw (rotr x 7))) ∧ w = w' := by
  have h1 : bits .and .u64 (IntKind.u64.wrap (-7)) 31 = 25 := by decide +kernel
  have h2 : IntKind.u64.wrap (32 - 25) = 7 := by decide +kernel
  go_enter Tryz.func164, Tryz.ntmps164
  go_wp2
  go_ret
  refine ⟨?_, rfl⟩
  rw [shl_25, shr_7, or_uw, rotr_eq x 7]
  rfl
theorem rotl_18 (x : W32) (w : World) :
    Calls Tryz.prog 164 #[.int .u32 (uw x), .int .i64 (-18)] w fun e w' => e = .returned (.int .u32 (uw (rotr x 18))) ∧ w = w' := by
  have h1 : bits .and .u64 (IntKind.u64.wrap (-18)) 31 = 14 := by decide +kernel
  have h2 : IntKind.u64.wrap (32 - 14) = 18 := by decide +kernel
  go_enter Tryz.func164, Tryz.ntmps164
  go_wp2
  go_ret
  refine ⟨?_, rfl⟩
  rw [shl_14, shr_18, or_uw, rotr_eq x 18]
  rfl
theorem rotl_17 (x : W32) (w : World) :
    Calls Tryz.prog 164 #[.int .u32 (uw x), .int .i64 (-17)] w fun e w' => e = .returned (.int .u32 (uw (rotr x 17))) ∧ w = w' := by
  have h1 : bits .and .u64 (IntKind.u64.wrap (-17)) 31 = 15 := by decide +kernel
  have h2 : IntKind.u64.wrap (32 - 15) = 17 := by decide +kernel
  go_enter Tryz.func164, Tryz.ntmps164
  go_wp2
  go_ret
  refine ⟨?_, rfl⟩
  rw [shl_15, shr_17, or_uw, rotr_eq x 17]
  rfl
theorem rotl_19 (x : W32) (w : World) :
    Calls Tryz.prog 164 #[.int .u32 (uw x), .int .i64 (-19)] w fun e w' => e = .returned (.int .u32 (uw (rotr x 19))) ∧ w = w' := by
  have h1 : bits .and .u64 (IntKind.u64.wrap (-19)) 31 = 13 := by decide +kernel
  have h2 : IntKind.u64.wrap (32 - 13) = 19 := by decide +kernel
  go_enter Tryz.func164, Tryz.ntmps164
  go_wp2
  go_ret
  refine ⟨?_, rfl⟩
  rw [shl_13, shr_19, or_uw, rotr_eq x 19]
  rfl
theorem rotl_6 (x : W32) (w : World) :
    Calls Tryz.prog 164 #[.int .u32 (uw x), .int .i64 (-6)] w fun e w' => e = .returned (.int .u32 (uw (rotr x 6))) ∧ w = w' := by
  have h1 : bits .and .u64 (IntKind.u64.wrap (-6)) 31 = 26 := by decide +kernel
  have h2 : IntKind.u64.wrap (32 - 26) = 6 := by decide +kernel
  go_enter Tryz.func164, Tryz.ntmps164
  go_wp2
  go_ret
  refine ⟨?_, rfl⟩
  rw [shl_26, shr_6, or_uw, rotr_eq x 6]
  rfl
theorem rotl_11 (x : W32) (w : World) :
    Calls Tryz.prog 164 #[.int .u32 (uw x), .int .i64 (-11)] w fun e w' => e = .returned (.int .u32 (uw (rotr x 11))) ∧ w = w' := by
  have h1 : bits .and .u64 (IntKind.u64.wrap (-11)) 31 = 21 := by decide +kernel
  have h2 : IntKind.u64.wrap (32 - 21) = 11 := by decide +kernel
  go_enter Tryz.func164, Tryz.ntmps164
  go_wp2
  go_ret
  refine ⟨?_, rfl⟩
  rw [shl_21, shr_11, or_uw, rotr_eq x 11]
  rfl
theorem rotl_25 (x : W32) (w : World) :
    Calls Tryz.prog 164 #[.int .u32 (uw x), .int .i64 (-25)] w fun e w' => e = .returned (.int .u32 (uw (rotr x 25))) ∧ w = w' := by
  have h1 : bits .and .u64 (IntKind.u64.wrap (-25)) 31 = 7 := by decide +kernel
  have h2 : IntKind.u64.wrap (32 - 7) = 25 := by decide +kernel
  go_enter Tryz.func164, Tryz.ntmps164
  go_wp2
  go_ret
  refine ⟨?_, rfl⟩
  rw [shl_7, shr_25, or_uw, rotr_eq x 25]
  rfl
theorem rotl_2 (x : W32) (w : World) :
    Calls Tryz.prog 164 #[.int .u32 (uw x), .int .i64 (-2)] w fun e w' => e = .returned (.int .u32 (uw (rotr x 2))) ∧ w = w' := by
  have h1 : bits .and .u64 (IntKind.u64.wrap (-2)) 31 = 30 := by decide +kernel
  have h2 : IntKind.u64.wrap (32 - 30) = 2 := by decide +kernel
  go_enter Tryz.func164, Tryz.ntmps164
  go_wp2
  go_ret
  refine ⟨?_, rfl⟩
  rw [shl_30, shr_2, or_uw, rotr_eq x 2]
  rfl
theorem rotl_13 (x : W32) (w : World) :
    Calls Tryz.prog 164 #[.int .u32 (uw x), .int .i64 (-13)] w fun e w' => e = .returned (.int .u32 (uw (rotr x 13))) ∧ w = w' := by
  have h1 : bits .and .u64 (IntKind.u64.wrap (-13)) 31 = 19 := by decide +kernel
  have h2 : IntKind.u64.wrap (32 - 19) = 13 := by decide +kernel
  go_enter Tryz.func164, Tryz.ntmps164
  go_wp2
  go_ret
  refine ⟨?_, rfl⟩
  rw [shl_19, shr_13, or_uw, rotr_eq x 13]
  rfl
theorem rotl_22 (x : W32) (w : World) :
    Calls Tryz.prog 164 #[.int .u32 (uw x), .int .i64 (-22)] w fun e w' => e = .returned (.int .u32 (uw (rotr x 22))) ∧ w = w' := by
  have h1 : bits .and .u64 (IntKind.u64.wrap (-22)) 31 = 10 := by decide +kernel
  have h2 : IntKind.u64.wrap (32 - 10) = 22 := by decide +kernel
  go_enter Tryz.func164, Tryz.ntmps164
  go_wp2
  go_ret
  refine ⟨?_, rfl⟩
  rw [shl_10, shr_22, or_uw, rotr_eq x 22]
  rfl
theorem mixed_bs1 (x : W32) (w : World) :
    Calls Tryz.prog 130 #[.int .u32 (uw x), .int .i64 6, .int .i64 11, .int .i64 25] w fun e w' => e = .returned (.int .u32 (uw (bs1 x))) ∧ w = w' := by
  go_enter Tryz.func130, Tryz.ntmps130
  go_wp2_with fail
  refine (rotl_6 x _).mono ?_
  rintro e w' ⟨rfl, rfl⟩
  go_wp2_with fail
  refine (rotl_11 x _).mono ?_
  rintro e w' ⟨rfl, rfl⟩
  go_wp2_with fail
  refine (rotl_25 x _).mono ?_
  rintro e w' ⟨rfl, rfl⟩
  go_wp2_with fail
  go_ret
  refine ⟨?_, rfl⟩
  rw [xor_uw, xor_uw]
  rfl
theorem mixed_bs0 (x : W32) (w : World) :
    Calls Tryz.prog 130 #[.int .u32 (uw x), .int .i64 2, .int .i64 13, .int .i64 22] w fun e w' => e = .returned (.int .u32 (uw (bs0 x))) ∧ w = w' := by
  go_enter Tryz.func130, Tryz.ntmps130
  go_wp2_with fail
  refine (rotl_2 x _).mono ?_
  rintro e w' ⟨rfl, rfl⟩
  go_wp2_with fail
  refine (rotl_13 x _).mono ?_
  rintro e w' ⟨rfl, rfl⟩
  go_wp2_with fail
  refine (rotl_22 x _).mono ?_
  rintro e w' ⟨rfl, rfl⟩
  go_wp2_with fail
  go_ret
  refine ⟨?_, rfl⟩
  rw [xor_uw, xor_uw]
  rfl
end Go.Proofs.YthlkgmdkabelpaaGreatDoor
namespace Go.Proofs.YthlkgmdkabelpaaGreatDoor
open Go Go.RowKit
def wvs (l : List W32) : List Value := l.map uv
theorem length_wvs (l : List W32) : (wvs l).length = l.length := by simp [wvs]
theorem oneCell_wvs (l : List W32) : ∀ v ∈ wvs l, v.oneCell' = true := by
  intro v hv
  simp only [wvs, List.mem_map] at hv
  obtain ⟨x, _, rfl⟩ := hv
  rfl
def arr (l : List W32) : Array Value := (wvs l).toArray
theorem size_arr (l : List W32) : (arr l).size = l.length := by simp [arr, wvs]
theorem all_arr (l : List W32) : (arr l).all (·.oneCell') = true := all_oneCell_toArray (oneCell_wvs l)
theorem arr_get (l : List W32) (i : Nat) (h : i < l.length) : (arr l)[i]? = some (.int .u32 (uw (wAt l i))) := by
  simp [arr, wvs, wAt, uv, List.getElem?_map, List.getElem?_eq_getElem h]
section
variable {P : Program}
theorem wpList_build_as {ops : Array Oper} {rest : List Oper} {o : Oper} {a : Act} {w : World} {Q : Exit → Act → World → Prop} (hg : o.guard = none) (t : TypeId) (parts : Array (Nat × Operand)) (ho : o.op = .build t parts)
    (cells : Array Value) (hf : P.built t (parts.map fun (i, x) => (i, a.eval x)).toList = some cells)
    (h : wpList P ops Q rest (a.put o.dst (.agg cells)) w) : wpList P ops Q (o :: rest) a w :=
  wpList_build hg t parts ho (by rw [hf]; rfl) (by rw [hf]; exact h)
theorem wpList_store_new {ops : Array Oper} {rest : List Oper} {o : Oper} {a : Act} {w : World} {Q : Exit → Act → World → Prop} (hgd : o.guard = none) (ty : TypeId) (x y : Operand) (ho : o.op = .store ty x y)
    (old cells : Array Value) (hx : a.eval x = .pointer (some ⟨w.heap.size, 0, none⟩)) (hy : a.eval y = .agg cells)
    (hi : (P.info? ty).map (·.size) = some cells.size) (hold : old.size = cells.size) (h1 : cells.all (·.oneCell') = true)
    (h : wpList P ops Q rest (a.put o.dst undef) (w.alloc (.cells cells ty))) : wpList P ops Q (o :: rest) a (w.alloc (.cells old ty)) :=
  wpList_store_row hgd ty x y ho w.heap.size cells hx hy ty old (heap_alloc_last w _) hi hold h1 (by rw [World.setRow_alloc_new]; exact h)
end
theorem heap_alloc_at1 {w : World} {o o' : Obj} : ((w.alloc o).alloc o').heap[w.heap.size + 1]? = some o' := by
  have e := heap_alloc_at (w := w.alloc o) (o := o')
  rw [World.size_alloc] at e
  exact e
theorem heap_alloc_at0 {w : World} {o o' : Obj} : ((w.alloc o).alloc o').heap[w.heap.size]? = some o := by
  rw [Below.heap_alloc _ _ _ (by simp)]; exact heap_alloc_at
theorem zeros64 : (#[Value.int IntKind.u32 0, Value.int IntKind.u32 0, Value.int IntKind.u32 0, Value.int IntKind.u32 0, Value.int IntKind.u32 0, Value.int IntKind.u32 0, Value.int IntKind.u32 0, Value.int IntKind.u32 0, Value.int IntKind.u32 0, Value.int IntKind.u32 0, Value.int IntKind.u32 0, Value.int IntKind.u32 0, Value.int IntKind.u32 0, Value.int IntKind.u32 0, Value.int IntKind.u32 0, Value.int IntKind.u32 0, Value.int IntKind.u32 0, Value.int IntKind.u32 0, Value.int IntKind.u32 0, Value.int IntKind.u32 0, Value.int IntKind.u32 0, Value.int IntKind.u32 0, Value.int IntKind.u32 0, Value.int IntKind.u32 0, Value.int IntKind.u32 0, Value.int IntKind.u32 0, Value.int IntKind.u32 0, Value.int IntKind.u32 0, Value.int IntKind.u32 0, Value.int IntKind.u32 0, Value.int IntKind.u32 0, Value.int IntKind.u32 0, Value.int IntKind.u32 0, Value.int IntKind.u32 0, Value.int IntKind.u32 0, Value.int IntKind.u32 0, Value.int IntKind.u32 0, Value.int IntKind.u32 0, Value.int IntKind.u32 0, Value.int IntKind.u32 0, Value.int IntKind.u32 0, Value.int IntKind.u32 0, Value.int IntKind.u32 0, Value.int IntKind.u32 0, Value.int IntKind.u32 0, Value.int IntKind.u32 0, Value.int IntKind.u32 0, Value.int IntKind.u32 0, Value.int IntKind.u32 0, Value.int IntKind.u32 0, Value.int IntKind.u32 0, Value.int IntKind.u32 0, Value.int IntKind.u32 0, Value.int IntKind.u32 0, Value.int IntKind.u32 0, Value.int IntKind.u32 0, Value.int IntKind.u32 0, Value.int IntKind.u32 0, Value.int IntKind.u32 0, Value.int IntKind.u32 0, Value.int IntKind.u32 0, Value.int IntKind.u32 0, Value.int IntKind.u32 0, Value.int IntKind.u32 0] : Array Value) = arr (List.replicate 64 0) := by kernel_rfl
theorem size64 (l : List W32) (h : l.length = 64) : (Tryz.prog.info? 229).map (·.size) = some (arr l).size := by rw [size_arr, h]; kernel_rfl
theorem size8 (l : List W32) (h : l.length = 8) : (Tryz.prog.info? 179).map (·.size) = some (arr l).size := by rw [size_arr, h]; kernel_rfl
set_option maxRecDepth 100000 in
theorem rounds_any (w : World) : Calls Tryz.prog 129 #[] w fun e w' => e = .returned (.agg (arr kc)) ∧ Keeps noBlock w w' := by
  go_enter Tryz.func129, Tryz.ntmps129
  go_wp2_with (first
    | (refine wpList_build_as rfl _ _ rfl (arr kc) (by kernel_rfl) ?_)
    | (refine wpList_store_new rfl _ _ _ rfl _ (arr kc) rfl rfl (size64 kc rfl) rfl (all_arr kc) ?_))
  refine bodyPost_ret (results_cell_row rfl _ _ w.heap.size _ (arr kc) (0, 0) _ rfl heap_alloc_at Tryz.underlying229 rfl (size64 kc rfl)) rfl ⟨rfl, (Keeps.refl _ _).alloc _⟩
set_option maxRecDepth 100000 in
theorem start_any (w : World) : Calls Tryz.prog 91 #[] w fun e w' => e = .returned (.agg (arr iv)) ∧ Keeps noBlock w w' := by
  go_enter Tryz.func91, Tryz.ntmps91
  go_wp2_with (first
    | (refine wpList_build_as rfl _ _ rfl (arr iv) (by kernel_rfl) ?_)
    | (refine wpList_store_new rfl _ _ _ rfl _ (arr iv) rfl rfl (size8 iv rfl) rfl (all_arr iv) ?_))
  refine bodyPost_ret (results_cell_row rfl _ _ w.heap.size _ (arr iv) (0, 0) _ rfl heap_alloc_at Tryz.underlying179 rfl (size8 iv rfl)) rfl ⟨rfl, (Keeps.refl _ _).alloc _⟩
end Go.Proofs.YthlkgmdkabelpaaGreatDoor
namespace Go.Proofs.YthlkgmdkabelpaaGreatDoor
open Go Go.RowKit
theorem conv_m (b : UInt8) : (b.toNat : Int) % (4294967296 : Int) = uw (b32 b) := by rw [← conv_u8, IntKind.wrap_u32]
theorem word_any (g o n cap : Nat) (x y z t : UInt8) (w : World) (hn : 4 ≤ n) (h0 : w.cell? ⟨g, o, none⟩ = some (.int .u8 (x.toNat : Int))) (h1 : w.cell? ⟨g, o + 1, none⟩ = some (.int .u8 (y.toNat : Int)))
    (h2 : w.cell? ⟨g, o + 2, none⟩ = some (.int .u8 (z.toNat : Int))) (h3 : w.cell? ⟨g, o + 3, none⟩ = some (.int .u8 (t.toNat : Int))) :
    Calls Tryz.prog 163 #[.slice (some ⟨g, o, none⟩) n cap] w fun e w' => e = .returned (.int .u32 (uw (word4 x y z t))) ∧ Keeps noBlock w w' := by
  have hn0 : (0 : Int) < (n : Int) := by omega
  have hn1 : (1 : Int) < (n : Int) := by omega
  have hn2 : (2 : Int) < (n : Int) := by omega
  have hn3 : (3 : Int) < (n : Int) := by omega
  go_enter Tryz.func163, Tryz.ntmps163
  go_wp2_with fail
  go_quiet (fail)
  go_wp2_with fail
  go_ret
  refine ⟨?_, (Keeps.refl noBlock w).drewN _⟩
  simp only [conv_m, shl_24, shl_16, shl_8, or_uw]
  rfl
def BytesAt (w : World) (g off : Nat) (b : List UInt8) : Prop := ∀ j, j < 64 → w.cell? ⟨g, off + j, none⟩ = some (.int .u8 ((b.getD j 0).toNat : Int))
theorem BytesAt.keep {S : Nat → Prop} {w w' : World} {g off : Nat} {b : List UInt8} (h : BytesAt w g off b) (hk : Keeps S w w') (hs : ¬ S g) : BytesAt w' g off b :=
  fun j hj => hk.cell (h j hj) hs
def schedRow (b : List UInt8) (k : Nat) : List W32 := sched b k ++ List.replicate (64 - k) 0
theorem schedRow_length (b : List UInt8) (k : Nat) (h : k ≤ 64) : (schedRow b k).length = 64 := by simp [schedRow, sched_length]; omega
theorem schedRow_get (b : List UInt8) (k i : Nat) (h : i < k) : wAt (schedRow b k) i = wAt (sched b k) i := by
  unfold wAt schedRow
  rw [List.getD_eq_getElem?_getD, List.getD_eq_getElem?_getD, List.getElem?_append_left (by rw [sched_length]; exact h)]
theorem schedRow_step (b : List UInt8) (k : Nat) (h : k < 64) : (arr (schedRow b k)).setIfInBounds k (.int .u32 (uw (nextW b (sched b k)))) = arr (schedRow b (k + 1)) := by
  have e : schedRow b (k + 1) = (schedRow b k).set k (nextW b (sched b k)) := by
    unfold schedRow
    rw [List.set_append_right _ _ (by rw [sched_length]; omega), sched_length, Nat.sub_self]
    rw [show 64 - k = (64 - (k + 1)) + 1 by omega, List.replicate_succ, List.set_cons_zero]
    simp [sched]
  rw [e]
  unfold arr wvs
  rw [List.map_set]
  simp [uv]
def SchedRel (w : World) (g : Nat) (b : List UInt8) (i : Value) (wr : World) : Prop :=
  ∃ k : Nat, i = .int .i64 (k : Int) ∧ k ≤ 64 ∧ wr.heap[g]? = some (.cells (arr (schedRow b k)) 229 (0, 0)) ∧ Keeps (fun x => x = g) w wr
theorem cell_arr {w : World} {g : Nat} {l : List W32} {t : TypeId} (h : w.heap[g]? = some (.cells (arr l) t (0, 0))) (i : Nat) (hi : i < l.length) : w.cell? ⟨g, i, none⟩ = some (.int .u32 (uw (wAt l i))) := by
  rw [cell_of_heap h, arr_get l i hi]
theorem add4_uw (a b c d : W32) : (uw a + uw b + uw c + uw d) % (4294967296 : Int) = uw (a + b + c + d) := by
  rw [← add_uw, ← add_uw, ← add_uw, IntKind.wrap_u32, IntKind.wrap_u32, IntKind.wrap_u32]
  omega
set_option maxRecDepth 100000 in
set_option maxHeartbeats 1000000 in
theorem schedule_any (g off cap : Nat) (b : List UInt8) (w : World) (hb : BytesAt w g off b) (hc : 64 ≤ cap) :
    Calls Tryz.prog 128 #[.slice (some ⟨g, off, none⟩) 64 cap] w fun e w' => e = .returned (.agg (arr (sched b 64))) ∧ Keeps noBlock w w' := by
  have hgl : g < w.heap.size := World.block_lt_of_cell? w _ (hb 0 (by omega))
  obtain ⟨w2, hw2⟩ : ∃ w2, w2 = (w.alloc (.cells (arr (List.replicate 64 0)) 229)).alloc (.cells (arr (List.replicate 64 0)) 229) := ⟨_, rfl⟩
  have hz := zeros64
  have k2 : Keeps noBlock w w2 := by rw [hw2]; exact ((Keeps.refl _ _).alloc _).alloc _
  have hb2 := hb.keep k2 (fun e => e)
  have h0 : w2.heap[w.heap.size]? = some (.cells (arr (List.replicate 64 0)) 229 (0, 0)) := by
    rw [hw2, Below.heap_alloc _ _ _ (by simp)]; exact heap_alloc_at
  have h1 : w2.heap[w.heap.size + 1]? = some (.cells (arr (schedRow b 0)) 229 (0, 0)) := by
    rw [hw2]
    have e := heap_alloc_at (w := w.alloc (.cells (arr (List.replicate 64 0)) 229)) (o := .cells (arr (List.replicate 64 0)) 229)
    rw [World.size_alloc] at e
    exact e
  have HB := Lib.hid hb2; have H0 := Lib.hid h0; have H1 := Lib.hid h1; have K2 := Lib.hid k2; have HZ := Lib.hid hz; have HW2 := Lib.hid hw2
  have HC := Lib.hid hc
  clear hb hb2 h0 h1 k2 hz hw2 hc
  go_enter Tryz.func128, Tryz.ntmps128
  go_wp2_with fail
  rw [HZ.out, ← HW2.out]
  go_loopw [9] (SchedRel w2 (w.heap.size + 1) b) (fun i _ => 64 - (intOf i).toNat)
  case atStart => exact ⟨0, rfl, by omega, H1.out, Keeps.refl _ _⟩
  case round =>
    obtain ⟨k, rfl, hk, hr, hkr⟩ := hrel
    by_cases hlt : k < 64
    · by_cases h16 : k < 16
      · have hbr := HB.out.keep hkr (fun e => by omega)
        have hne : ¬ cap = 4 * k := by have := HC.out; omega
        have hk0 : (0 : Int) ≤ (k : Int) := by omega
        have hk1 : (k : Int) < 16 := by omega
        have hk64 : (k : Int) < 64 := by omega
        have HBR := Lib.hid hbr; have HR := Lib.hid hr; have HKR := Lib.hid hkr
        clear hbr hr hkr
        go_wp2_with fail
        have e4 : ∀ j, j < 4 → wr.cell? ⟨g, off + 4 * k + j, none⟩ = some (.int .u8 ((b.getD (4 * k + j) 0).toNat : Int)) := fun j hj => by
          have := HBR.out (4 * k + j) (by omega)
          rwa [← Nat.add_assoc] at this
        refine (word_any g (off + 4 * k) (64 - 4 * k) (cap - 4 * k) _ _ _ _ wr (by omega) (e4 0 (by omega)) (e4 1 (by omega)) (e4 2 (by omega)) (e4 3 (by omega))).mono ?_
        rintro e w3 ⟨rfl, k3⟩
        have hr3 := k3.heap HR.out (fun e => e)
        have hc3 := cell_arr hr3 k (by rw [schedRow_length b k (by omega)]; exact hlt)
        have hf3 := frozen_of_heap hr3 k
        have HR3 := Lib.hid hr3; have K3 := Lib.hid k3
        clear hr3 k3 e4
        go_wp2_with fail
        go_roundw
        case rel =>
          refine ⟨k + 1, by simp, by omega, ?_, (HKR.out.trans (K3.out.any' _)).setCell (fun _ => rfl) _⟩
          rw [heap_set HR3.out, ← schedRow_step b k hlt]
          unfold nextW
          rw [sched_length, if_pos h16]
          rfl
        case measure => simp [intOf]; omega
      · have g15 := schedRow_get b k (k - 15) (by omega)
        have g2 := schedRow_get b k (k - 2) (by omega)
        have g16 := schedRow_get b k (k - 16) (by omega)
        have g7 := schedRow_get b k (k - 7) (by omega)
        have hl := schedRow_length b k (by omega)
        have c15 := cell_arr hr (k - 15) (by rw [hl]; omega)
        have c2 := cell_arr hr (k - 2) (by rw [hl]; omega)
        have c16 := cell_arr hr (k - 16) (by rw [hl]; omega)
        have c7 := cell_arr hr (k - 7) (by rw [hl]; omega)
        have ck := cell_arr hr k (by rw [hl]; omega)
        have cf := frozen_of_heap hr k
        have hnx : nextW b (sched b k) = wAt (schedRow b k) (k - 16) + sg0 (wAt (schedRow b k) (k - 15)) + wAt (schedRow b k) (k - 7) + sg1 (wAt (schedRow b k) (k - 2)) := by
          unfold nextW
          rw [sched_length, if_neg h16, g15, g2, g16, g7]
        clear g15 g2 g16 g7 hl
        obtain ⟨i15, h15⟩ : ∃ i, i = k - 15 := ⟨_, rfl⟩
        obtain ⟨i2, h2⟩ : ∃ i, i = k - 2 := ⟨_, rfl⟩
        obtain ⟨i16, hi16⟩ : ∃ i, i = k - 16 := ⟨_, rfl⟩
        obtain ⟨i7, h7⟩ : ∃ i, i = k - 7 := ⟨_, rfl⟩
        rw [← h15] at c15 hnx; rw [← h2] at c2 hnx; rw [← hi16] at c16 hnx; rw [← h7] at c7 hnx
        obtain ⟨a15, e15⟩ : ∃ x, x = wAt (schedRow b k) i15 := ⟨_, rfl⟩
        obtain ⟨a2, e2⟩ : ∃ x, x = wAt (schedRow b k) i2 := ⟨_, rfl⟩
        obtain ⟨a16, e16⟩ : ∃ x, x = wAt (schedRow b k) i16 := ⟨_, rfl⟩
        obtain ⟨a7, e7⟩ : ∃ x, x = wAt (schedRow b k) i7 := ⟨_, rfl⟩
        rw [← e15] at c15 hnx; rw [← e2] at c2 hnx; rw [← e16] at c16 hnx; rw [← e7] at c7 hnx
        clear e15 e2 e16 e7
        have hk0 : (0 : Int) ≤ (k : Int) := by omega
        have hk1 : ¬ (k : Int) < 16 := by omega
        have hk16 : (16 : Int) ≤ (k : Int) := by omega
        have hk64 : (k : Int) < 64 := by omega
        have p15 : (0 : Int) ≤ (i15 : Int) ∧ (i15 : Int) < 64 := by omega
        have p2 : (0 : Int) ≤ (i2 : Int) ∧ (i2 : Int) < 64 := by omega
        have p16 : (0 : Int) ≤ (i16 : Int) ∧ (i16 : Int) < 64 := by omega
        have p7 : (0 : Int) ≤ (i7 : Int) ∧ (i7 : Int) < 64 := by omega
        have w15 : IntKind.i64.wrap ((k : Int) - 15) = (i15 : Int) := by rw [IntWalk.i64_in _ (by omega)]; omega
        have wi2 : IntKind.i64.wrap ((k : Int) - 2) = (i2 : Int) := by rw [IntWalk.i64_in _ (by omega)]; omega
        have w16 : IntKind.i64.wrap ((k : Int) - 16) = (i16 : Int) := by rw [IntWalk.i64_in _ (by omega)]; omega
        have w7 : IntKind.i64.wrap ((k : Int) - 7) = (i7 : Int) := by rw [IntWalk.i64_in _ (by omega)]; omega
        have HR := Lib.hid hr; have HKR := Lib.hid hkr; have HNX := Lib.hid hnx
        clear hr hkr hnx h15 h2 hi16 h7
        go_wp2_with fail
        go_quiet (fail)
        go_wp2_with fail
        refine (rotl_7 a15 _).mono ?_
        rintro e w3 ⟨rfl, rfl⟩
        go_wp2_with fail
        refine (rotl_18 a15 _).mono ?_
        rintro e w3 ⟨rfl, rfl⟩
        go_wp2_with fail
        refine (rotl_17 a2 _).mono ?_
        rintro e w3 ⟨rfl, rfl⟩
        go_wp2_with fail
        refine (rotl_19 a2 _).mono ?_
        rintro e w3 ⟨rfl, rfl⟩
        go_wp2_with fail
        go_region
        go_wp2_with fail
        go_roundw
        case rel =>
          refine ⟨k + 1, by simp, by omega, ?_, ((HKR.out.drewN _).setCell (fun _ => rfl) _)⟩
          simp only [shr_3, shr_10, xor_uw]
          have hh : (wr.drewN (nq + 1)).heap[w.heap.size + 1]? = some (.cells (arr (schedRow b k)) 229 (0, 0)) := HR.out
          rw [add4_uw, heap_set hh, ← schedRow_step b k hlt, HNX.out]
          rfl
        case measure => simp [intOf]; omega
    · obtain rfl : k = 64 := by omega
      have e64 : schedRow b 64 = sched b 64 := by simp [schedRow]
      rw [e64] at hr
      have h0 := hkr.heap H0.out (fun e => by omega)
      have hl : (sched b 64).length = 64 := sched_length b 64
      have hs := size64 _ hl
      have HR := Lib.hid hr; have HKR := Lib.hid hkr; have HH0 := Lib.hid h0; have HS := Lib.hid hs; have HL := Lib.hid hl
      clear hr hkr h0 hs hl e64 hlt
      go_wp2_with (first
        | (refine wpList_load_row rfl _ _ rfl (w.heap.size + 1) rfl _ (arr (sched b 64)) (0, 0) _ HR.out Tryz.underlying229 rfl HS.out ?_)
        | (refine wpList_store_row rfl _ _ _ rfl w.heap.size (arr (sched b 64)) rfl rfl _ _ HH0.out HS.out (by rw [size_arr, size_arr, HL.out]; rfl) (all_arr _) ?_))
      refine bodyPost_ret (results_cell_row rfl _ _ w.heap.size _ (arr (sched b 64)) (0, 0) _ rfl (setRow_heap _ _ _ _ _ _ HH0.out) Tryz.underlying229 rfl HS.out) rfl ⟨rfl, ?_⟩
      have hk := HKR.out.mono (T := fun x => x = w.heap.size ∨ x = w.heap.size + 1) (fun _ _ e => .inr e)
      have hk2 : Keeps (fun x => x = w.heap.size ∨ x = w.heap.size + 1) w2 (wr.setRow w.heap.size (arr (sched b 64))) :=
        hk.trans ⟨rfl, rfl, rfl, by simp, fun j hj hn => setRow_other _ _ _ _ (fun e => hn (.inl e))⟩
      exact K2.out.trans' hk2 (fun j hj e => by omega)
end Go.Proofs.YthlkgmdkabelpaaGreatDoor
namespace Go.Proofs.YthlkgmdkabelpaaGreatDoor
open Go Go.RowKit
theorem add2_uw (a b : W32) : (uw a + uw b) % (4294967296 : Int) = uw (a + b) := by
  rw [← add_uw, IntKind.wrap_u32]
theorem add5_uw (a b c d e : W32) : (uw a + uw b + uw c + uw d + uw e) % (4294967296 : Int) = uw (a + b + c + d + e) := by
  rw [← add_uw, ← add_uw, ← add_uw, ← add_uw, IntKind.wrap_u32, IntKind.wrap_u32, IntKind.wrap_u32, IntKind.wrap_u32]
  omega
def AddRel (w : World) (T : List W32) (s : S8) (a b c d e f g h i : Value) (wr : World) : Prop :=
  ∃ k : Nat, i = .int .i64 (k : Int) ∧ k ≤ 64 ∧ a = .int .u32 (uw (rnds T s k).a) ∧ b = .int .u32 (uw (rnds T s k).b) ∧ c = .int .u32 (uw (rnds T s k).c) ∧ d = .int .u32 (uw (rnds T s k).d) ∧
    e = .int .u32 (uw (rnds T s k).e) ∧ f = .int .u32 (uw (rnds T s k).f) ∧ g = .int .u32 (uw (rnds T s k).g) ∧ h = .int .u32 (uw (rnds T s k).h) ∧ Keeps noBlock w wr
theorem run_index_arr {P : Program} (T e : TypeId) (n : Nat) (hu : P.underlying T = some (.array n e)) (hsz : (P.info? e).map (·.size) = some 1) (hue : P.underlying e = some (.int .u32)) (l : List W32) (k : Nat) (hk : k < n) (hl : l.length = n) (w : World) :
    (Instr.index T (.agg (arr l)) (.int .i64 (k : Int))).run P w = .ok (.int .u32 (uw (wAt l k))) w := by
  cases hq : P.info? e with
  | none => simp [hq] at hsz
  | some i =>
    have hi : i.size = 1 := by simpa [hq] using hsz
    have h1 : (arr l)[k]? = some (.int .u32 (uw (wAt l k))) := arr_get l k (by omega)
    have h2 : k < (arr l).size := by rw [size_arr]; omega
    have h3 : (arr l)[k] = .int .u32 (uw (wAt l k)) := by rw [Array.getElem?_eq_getElem h2] at h1; exact Option.some.inj h1
    have hagg : (isAgg e).run P w = .ok false w := by
      unfold isAgg
      rw [Sem.run_bind, run_underlying hue w]
      rfl
    simp [Instr.index, asIntOf, run_underlying hu, sizeOf, typeInfo, hq, hi, hk, part, h1, hagg]
def mixL (s t : S8) (k : Nat) : List W32 := (List.range 8).map fun i => if i < k then wAt s.list i + wAt t.list i else wAt s.list i
theorem mixL_length (s t : S8) (k : Nat) : (mixL s t k).length = 8 := by simp [mixL]
theorem mixL_get (s t : S8) (k : Nat) (h : k < 8) : wAt (mixL s t k) k = wAt s.list k := by
  unfold mixL
  rw [wAt, List.getD_eq_getElem?_getD]
  simp [h]
theorem mixL_step (s t : S8) (k : Nat) (h : k < 8) : (arr (mixL s t k)).setIfInBounds k (.int .u32 (uw (wAt s.list k + wAt t.list k))) = arr (mixL s t (k + 1)) := by
  match k, h with
  | 0, _ => rfl
  | 1, _ => rfl
  | 2, _ => rfl
  | 3, _ => rfl
  | 4, _ => rfl
  | 5, _ => rfl
  | 6, _ => rfl
  | 7, _ => rfl
def AddRel2 (w : World) (sb : Nat) (s t : S8) (i : Value) (wr : World) : Prop :=
  ∃ k : Nat, i = .int .i64 (k : Int) ∧ k ≤ 8 ∧ wr.heap[sb]? = some (.cells (arr (mixL s t k)) 179 (0, 0)) ∧ Keeps (fun x => x = sb) w wr
set_option maxRecDepth 100000 in
set_option maxHeartbeats 1000000 in
theorem add_any (sb g off cap : Nat) (s : S8) (b : List UInt8) (w : World) (hs : w.heap[sb]? = some (.cells (arr s.list) 179 (0, 0))) (hb : BytesAt w g off b) (hc : 64 ≤ cap) (hne : g ≠ sb) :
    Calls Tryz.prog 93 #[.pointer (some ⟨sb, 0, none⟩), .slice (some ⟨g, off, none⟩) 64 cap] w fun e w' => e = .returned (.tuple #[]) ∧
      w'.heap[sb]? = some (.cells (arr (blk s b).list) 179 (0, 0)) ∧ Keeps (fun x => x = sb) w w' := by
  have HS := Lib.hid hs; have HB := Lib.hid hb; have HNE := Lib.hid hne
  have hsl : sb < w.heap.size := lt_of_heap hs
  obtain ⟨T, hT⟩ : ∃ T, T = sched b 64 := ⟨_, rfl⟩
  have hlT : T.length = 64 := by rw [hT]; exact sched_length b 64
  have HT := Lib.hid hT; have HL := Lib.hid hlT
  clear hs hb hne hT hlT
  go_enter Tryz.func93, Tryz.ntmps93
  go_wp2_with fail
  refine (schedule_any g off cap b w HB.out hc).mono ?_
  rintro e w1 ⟨rfl, k1⟩
  have K1 := Lib.hid k1; have z1 := k1.size; clear k1
  rw [← HT.out]
  go_wp2_with fail
  refine (rounds_any w1).mono ?_
  rintro e w2 ⟨rfl, k2⟩
  have K2 := Lib.hid k2; have z2 := k2.size; clear k2
  obtain ⟨w3, hw3⟩ : ∃ w3, w3 = ((((w2.alloc (.cells (arr (List.replicate 64 0)) 229)).alloc (.cells (arr (List.replicate 64 0)) 229)).setRow w2.heap.size (arr T)).setRow (w2.heap.size + 1) (arr kc)) := ⟨_, rfl⟩
  have HW3 := Lib.hid hw3
  have hT3 : w3.heap[w2.heap.size]? = some (.cells (arr T) 229 (0, 0)) := by
    rw [hw3, setRow_other _ _ _ _ (by omega)]; exact setRow_heap _ _ _ _ _ _ heap_alloc_at0
  have hK3 : w3.heap[w2.heap.size + 1]? = some (.cells (arr kc) 229 (0, 0)) := by
    rw [hw3]; exact setRow_heap _ _ (arr (List.replicate 64 0)) _ _ _ (by rw [setRow_other _ _ _ _ (by omega)]; exact heap_alloc_at1)
  have k3 : Keeps noBlock w2 w3 := by
    rw [hw3]
    exact ⟨rfl, rfl, rfl, by simp only [setRow_size, World.size_alloc]; omega, fun j hj _ => by
      rw [setRow_other _ _ _ _ (by omega), setRow_other _ _ _ _ (by omega), Below.heap_alloc _ _ _ (by simp; omega), Below.heap_alloc _ _ _ hj]⟩
  have hs3 := (((K1.out.trans K2.out).trans k3)).heap HS.out (fun e => e)
  have K3 := Lib.hid (((K1.out.trans K2.out).trans k3)); have HT3 := Lib.hid hT3; have HK3 := Lib.hid hK3; have HS3 := Lib.hid hs3
  have hl8 : s.list.length = 8 := rfl
  have c0 := cell_arr hs3 0 (by rw [hl8]; omega)
  have c1 := cell_arr hs3 1 (by rw [hl8]; omega)
  have c2 := cell_arr hs3 2 (by rw [hl8]; omega)
  have c3 := cell_arr hs3 3 (by rw [hl8]; omega)
  have c4 := cell_arr hs3 4 (by rw [hl8]; omega)
  have c5 := cell_arr hs3 5 (by rw [hl8]; omega)
  have c6 := cell_arr hs3 6 (by rw [hl8]; omega)
  have c7 := cell_arr hs3 7 (by rw [hl8]; omega)
  clear hw3 hT3 hK3 k3 hs3 hl8
  go_wp2_with (first
    | (refine wpList_store_row rfl _ _ _ rfl w2.heap.size (arr T) rfl rfl 229 _ heap_alloc_at0 (size64 _ HL.out) (by rw [size_arr, HL.out]; rfl) (all_arr _) ?_)
    | (refine wpList_store_row rfl _ _ _ rfl (w2.heap.size + 1) (arr kc) rfl rfl 229 (arr (List.replicate 64 0)) (by rw [setRow_other _ _ _ _ (by omega), zeros64]; exact heap_alloc_at1) (size64 _ rfl) (by rfl) (all_arr _) ?_))
  rw [zeros64, ← HW3.out]
  go_frame
  go_quiet (fail)
  obtain ⟨w4, hw4⟩ : ∃ w4, w4 = w3.drewN nq := ⟨_, rfl⟩
  have K4 := Lib.hid (show Keeps noBlock w3 w4 by rw [hw4]; exact (Keeps.refl _ _).drewN _)
  rw [← hw4]
  clear hw4 c0 c1 c2 c3 c4 c5 c6 c7
  go_wp2_with fail
  go_loopw [6, 7, 8, 9, 10, 11, 12, 13, 54] (AddRel w4 T s) (fun _ _ _ _ _ _ _ _ i _ => 64 - (intOf i).toNat)
  case atStart => exact ⟨0, rfl, by omega, rfl, rfl, rfl, rfl, rfl, rfl, rfl, rfl, Keeps.refl _ _⟩
  case round =>
    obtain ⟨k, rfl, hk, rfl, rfl, rfl, rfl, rfl, rfl, rfl, rfl, hkr⟩ := hrel
    by_cases hlt : k < 64
    · have ct := cell_arr ((K4.out.trans hkr).heap HT3.out (fun e => e)) k (by rw [HL.out]; exact hlt)
      have ck := cell_arr ((K4.out.trans hkr).heap HK3.out (fun e => e)) k hlt
      obtain ⟨t, ht⟩ : ∃ t, t = rnds T s k := ⟨_, rfl⟩
      rw [← ht]
      obtain ⟨xt, hxt⟩ : ∃ x, x = wAt T k := ⟨_, rfl⟩
      obtain ⟨xk, hxk⟩ : ∃ x, x = wAt kc k := ⟨_, rfl⟩
      rw [← hxt] at ct; rw [← hxk] at ck
      obtain ⟨ta, tb, tc, td, te, tf, tg, th⟩ := t
      have hk0 : (0 : Int) ≤ (k : Int) := by omega
      have hk1 : (k : Int) < 64 := by omega
      have hsg : ¬ (IntKind.u32.signed = true) := by decide
      have hmx : IntKind.u32.max = 4294967295 := by decide
      have HR := Lib.hid ht; have HX := Lib.hid hxt; have HY := Lib.hid hxk; have HKR := Lib.hid hkr
      clear ht hxt hxk hkr
      go_wp2_with fail
      go_quiet ((go_at_call 130; exact Calls.quiet_of_same ((mixed_bs1 te _).mono fun _ _ h => ⟨h.1, h.2.symm⟩)))
      go_wp2_with fail
      refine (mixed_bs0 ta _).mono ?_
      rintro e w5 ⟨rfl, rfl⟩
      go_wp2_with fail
      go_roundw
      case rel =>
        have e1 : rnds T s (k + 1) = rnd ⟨ta, tb, tc, td, te, tf, tg, th⟩ xk xt := by rw [HR.out, HX.out, HY.out]; rfl
        refine ⟨k + 1, by simp, by omega, ?_, ?_, ?_, ?_, ?_, ?_, ?_, ?_, HKR.out.trans ((Keeps.refl noBlock wr).drewN _)⟩
        all_goals
          rw [e1]
          try simp only [not_uw, and_uw, xor_uw, add5_uw, add2_uw]
          try rfl
      case measure => simp [intOf]; omega
    · obtain rfl : k = 64 := by omega
      obtain ⟨t, ht⟩ : ∃ t, t = rnds T s 64 := ⟨_, rfl⟩
      rw [← ht]
      obtain ⟨ta, tb, tc, td, te, tf, tg, th⟩ := t
      have hsr := (K4.out.trans hkr).heap HS3.out (fun e => e)
      have HSR := Lib.hid hsr; have HR := Lib.hid ht; have HKR := Lib.hid (K4.out.trans hkr)
      clear hsr ht hkr hlt
      go_wp2_with fail
      obtain ⟨wo, rfl⟩ : ∃ wo : World, wo = wr := ⟨_, rfl⟩
      go_loopw [114] (AddRel2 wo sb s ⟨ta, tb, tc, td, te, tf, tg, th⟩) (fun i _ => 8 - (intOf i).toNat)
      case atStart => exact ⟨0, rfl, by omega, HSR.out, Keeps.refl _ _⟩
      case round =>
        obtain ⟨k, rfl, hk, hr, hkr⟩ := hrel
        by_cases hlt : k < 8
        · have hix := run_index_arr (P := Tryz.prog) 179 178 8 Tryz.underlying179 (by kernel_rfl) Tryz.underlying178 [ta, tb, tc, td, te, tf, tg, th] k hlt rfl
          have hix2 : ∀ w, (Instr.index 179 (.agg #[.int .u32 (uw ta), .int .u32 (uw tb), .int .u32 (uw tc), .int .u32 (uw td), .int .u32 (uw te), .int .u32 (uw tf), .int .u32 (uw tg), .int .u32 (uw th)]) (.int .i64 (k : Int))).run Tryz.prog w = .ok (.int .u32 (uw (wAt [ta, tb, tc, td, te, tf, tg, th] k))) w := hix
          obtain ⟨x, hx⟩ : ∃ x, x = wAt [ta, tb, tc, td, te, tf, tg, th] k := ⟨_, rfl⟩
          rw [← hx] at hix2
          have ck := cell_arr hr k (by rw [mixL_length]; exact hlt)
          rw [mixL_get _ _ _ hlt] at ck
          have cf := frozen_of_heap hr k
          obtain ⟨y, hy⟩ : ∃ y, y = wAt s.list k := ⟨_, rfl⟩
          rw [← hy] at ck
          have hk0 : (0 : Int) ≤ (k : Int) := by omega
          have hk1 : (k : Int) < 8 := by omega
          have HX := Lib.hid hx; have HY := Lib.hid hy; have HRR := Lib.hid hr; have HKR2 := Lib.hid hkr
          clear hix hx hy hr hkr
          go_wp2_with fail
          go_region
          go_wp2_with fail
          go_roundw
          case rel =>
            refine ⟨k + 1, by simp, by omega, ?_, ((HKR2.out.setCell (fun _ => rfl) _)).drew⟩
            show (wr.setCell _ _).heap[sb]? = _
            rw [add2_uw, heap_set HRR.out, ← mixL_step _ _ _ hlt, HX.out, HY.out]
            rfl
          case measure => simp [intOf]; omega
        · obtain rfl : k = 8 := by omega
          have HRR := Lib.hid hr; have HKR2 := Lib.hid hkr
          clear hr hkr hlt
          go_wp2_with fail
          go_end0
          refine ⟨rfl, ?_, ?_⟩
          · rw [HRR.out]
            have e : blk s b = addS s ⟨ta, tb, tc, td, te, tf, tg, th⟩ := by rw [HR.out, HT.out]; rfl
            rw [e]
            rfl
          · exact (((K3.out.trans HKR.out).any' _).trans HKR2.out)
end Go.Proofs.YthlkgmdkabelpaaGreatDoor
namespace Go.Proofs.YthlkgmdkabelpaaGreatDoor
open Go Go.RowKit Go.Shelf
attribute [local go_sem] Oper.semAt_some
def numsTo (N k : Nat) (pre : List (Fin N)) : Prop := pre.map (·.val) = List.range k
theorem numsTo_length {N k : Nat} {pre : List (Fin N)} (h : numsTo N k pre) : pre.length = k := by
  have := congrArg List.length h
  simpa using this
theorem numsTo_succ {N k : Nat} {pre : List (Fin N)} (h : numsTo N k pre) (x : Fin N) (hx : x.val = k) : numsTo N (k + 1) (pre ++ [x]) := by
  unfold numsTo at *
  rw [List.map_append, h, List.range_succ]
  simp [hx]
def pieceV (b : Nat) {N : Nat} (x : Fin N) : Array Value := #[.slice (some ⟨b, 64 * x.val, none⟩) 64 64]
def OneEnd (a1 : Act) (w1 : World) : Exit → Act → World → Prop
  | .normal, a', w' => a' = a1 ∧ w' = w1
  | _, _, _ => False
theorem wpIn_oneEnd {F : Fence} {n : Nat} {P : Program} {c : Code} {Q : Exit → Act → World → Prop} {a : Act} {w : World} {a1 : Act} {w1 : World}
    (h : c.wpIn F n P (OneEnd a1 w1) a w) (hk : Q .normal a1 w1) : c.wpIn F n P Q a w :=
  wpIn_mono h (by intro e a w h; cases e <;> first | (obtain ⟨rfl, rfl⟩ := h; exact hk) | exact h.elim)
theorem wp_oneEnd {P : Program} {c : Code} {Q : Exit → Act → World → Prop} {a : Act} {w : World} {a1 : Act} {w1 : World}
    (h : c.wp P (OneEnd a1 w1) a w) (hk : Q .normal a1 w1) : c.wp P Q a w :=
  Code.wp_mono (by intro e a w h; cases e <;> first | (obtain ⟨rfl, rfl⟩ := h; exact hk) | exact h.elim) h
theorem wpIn_one {F : Fence} {n : Nat} {P : Program} {c : Code} {Q : Exit → Act → World → Prop} {a : Act} {w : World} {a1 : Act} {w1 : World}
    (h : c.wpIn F n P (fun e a' w' => e = .normal ∧ a' = a1 ∧ w' = w1) a w) (hk : Q .normal a1 w1) : c.wpIn F n P Q a w :=
  wpIn_mono h (by rintro _ _ _ ⟨rfl, rfl, rfl⟩; exact hk)
theorem wp_one {P : Program} {c : Code} {Q : Exit → Act → World → Prop} {a : Act} {w : World} {a1 : Act} {w1 : World}
    (h : c.wp P (fun e a' w' => e = .normal ∧ a' = a1 ∧ w' = w1) a w) (hk : Q .normal a1 w1) : c.wp P Q a w :=
  Code.wp_mono (by rintro _ _ _ ⟨rfl, rfl, rfl⟩; exact hk) h
set_option maxRecDepth 100000 in
set_option maxHeartbeats 2000000 in
theorem chunk1_in (F : Fence) (n : Nat) (hf : F.fn 127) (hro : F.round = none) (hn : 1 ≤ n) (l Bs Bn b cap N : Nat) (T : Nat → Prop) (hN : N ≤ 2199023255552) (hcap : 64 * N ≤ cap)
    (hTs : ¬ T Bs) (hTn : ¬ T Bn) (J Jx : List (Fin N) → World → Prop)
    (hY : ∀ pre x W, J pre W → pre.length < N → YieldAt F (n - 1) Tryz.prog l (pieceV b x) W fun e W' =>
      (e = .returned (.bool true) ∧ J (pre ++ [x]) W' ∧ Keeps T W W') ∨ (e = .returned (.bool false) ∧ Jx (pre ++ [x]) W'))
    (hJd : ∀ pre W, J pre W → J pre W.drew)
    (W : World) (hBs : W.cell? ⟨Bs, 0, none⟩ = some (.slice (some ⟨b, 0, none⟩) (64 * N) cap)) (hBn : W.cell? ⟨Bn, 0, none⟩ = some (.int .i64 64)) (h0 : J [] W) :
    CallsIn F n Tryz.prog 127 #[.func (.yield l) #[] #[], .pointer (some ⟨Bs, 0, none⟩), .pointer (some ⟨Bn, 0, none⟩)] W fun e W' => (∃ v, e = .returned v) ∧
      ((∃ ys, numsTo N N ys ∧ J ys W') ∨ (∃ pre, True ∧ Jx pre W')) := by
  refine callsIn_of_wp Tryz.func127 rfl hf ?_ hro
  simp only [Tryz.ntmps127, List.size_toArray, List.length_cons, List.length_nil, Nat.reduceAdd, Nat.reduceSub, Array.replicate_succ, Array.replicate_zero, List.push_toArray, List.append_toArray, List.nil_append, List.cons_append]
  gi_wp2
  gi_loopw [4] (fun i wr => ∃ k : Nat, k ≤ N ∧ i = .int .i64 ((64 * k : Nat) : Int) ∧ (∃ pre, numsTo N k pre ∧ J pre wr) ∧ Keeps T W wr)
    (fun i _ => 64 * N - (intOf i).toNat)
  case atStart => exact ⟨0, Nat.zero_le _, rfl, ⟨[], rfl, h0⟩, Keeps.refl _ _⟩
  case round =>
    obtain ⟨k, hk, rfl, ⟨pre, hpre, hJs⟩, hkr⟩ := hrel
    have c1 := hkr.cell hBs hTs
    have c2 := hkr.cell hBn hTn
    have hle := numsTo_length hpre
    by_cases hlt : k < N
    · obtain ⟨i, hi⟩ : ∃ i, i = 64 * k := ⟨_, rfl⟩
      obtain ⟨fn, tmps, assign, body, hy, hR⟩ := hY pre ⟨k, hlt⟩ wr.drew (hJd _ _ hJs) (by omega)
      unfold pieceV at hy
      simp only [← hi] at hy
      obtain ⟨L, hL⟩ : ∃ L, L = 64 * N := ⟨_, rfl⟩
      rw [← hi]
      rw [← hL] at c1
      have hi0 : (0 : Int) ≤ (i : Int) := by omega
      have hi1 : (i : Int) < (L : Int) := by omega
      have hi2 : (i : Int) ≤ (L : Int) := by omega
      have hic : ¬ cap = i := by omega
      have hsub : (L : Int) - (i : Int) = ((L - i : Nat) : Int) := by omega
      have h64 : (64 : Int) ≤ ((L - i : Nat) : Int) := by omega
      have hmin : (if ((L - i : Nat) : Int) < 64 then ((L - i : Nat) : Int) else 64) = (64 : Int) := if_neg (by omega)
      have hic2 : (i : Int) + 64 ≤ (cap : Int) := by omega
      have hi3 : (i : Int) ≤ 140737488355328 := by omega
      have e64 : ((i : Int) + 64).toNat - i = 64 := by omega
      have hn64 : ¬ ((i : Int) + 64).toNat = i := by omega
      have HI := Lib.hid hi; have HL := Lib.hid hL; have HK := Lib.hid hkr; have HP := Lib.hid hpre; have HLE := Lib.hid hle
      clear hi hL hkr hpre hle hBs hBn hk
      gi_wp2
      apply wpIn_one
      · gi_region
        all_goals exact ⟨rfl, rfl, rfl⟩
      gi_wp2
      refine hR.mono ?_
      rintro e W3 (⟨rfl, hJ3, hk3⟩ | ⟨rfl, hJx3⟩)
      · have c3 : W3.cell? ⟨Bn, 0, none⟩ = some (.int .i64 64) := hk3.cell (w := wr.drew) c2 hTn
        clear c1 c2
        gi_wp2
        go_roundw
        case rel => exact ⟨k + 1, by omega, by rw [HI.out]; go_num, ⟨_, numsTo_succ HP.out ⟨k, hlt⟩ rfl, hJ3⟩, (HK.out.drew).trans hk3⟩
        case measure => have := HL.out; have := HI.out; simp [intOf]; omega
      · gi_wp2
        refine bodyPost_ret (results_none rfl _ _ _) rfl ?_
        exact ⟨⟨_, rfl⟩, .inr ⟨_, trivial, hJx3⟩⟩
    · obtain rfl : k = N := by omega
      gi_wp2
      go_end0
      exact ⟨⟨_, rfl⟩, .inl ⟨_, hpre, hJs⟩⟩
end Go.Proofs.YthlkgmdkabelpaaGreatDoor
namespace Go.Proofs.YthlkgmdkabelpaaGreatDoor
open Go Go.RowKit
def Row8 (w : World) (B : Nat) (v : Value) (l : List UInt8) : Prop :=
  ∃ g cap, v = .slice (some ⟨g, 0, none⟩) l.length cap ∧ B ≤ g ∧ g < w.heap.size ∧ l.length ≤ cap ∧ w.there g 0 cap ∧ w.rangeAt g 0 (bvs l)
theorem cell_keep {S : Nat → Prop} {w w' : World} (hk : Keeps S w w') {g : Nat} (hl : g < w.heap.size) (hs : ¬ S g) (j : Nat) : w'.cell? ⟨g, j, none⟩ = w.cell? ⟨g, j, none⟩ :=
  World.cell?_of_block (hk.block g hl hs)
theorem Row8.keep {S : Nat → Prop} {w w' : World} {B : Nat} {v : Value} {l : List UInt8} (h : Row8 w B v l) (hk : Keeps S w w') (hs : ∀ k, B ≤ k → k < w.heap.size → ¬ S k) : Row8 w' B v l := by
  obtain ⟨g, cap, hv, hB, hg, hc, ht, hr⟩ := h
  have hns := hs g hB hg
  refine ⟨g, cap, hv, hB, Nat.lt_of_lt_of_le hg hk.size, hc, fun j hj => ?_, fun j x hx => ?_⟩
  · rw [cell_keep hk hg hns, World.frozen?_of_block (hk.block g hg hns)]; exact ht j hj
  · rw [cell_keep hk hg hns]; exact hr j x hx
theorem Row8.block {w : World} {B : Nat} {v : Value} {l : List UInt8} (h : Row8 w B v l) : ∀ k, v.ownBlock = some k → B ≤ k ∧ k < w.heap.size := by
  obtain ⟨g, cap, rfl, hB, hg, _⟩ := h
  intro k hk
  rw [own_slice] at hk
  subst hk
  exact ⟨hB, hg⟩
theorem Keeps.setCells {S : Nat → Prop} {a w : World} (h : Keeps S a w) (b o : Nat) (vs : List Value) (hb : b < a.heap.size → S b) : Keeps S a (w.setCells b o vs) := by
  have ht : ∀ (vs : List Value) (o : Nat) (w : World), (w.setCells b o vs).tape = w.tape ∧ w.heap.size ≤ (w.setCells b o vs).heap.size := by
    intro vs
    induction vs with
    | nil => exact fun o w => ⟨rfl, Nat.le_refl _⟩
    | cons v vs ih =>
      intro o w
      rw [World.setCells]
      exact ⟨(ih _ _).1, Nat.le_trans (by simp [World.setCell]) (ih _ _).2⟩
  refine h.trans' (T := fun k => k = b) ⟨World.os_setCells w b o vs, (ht vs o w).1, World.output_setCells w b o vs, (ht vs o w).2, fun k hk hn => World.heap_setCells_other w b o vs hk hn⟩ (fun k h1 e => ?_)
  rw [e] at h1 ⊢
  exact hb h1
section
variable {P : Program} (w : World)
theorem rangeAt_append {w : World} {g : Nat} {a b : List Value} (ha : w.rangeAt g 0 a) (hb : w.rangeAt g a.length b) : w.rangeAt g 0 (a ++ b) := by
  intro j x hx
  by_cases h : j < a.length
  · rw [List.getElem?_append_left h] at hx; exact ha j x hx
  · rw [List.getElem?_append_right (by omega)] at hx
    have := hb _ x hx
    rwa [show a.length + (j - a.length) = 0 + j by omega] at this
theorem rangeAt_new (w : World) (cs : List Value) (C : Array Value) (t : TypeId) (h : C.toList.take cs.length = cs) : (w.alloc (.cells C t)).rangeAt w.heap.size 0 cs := by
  intro j x hx
  have hj : j < cs.length := (List.getElem?_eq_some_iff.1 hx).1
  rw [Nat.zero_add, cell_of_heap heap_alloc_at, ← Array.getElem?_toList]
  rw [← h, List.getElem?_take, if_pos hj] at hx
  exact hx
theorem there_new (w : World) (C : Array Value) (t : TypeId) (n : Nat) (h : n ≤ C.size) : (w.alloc (.cells C t)).there w.heap.size 0 n := by
  intro j hj
  rw [Nat.zero_add, cell_of_heap heap_alloc_at, frozen_of_heap heap_alloc_at]
  exact ⟨by simp; omega, rfl⟩
theorem run_append_row8 (t tx ty e : TypeId) (i : TypeInfo) (z : Value) (ht : P.underlying t = some (.slice e)) (hi : P.info? e = some i) (hz : i.zero = some z) (hs1 : i.size = 1) (hb1 : i.bytes = 1) (hzc : z.cells.size = 1)
    (B : Nat) (v : Value) (l : List UInt8) (h : Row8 w B v l) (hBw : B ≤ w.heap.size) (x : Value) (m : List UInt8) (hx : Src P 1 tx x m.length (bvs m) w) (hlen : l.length + m.length ≤ 1125899906842624 / 8) :
    ∃ v' w', (Builtin.append_ #[t, tx] ty #[v, x]).run P w = .ok v' w' ∧ Row8 w' B v' (l ++ m) ∧ Keeps (fun k => v.ownBlock = some k) w w' := by
  obtain ⟨g, cap, rfl, hB, hg, hc, hth, hr⟩ := h
  have hbl := length_bvs l
  have hbm := length_bvs m
  by_cases hroom : l.length + m.length ≤ cap
  · have hrun := run_append_room_src w t tx ty e i ht hi g 0 l.length cap x m.length (bvs m) (by rw [hs1]; exact hx) hroom (fun j hj => by
      rw [hs1, Nat.zero_add, Nat.mul_one]
      have := (hth (l.length + j) (by omega)).1
      rwa [Nat.zero_add] at this) (fun j hj => by
      rw [hs1, Nat.zero_add, Nat.mul_one]
      have := (hth (l.length + j) (by omega)).2
      rwa [Nat.zero_add] at this)
    rw [hs1, Nat.zero_add, Nat.mul_one] at hrun
    refine ⟨_, _, hrun, ⟨g, cap, by rw [List.length_append], hB, ?_, by rw [List.length_append]; exact hroom, World.there_setCells hth _ _ _, ?_⟩, (Keeps.refl _ w).setCells _ _ _ (fun _ => by rw [own_slice])⟩
    · exact Nat.lt_of_lt_of_le hg ((Keeps.refl (fun k => k = g) w).setCells g l.length (bvs m) (fun _ => rfl)).size
    · rw [bvs_append]
      refine rangeAt_append (World.rangeAt_setCells_apart hr _ _ _ (by omega)) ?_
      rw [hbl]
      exact World.rangeAt_setCells_same w g l.length (bvs m) (fun j hj => by
        have := hth (l.length + j) (by omega)
        rwa [Nat.zero_add] at this)
  · have hold : (Builtin.firstCells i.size l.length (.slice (some ⟨g, 0, none⟩) l.length cap)).run P w.drew = .ok (bvs l).toArray w.drew :=
      run_firstCells_some w.drew i.size l.length ⟨g, 0, none⟩ l.length cap (bvs l) (by rw [hs1, Nat.mul_one, hbl]) (fun j u hu => by
        have := hr j u hu
        rw [Nat.zero_add] at this
        rw [addr_add, Nat.zero_add]
        exact this)
    have hrun := run_append_grow_src w t tx ty e i z ht hi hz (some ⟨g, 0, none⟩) l.length cap (bvs l) hold x m.length (bvs m) (by rw [hs1]; exact hx) (by omega) (by omega)
      (growslice_fits (by omega) (by rw [hb1]; omega))
    have hge := grownCap_ge w (l.length + m.length) cap e
    have hsz : ((bvs l ++ bvs m).toArray ++ Builtin.zeroCells z.cells (grownCap w (l.length + m.length) cap e - (l.length + m.length))).size = grownCap w (l.length + m.length) cap e := by
      simp only [Array.size_append, List.size_toArray, List.length_append, size_zeroCells, hzc, hbl, hbm]
      omega
    refine ⟨_, _, hrun, ⟨w.heap.size, _, by rw [List.length_append], hBw, by simp, by rw [List.length_append]; exact hge, ?_, ?_⟩, ((Keeps.refl _ w).drew).alloc _⟩
    · exact there_new w.drew _ _ _ (by rw [hsz]; exact Nat.le_refl _)
    · rw [bvs_append]
      refine rangeAt_new w.drew _ _ _ ?_
      rw [Array.toList_append]
      exact List.take_left
theorem run_append_zeros8 (t tx ty e : TypeId) (i : TypeInfo) (k k' : IntKind) (ht : P.underlying t = some (.slice e)) (htx : P.underlying tx = some (.int k)) (hi : P.info? e = some i) (hz : i.zero = some (.int .u8 0)) (hs1 : i.size = 1) (hb1 : i.bytes = 1)
    (B : Nat) (v : Value) (l : List UInt8) (h : Row8 w B v l) (hBw : B ≤ w.heap.size) (n : Nat) (hlen : l.length + n ≤ 1125899906842624 / 8) :
    ∃ v' w', (Builtin.append_ #[t, tx] ty #[v, .int k' (n : Int)]).run P w = .ok v' w' ∧ Row8 w' B v' (l ++ List.replicate n 0) ∧ Keeps (fun k => v.ownBlock = some k) w w' := by
  obtain ⟨g, cap, rfl, hB, hg, hc, hth, hr⟩ := h
  have hbl := length_bvs l
  have hzz : (Builtin.zeroCells (Value.int .u8 0).cells n).toList = bvs (List.replicate n 0) := by
    have := bvs_zeros n
    rw [← this]
    simp [Builtin.zeroCells, madeCells, Value.cells]
  have hzl : (bvs (List.replicate n (0 : UInt8))).length = n := by rw [length_bvs, List.length_replicate]
  have hw : IntKind.i64.wrap (n : Int) = n := IntWalk.i64_in _ (by omega)
  have hneg : ¬ ((n : Int) < 0) := by omega
  have h48i : ¬ (281474976710656 < (n : Int)) := by omega
  by_cases hroom : l.length + n ≤ cap
  · have hst := run_storeCells_cells (P := P) g l.length (bvs (List.replicate n 0)) 0 w (fun j hj => by
      have := (hth (l.length + j) (by omega)).1
      simpa using this) (fun j hj => by
      have := (hth (l.length + j) (by omega)).2
      simpa using this) (oneCell_bvs _)
    simp only [Nat.add_zero] at hst
    have hrun : (Builtin.append_ #[t, tx] ty #[.slice (some ⟨g, 0, none⟩) l.length cap, .int k' (n : Int)]).run P w = .ok (.slice (some ⟨g, 0, none⟩) (l.length + n) cap) (w.setCells g l.length (bvs (List.replicate n 0))) := by
      by_cases h0 : n = 0
      · subst h0
        have hw0 : IntKind.i64.wrap 0 = 0 := by decide
        simp [Builtin.append_, hw0, run_underlying ht, run_underlying htx, sizeOf, typeInfo, zeroValue, hi, hz, asInt, asIntOf, hb1, hc, Addr.add_lit, storeCells, bvs, World.setCells]
      · simp [Builtin.append_, run_underlying ht, run_underlying htx, sizeOf, typeInfo, zeroValue, hi, hz, asInt, asIntOf, hw, hneg, hs1, hb1, h48i, h0, hroom, Addr.add_lit, hzz, hst]
    refine ⟨_, _, hrun, ⟨g, cap, by rw [List.length_append, List.length_replicate], hB, ?_, by rw [List.length_append, List.length_replicate]; exact hroom, World.there_setCells hth _ _ _, ?_⟩, (Keeps.refl _ w).setCells _ _ _ (fun _ => by rw [own_slice])⟩
    · exact Nat.lt_of_lt_of_le hg ((Keeps.refl (fun k => k = g) w).setCells g l.length (bvs (List.replicate n 0)) (fun _ => rfl)).size
    · rw [bvs_append]
      refine rangeAt_append (World.rangeAt_setCells_apart hr _ _ _ (by omega)) ?_
      rw [hbl]
      exact World.rangeAt_setCells_same w g l.length _ (fun j hj => by
        have := hth (l.length + j) (by omega)
        rwa [Nat.zero_add] at this)
  · have hold : (Builtin.firstCells i.size l.length (.slice (some ⟨g, 0, none⟩) l.length cap)).run P w.drew = .ok (bvs l).toArray w.drew :=
      run_firstCells_some w.drew i.size l.length ⟨g, 0, none⟩ l.length cap (bvs l) (by rw [hs1, Nat.mul_one, hbl]) (fun j u hu => by
        have := hr j u hu
        rw [Nat.zero_add] at this
        rw [addr_add, Nat.zero_add]
        exact this)
    have hrun := Lib.run_append_grow_zeros w t tx ty e i (.int .u8 0) k' k ht htx hi hz (some ⟨g, 0, none⟩) l.length cap (bvs l) hold n (by omega) (by omega) (by omega) (by omega) (by rw [hb1]; omega)
      (growslice_fits (by omega) (by rw [hb1]; omega))
    have hge := grownCap_ge w (l.length + n) cap e
    have hsz : ((bvs l).toArray ++ Builtin.zeroCells (Value.int .u8 0).cells n ++ Builtin.zeroCells (Value.int .u8 0).cells (grownCap w (l.length + n) cap e - (l.length + n))).size = grownCap w (l.length + n) cap e := by
      simp only [Array.size_append, List.size_toArray, size_zeroCells, hbl]
      rw [show (Value.int .u8 0).cells.size = 1 from rfl]
      omega
    refine ⟨_, _, hrun, ⟨w.heap.size, _, by rw [List.length_append, List.length_replicate], hBw, by simp, by rw [List.length_append, List.length_replicate]; exact hge, ?_, ?_⟩, ((Keeps.refl _ w).drew).alloc _⟩
    · exact there_new w.drew _ _ _ (by rw [hsz]; exact Nat.le_refl _)
    · rw [bvs_append]
      refine rangeAt_new w.drew _ _ _ ?_
      rw [Array.toList_append, Array.toList_append, hzz]
      exact List.take_left
theorem row8_of_string (e : TypeId) (s : ByteArray) : Row8 (Lib.bytesWorld w e s) w.heap.size (.slice (some ⟨w.heap.size, 0, none⟩) s.size (grownCap w s.size 0 e)) s.data.toList ∧ Keeps noBlock w (Lib.bytesWorld w e s) := by
  have hge := grownCap_ge w s.size 0 e
  have hsz := Lib.bytesWorld_size w e s
  have hnew := Lib.bytesWorld_at_new w e s
  have hcs : (Lib.bytesCells w e s).size = grownCap w s.size 0 e := by
    unfold Lib.bytesCells
    rw [Array.size_append, Array.size_map, Array.size_replicate]
    show s.size + _ = _
    omega
  refine ⟨⟨w.heap.size, _, by rw [size_data], Nat.le_refl _, by omega, by rw [size_data]; exact hge, fun j hj => ⟨?_, ?_⟩, fun j x hx => ?_⟩, ⟨rfl, rfl, rfl, by omega, fun k hk _ => Lib.bytesWorld_at_old w e s k hk⟩⟩
  · rw [Nat.zero_add, cell_of_row _ _ _ _ _ _ hnew]
    rw [Array.getElem?_eq_getElem (by omega)]; rfl
  · rw [Nat.zero_add]
    simp only [World.frozen?, hnew]
    rw [Bool.and_eq_false_iff]
    left
    simp; omega
  · rw [Nat.zero_add, cell_of_row _ _ _ _ _ _ hnew]
    have hj : j < (bvs s.data.toList).length := (List.getElem?_eq_some_iff.1 hx).1
    rw [length_bvs] at hj
    unfold Lib.bytesCells
    rw [Array.getElem?_append_left (by rw [Array.size_map]; simpa using hj), ← hx, ← Array.getElem?_toList, Array.toList_map]
    rfl
end
/-! Laws for the walk inside a fence -/
section
variable {F : Fence} {n : Nat} {P : Program}
theorem wpListIn_append_run (w : World) {ops : Array Oper} {rest : List Oper} {o : Oper} {a : Act} {Q : Exit → Act → World → Prop} (hgd : o.guard = none) (s x : Operand) (t tn : TypeId)
    (ho : o.op = .call { callee := .builtin .append, args := #[s, x], argTypes := #[t, tn] }) (vs vx : Value) (hs : a.eval s = vs) (hx : a.eval x = vx)
    (v' : Value) (w' : World) (hr : (Builtin.append_ #[t, tn] o.type #[vs, vx]).run P w = .ok v' w') (h : wpListIn F n P ops Q rest (a.put o.dst v') w') : wpListIn F n P ops Q (o :: rest) a w := by
  refine wpListIn_plain hgd fun K hK' => ?_
  unfold Oper.wpIn
  refine ⟨?_, ?_⟩
  · simp [Oper.about, ho, resolve, Target.leads, Sem.run_pure]
  · rw [Oper.semAt_plain F _ _ (by rw [ho]; intro c hc'; cases hc')]
    simp [execOp, ho, resolve, invoke, builtin, hs, hx, hr, Result.andThen]
    exact hK' _ _ h
theorem wpListIn_convert_run (w : World) {ops : Array Oper} {rest : List Oper} {o : Oper} {a : Act} {Q : Exit → Act → World → Prop} (hgd : o.guard = none) (t u : TypeId) (x : Operand)
    (ho : o.op = .convert t u x) (vx : Value) (hx : a.eval x = vx)
    (v' : Value) (w' : World) (hr : (convert t u vx).run P w = .ok v' w') (h : wpListIn F n P ops Q rest (a.put o.dst v') w') : wpListIn F n P ops Q (o :: rest) a w := by
  refine wpListIn_plain hgd fun K hK' => ?_
  unfold Oper.wpIn
  refine ⟨?_, ?_⟩
  · simp [Oper.about, ho]
  · rw [Oper.semAt_plain F _ _ (by rw [ho]; intro c hc'; cases hc')]
    simp [execOp, ho, hx, hr, Result.andThen]
    exact hK' _ _ h
theorem wpListIn_store_row {ops : Array Oper} {rest : List Oper} {o : Oper} {a : Act} {w : World} {Q : Exit → Act → World → Prop} (hgd : o.guard = none) (ty : TypeId) (x y : Operand) (ho : o.op = .store ty x y)
    (g : Nat) (cells : Array Value) (hx : a.eval x = .pointer (some ⟨g, 0, none⟩)) (hy : a.eval y = .agg cells)
    (t : TypeId) (old : Array Value) (hg : w.heap[g]? = some (.cells old t (0, 0))) (hi : (P.info? ty).map (·.size) = some cells.size)
    (hold : old.size = cells.size) (h1 : cells.all (·.oneCell') = true)
    (h : wpListIn F n P ops Q rest (a.put o.dst undef) (w.setRow g cells)) : wpListIn F n P ops Q (o :: rest) a w := by
  refine wpListIn_plain hgd fun K hK' => ?_
  unfold Oper.wpIn
  refine ⟨?_, ?_⟩
  · simp [Oper.about, ho]
  · rw [Oper.semAt_plain F _ _ (by rw [ho]; intro c hc'; cases hc')]
    simp only [execOp, ho, hx, hy, Instr.storeAt, Instr.sureAddr, Sem.run_bind, Sem.run_pure, Result.andThen_ok, run_storeVar_row w g t ty old cells hg hi hold h1]
    exact hK' _ _ h
theorem wpListIn_store_new {ops : Array Oper} {rest : List Oper} {o : Oper} {a : Act} {w : World} {Q : Exit → Act → World → Prop} (hgd : o.guard = none) (ty : TypeId) (x y : Operand) (ho : o.op = .store ty x y)
    (old cells : Array Value) (hx : a.eval x = .pointer (some ⟨w.heap.size, 0, none⟩)) (hy : a.eval y = .agg cells)
    (hi : (P.info? ty).map (·.size) = some cells.size) (hold : old.size = cells.size) (h1 : cells.all (·.oneCell') = true)
    (h : wpListIn F n P ops Q rest (a.put o.dst undef) (w.alloc (.cells cells ty))) : wpListIn F n P ops Q (o :: rest) a (w.alloc (.cells old ty)) :=
  wpListIn_store_row hgd ty x y ho w.heap.size cells hx hy ty old heap_alloc_at hi hold h1 (by rw [World.setRow_alloc_new]; exact h)
theorem wpListIn_load_row {ops : Array Oper} {rest : List Oper} {o : Oper} {a : Act} {w : World} {Q : Exit → Act → World → Prop} (hgd : o.guard = none) (ty : TypeId) (x : Operand) (ho : o.op = .load ty x)
    (g : Nat) (hx : a.eval x = .pointer (some ⟨g, 0, none⟩)) (t : TypeId) (cs : Array Value) (fr : Nat × Nat) (d : TypeDesc) (hg : w.heap[g]? = some (.cells cs t fr))
    (hu : P.underlying ty = some d) (hd : (match d with | .struct _ | .array _ _ => true | _ => false) = true) (hi : (P.info? ty).map (·.size) = some cs.size)
    (h : wpListIn F n P ops Q rest (a.put o.dst (.agg cs)) w) : wpListIn F n P ops Q (o :: rest) a w := by
  refine wpListIn_plain hgd fun K hK' => ?_
  unfold Oper.wpIn
  refine ⟨?_, ?_⟩
  · simp [Oper.about, ho]
  · rw [Oper.semAt_plain F _ _ (by rw [ho]; intro c hc'; cases hc')]
    simp only [execOp, ho, hx, Instr.loadAt, Instr.sureAddr, Sem.run_bind, Sem.run_pure, Result.andThen_ok, run_loadVar_row w g t ty cs fr d hg hu hd hi]
    exact hK' _ _ h
end
end Go.Proofs.YthlkgmdkabelpaaGreatDoor
namespace Go.Proofs.YthlkgmdkabelpaaGreatDoor
open Go Go.RowKit Go.Shelf
attribute [local go_sem] Oper.semAt_some
theorem byte_24 (x : W32) : uw x / (16777216 : Int) % (256 : Int) = ((byteW x 24).toNat : Int) := by rw [shr_24, ← conv_back, IntKind.wrap_u8]
theorem byte_16 (x : W32) : uw x / (65536 : Int) % (256 : Int) = ((byteW x 16).toNat : Int) := by rw [shr_16, ← conv_back, IntKind.wrap_u8]
theorem byte_8 (x : W32) : uw x / (256 : Int) % (256 : Int) = ((byteW x 8).toNat : Int) := by rw [shr_8, ← conv_back, IntKind.wrap_u8]
theorem byte_0 (x : W32) : uw x % (256 : Int) = ((byteW x 0).toNat : Int) := by rw [← conv_back0, IntKind.wrap_u8]
theorem bytes_any (x : W32) (w : World) : Calls Tryz.prog 90 #[.int .u32 (uw x)] w fun e w' => e = .returned (.slice (some ⟨w.heap.size, 0, none⟩) 4 4) ∧ w' = w.alloc (.cells (bvs (bytesW x)).toArray 5) := by
  go_enter Tryz.func90, Tryz.ntmps90
  go_wp2
  go_ret
  refine ⟨rfl, ?_⟩
  rw [byte_24, byte_16, byte_8, byte_0]
  rfl
theorem chunk_any (F : Fence) (n : Nat) (hf : F.fn 92) (hro : F.round = none) (a : Option Addr) (len cap : Nat) (w : World) :
    CallsIn F n Tryz.prog 92 #[.slice a len cap, .int .i64 64] w fun e w' => e = .returned (.func (.func 127) #[] #[.pointer (some ⟨w.heap.size, 0, none⟩), .pointer (some ⟨w.heap.size + 1, 0, none⟩)]) ∧
      w' = (w.alloc (.cells #[.slice a len cap] 22)).alloc (.cells #[.int .i64 64] 3) := by
  refine callsIn_of_wp Tryz.func92 rfl hf ?_ hro
  simp only [Tryz.ntmps92, List.size_toArray, List.length_cons, List.length_nil, Nat.reduceAdd, Nat.reduceSub, Array.replicate_succ, Array.replicate_zero, List.push_toArray, List.append_toArray, List.nil_append, List.cons_append]
  gi_wp2
  go_ret
  exact ⟨rfl, rfl⟩
theorem chunk_stops (F : Fence) (n : Nat) (hf : F.fn 127) (hro : F.round = none) (hn : 1 ≤ n) (Bs Bn b cap N : Nat) (T : Nat → Prop) (hN : N ≤ 2199023255552) (hcap : 64 * N ≤ cap)
    (hTs : ¬ T Bs) (hTn : ¬ T Bn) (w : World) (hBs : w.cell? ⟨Bs, 0, none⟩ = some (.slice (some ⟨b, 0, none⟩) (64 * N) cap)) (hBn : w.cell? ⟨Bn, 0, none⟩ = some (.int .i64 64)) :
    SeqStopsK F n Tryz.prog 127 #[.pointer (some ⟨Bs, 0, none⟩), .pointer (some ⟨Bn, 0, none⟩)] (pieceV b) (Keeps T) (numsTo N N) (fun _ => True) N w := fun l J Jx W hW hJ _ hY h0 =>
  chunk1_in F n hf hro hn l Bs Bn b cap N T hN hcap hTs hTn J Jx hY (fun pre W' hj => hJ pre W' W'.drew none hj ⟨rfl, rfl, rfl, Nat.le_refl _, fun _ _ _ => rfl⟩ (fun r e => by cases e)) W
    ((hW.cell (p := ⟨Bs, 0, none⟩) (World.block_lt_of_cell? w _ hBs)).trans hBs) ((hW.cell (p := ⟨Bn, 0, none⟩) (World.block_lt_of_cell? w _ hBn)).trans hBn) h0
def hashV (l : List UInt8) : Value := .agg (bvs l).toArray
theorem infoU8 : (Tryz.prog.info? 5).map (fun i => (i.zero, i.size, i.bytes)) = some (some (.int .u8 0), 1, 1) := by kernel_rfl
theorem src4 (w : World) (x : W32) : Src Tryz.prog 1 22 (.slice (some ⟨w.heap.size, 0, none⟩) 4 4) (bytesW x).length (bvs (bytesW x)) (w.alloc (.cells (bvs (bytesW x)).toArray 5)) :=
  Src.ofSlice _ Tryz.underlying22 _ _ _ _ rfl (fun j u hu => by
    rw [addr_add, Nat.zero_add, cell_of_heap heap_alloc_at]
    simpa using hu) (oneCell_bvs _)
def hiW (n : Nat) : W32 := BitVec.ofNat 32 (n / 4294967296)
def loW (n : Nat) : W32 := BitVec.ofNat 32 n
theorem u8_of_mod (a b : Nat) (h : a % 256 = b % 256) : UInt8.ofNat a = UInt8.ofNat b := by
  apply UInt8.toNat_inj.1
  simp [UInt8.toNat_ofNat']
  exact h
theorem be64_words (n : Nat) (h : n < 18446744073709551616) : bytesW (hiW n) ++ bytesW (loW n) = be64 n := by
  have hh : (hiW n).toNat = n / 4294967296 := by unfold hiW; rw [BitVec.toNat_ofNat]; omega
  have hl : (loW n).toNat = n % 4294967296 := by unfold loW; rw [BitVec.toNat_ofNat]
  unfold bytesW be64 byteW byteAt
  simp only [BitVec.toNat_ushiftRight, Nat.shiftRight_eq_div_pow, hh, hl, List.cons_append, List.nil_append]
  congr 1
  · exact u8_of_mod _ _ (by omega)
  congr 1
  · exact u8_of_mod _ _ (by omega)
  congr 1
  · exact u8_of_mod _ _ (by omega)
  congr 1
  · exact u8_of_mod _ _ (by omega)
  congr 1
  · exact u8_of_mod _ _ (by omega)
  congr 1
  · exact u8_of_mod _ _ (by omega)
  congr 1
  · exact u8_of_mod _ _ (by omega)
  congr 1
  exact u8_of_mod _ _ (by omega)
theorem uw_hi (n : Nat) (h : n < 18446744073709551616) : uw (hiW n) = ((n / 4294967296 : Nat) : Int) := by unfold uw hiW; rw [BitVec.toNat_ofNat]; omega
theorem uw_lo (n : Nat) : uw (loW n) = ((n % 4294967296 : Nat) : Int) := by unfold uw loW; rw [BitVec.toNat_ofNat]
def stAfter (m : List UInt8) {N : Nat} (pre : List (Fin N)) : S8 := pre.foldl (fun s x => blk s ((m.drop (64 * x.val)).take 64)) (S8.of iv)
theorem stAfter_snoc (m : List UInt8) {N : Nat} (pre : List (Fin N)) (x : Fin N) : stAfter m (pre ++ [x]) = blk (stAfter m pre) ((m.drop (64 * x.val)).take 64) := by simp [stAfter]
theorem stAfter_all (m : List UInt8) {N : Nat} (pre : List (Fin N)) (k : Nat) (h : numsTo N k pre) : stAfter m pre = blks m k := by
  have e : stAfter m pre = (pre.map (·.val)).foldl (fun s i => blk s ((m.drop (64 * i)).take 64)) (S8.of iv) := by
    unfold stAfter
    rw [List.foldl_map]
  rw [e, h]
  clear e h
  induction k with
  | zero => rfl
  | succ k ih => rw [List.range_succ, List.foldl_append, ih]; rfl
theorem keepsOthers_of {w w' : World} {g : Nat} {cs : Array Value} {t : TypeId} {fr : Nat × Nat} (h : Keeps (fun x => x = g) w w') (hg : w.heap[g]? = some (.cells cs t fr)) : KeepsOthers w w' :=
  ⟨h.size, fun k o hk ho => h.heap hk (fun e => by
    have e' : k = g := e
    subst e'
    rw [hg] at hk
    cases hk
    cases ho)⟩
theorem bytesAt_of {w : World} {b : Nat} {m : List UInt8} (h : w.rangeAt b 0 (bvs m)) (i : Nat) (hi : 64 * i + 64 ≤ m.length) : BytesAt w b (64 * i) ((m.drop (64 * i)).take 64) := by
  intro j hj
  have hl : 64 * i + j < m.length := by omega
  have := h (64 * i + j) (bv m[64 * i + j]) (by simp [bvs, List.getElem?_map, List.getElem?_eq_getElem hl])
  rw [Nat.zero_add] at this
  rw [this]
  have e : ((m.drop (64 * i)).take 64).getD j 0 = m[64 * i + j] := by
    rw [List.getD_eq_getElem?_getD, List.getElem?_take, if_pos hj, List.getElem?_drop, List.getElem?_eq_getElem hl]
    rfl
  rw [e]
  rfl
def outRow (L : List W32) (k : Nat) : List UInt8 := (L.take k).flatMap bytesW ++ List.replicate (32 - 4 * k) 0
theorem flat_length (L : List W32) : (L.flatMap bytesW).length = 4 * L.length := by
  induction L with
  | nil => rfl
  | cons x L ih => rw [List.flatMap_cons, List.length_append, ih]; simp [bytesW]; omega
theorem outRow_length (L : List W32) (k : Nat) (hL : L.length = 8) (h : k ≤ 8) : (outRow L k).length = 32 := by
  unfold outRow
  rw [List.length_append, flat_length, List.length_take, List.length_replicate]
  omega
theorem take_one (L : List W32) (k : Nat) (h : k < L.length) : L.take (k + 1) = L.take k ++ [wAt L k] := by
  rw [List.take_succ_eq_append_getElem h]
  simp [wAt, List.getElem?_eq_getElem h]
theorem outRow_step (L : List W32) (k : Nat) (hL : L.length = 8) (h : k < 8) :
    (bvs (outRow L k)).take (4 * k) ++ bvs (bytesW (wAt L k)) ++ (bvs (outRow L k)).drop (4 * k + 4) = bvs (outRow L (k + 1)) := by
  have hl : ((L.take k).flatMap bytesW).length = 4 * k := by rw [flat_length, List.length_take]; omega
  have e1 : (outRow L k).take (4 * k) = (L.take k).flatMap bytesW := by unfold outRow; rw [← hl]; exact List.take_left
  have e2 : (outRow L k).drop (4 * k + 4) = List.replicate (32 - 4 * (k + 1)) 0 := by
    unfold outRow
    rw [← hl, List.drop_append, List.drop_replicate, List.drop_eq_nil_of_le (by omega), List.nil_append, hl]
    congr 1
    omega
  unfold bvs
  rw [← List.map_take, ← List.map_drop, e1, e2, ← List.map_append, ← List.map_append]
  unfold outRow
  rw [take_one L k (by omega), List.flatMap_append]
  simp
theorem out_all (L : List W32) (hL : L.length = 8) : outRow L 8 = L.flatMap bytesW := by
  unfold outRow
  rw [← hL, List.take_length]
  simp [hL]
def OutRel (w : World) (ob : Nat) (L : List W32) (i : Value) (wr : World) : Prop :=
  ∃ k : Nat, i = .int .i64 (k : Int) ∧ k ≤ 8 ∧ wr.heap[ob]? = some (.cells (bvs (outRow L k)).toArray 32 (0, 0)) ∧ Keeps (fun x => x = ob) w wr
theorem run_sliceAt_arr {P : Program} (T e : TypeId) (n : Nat) (hu : P.underlying T = some (.array n e)) (hsz : (P.info? e).map (·.size) = some 1) (g o : Nat) (x : Int) (k : IntKind) (hx : x = (o : Int)) (ho : o < n) (w : World) :
    (Instr.sliceAt T (.pointer (some ⟨g, 0, none⟩)) (some (.int k x)) none none).run P w = .ok (.slice (some ⟨g, o, none⟩) (n - o) (n - o)) w := by
  subst hx
  cases hq : P.info? e with
  | none => simp [hq] at hsz
  | some i =>
    have hi : i.size = 1 := by simpa [hq] using hsz
    have hle : (o : Int) ≤ n := by omega
    have hne : ¬ n = o := by omega
    simp [Instr.sliceAt, Instr.sureAddr, run_underlying hu, Instr.sliceBounds, Instr.sliceBound, asIntOf, sizeOf, typeInfo, hq, hi, hne, addr_add]
    intro hh; omega
set_option maxRecDepth 100000 in
set_option maxHeartbeats 2000000 in
theorem sum_any (s : ByteArray) (w : World) (hs : s.size ≤ 140737488351232) : Calls Tryz.prog 61 #[.string s] w fun e w' => e = .returned (hashV (sha s.data.toList)) ∧ Keeps noBlock w w' := by
  obtain ⟨i0, hi, hz0, hz1, hz2⟩ := info_parts infoU8
  have hzs : (Value.int .u8 0).cells.size = 1 := rfl
  obtain ⟨w1, hw1⟩ : ∃ w1, w1 = w.alloc (.cells #[Value.int IntKind.u8 0, Value.int IntKind.u8 0, Value.int IntKind.u8 0, Value.int IntKind.u8 0, Value.int IntKind.u8 0, Value.int IntKind.u8 0, Value.int IntKind.u8 0, Value.int IntKind.u8 0, Value.int IntKind.u8 0, Value.int IntKind.u8 0, Value.int IntKind.u8 0, Value.int IntKind.u8 0, Value.int IntKind.u8 0, Value.int IntKind.u8 0, Value.int IntKind.u8 0, Value.int IntKind.u8 0, Value.int IntKind.u8 0, Value.int IntKind.u8 0, Value.int IntKind.u8 0, Value.int IntKind.u8 0, Value.int IntKind.u8 0, Value.int IntKind.u8 0, Value.int IntKind.u8 0, Value.int IntKind.u8 0, Value.int IntKind.u8 0, Value.int IntKind.u8 0, Value.int IntKind.u8 0, Value.int IntKind.u8 0, Value.int IntKind.u8 0, Value.int IntKind.u8 0, Value.int IntKind.u8 0, Value.int IntKind.u8 0] 32) := ⟨_, rfl⟩
  have k1 : Keeps noBlock w w1 := by rw [hw1]; exact (Keeps.refl _ _).alloc _
  have z1 : w1.heap.size = w.heap.size + 1 := by rw [hw1]; simp
  have h1 : w1.heap[w.heap.size]? = some (.cells (bvs (List.replicate 32 0)).toArray 32 (0, 0)) := by rw [hw1]; exact heap_alloc_at
  obtain ⟨l, hl⟩ : ∃ l, l = s.data.toList := ⟨_, rfl⟩
  have hls : l.length = s.size := by rw [hl]; exact size_data s
  obtain ⟨r2, k2⟩ := row8_of_string w1 5 s
  obtain ⟨v2, hv2⟩ : ∃ v, v = Value.slice (some ⟨w1.heap.size, 0, none⟩) s.size (grownCap w1 s.size 0 5) := ⟨_, rfl⟩
  obtain ⟨w2, hw2⟩ : ∃ w2, w2 = Lib.bytesWorld w1 5 s := ⟨_, rfl⟩
  have hcv := Lib.run_convert_string_bytes (P := Tryz.prog) w1 9 22 5 s Tryz.underlying9 Tryz.underlying22 Tryz.underlying5
  rw [← hw2, ← hv2] at hcv
  rw [← hw2, ← hv2, ← hl] at r2
  rw [← hw2] at k2
  -- the mark
  have r3 : Row8 (w2.alloc (.cells #[.int .u8 128] 5)) w1.heap.size v2 l := r2.keep ((Keeps.refl noBlock _).alloc _) (fun _ _ _ e => e)
  have hx3 : Src Tryz.prog 1 22 (.slice (some ⟨w2.heap.size, 0, none⟩) 1 1) 1 (bvs [0x80]) (w2.alloc (.cells #[.int .u8 128] 5)) :=
    Src.ofSlice _ Tryz.underlying22 _ _ _ _ rfl (fun j u hu => by
      rw [addr_add, Nat.zero_add, cell_of_heap heap_alloc_at]
      cases j with
      | zero => simpa [bvs, bv] using hu
      | succ j => simp [bvs] at hu) (oneCell_bvs _)
  obtain ⟨v4, w4, hap4, r4, k4⟩ := run_append_row8 (P := Tryz.prog) _ 22 22 22 5 i0 _ Tryz.underlying22 hi hz0 hz1 hz2 hzs w1.heap.size v2 l r3 (by have := k2.size; simp; omega) _ [0x80] hx3 (by simp; omega)
  have hb2 := r2.block
  have K4 : Keeps noBlock w1 w4 := k2.trans' (((Keeps.refl (fun k => w1.heap.size ≤ k) w2).alloc _).trans' k4 (fun k _ e => (hb2 k e).1)) (fun k hk e => by omega)
  have hb4 := r4.block
  obtain ⟨n4, hn4⟩ : ∃ n, n = (l ++ [0x80]).length := ⟨_, rfl⟩
  obtain ⟨g4, cap4, hv4, -, -, -, -, -⟩ := id r4
  rw [← hn4] at hv4
  subst hv4
  -- the zeros
  obtain ⟨zn, hzn⟩ : ∃ z, z = zerosN l.length := ⟨_, rfl⟩
  have hz64 : zn < 64 := by rw [hzn]; unfold zerosN; omega
  obtain ⟨v5, w5, hap5, r5, k5⟩ := run_append_zeros8 (P := Tryz.prog) w4 22 3 22 5 i0 .i64 .i64 Tryz.underlying22 Tryz.underlying3 hi hz0 hz1 hz2 w1.heap.size (.slice (some ⟨g4, 0, none⟩) n4 cap4) (l ++ [0x80]) r4 (by have := K4.size; omega) zn (by simp; omega)
  have hb5 := r5.block
  have K5 : Keeps noBlock w1 w5 := K4.trans' k5 (fun k hk e => by have := (hb4 k e).1; omega)
  have HCV := Lib.hid hcv; have HA4 := Lib.hid hap4; have HA5 := Lib.hid hap5; have R5 := Lib.hid r5; have KK5 := Lib.hid K5; have H1 := Lib.hid h1; have KK1 := Lib.hid k1; have HW1 := Lib.hid hw1
  have HL := Lib.hid hl; have HZN := Lib.hid hzn; have HLS := Lib.hid hls; have Z1 := Lib.hid z1
  have hzm : (120 - (n4 : Int)) % 64 = (zn : Int) := by
    have e4 : n4 = l.length + 1 := by rw [hn4]; simp
    rw [hzn, e4]; unfold zerosN; omega
  have HZM := Lib.hid (show (120 - (n4 : Int) % 64) % 64 = (zn : Int) by omega)
  have hn0 : (0 : Int) ≤ (n4 : Int) := by omega
  clear hcv hap4 hap5 r5 r4 K5 h1 k1 hw1 hl hzn hls z1 r2 k2 hw2 r3 hx3 k4 hb2 K4 hb4 k5 hb5 hv2 hn4
  refine (callsIn_wide (n := 3)).1 ?_
  refine callsIn_of_wp_marks Tryz.func61 rfl trivial ?_ rfl
  simp only [Tryz.ntmps61, List.size_toArray, List.length_cons, List.length_nil, Nat.reduceAdd, Nat.reduceSub, Array.replicate_succ, Array.replicate_zero, List.push_toArray, List.append_toArray, List.nil_append, List.cons_append]
  gi_wp2_with (first
    | (refine wpListIn_convert_run _ rfl _ _ _ rfl _ rfl v2 w2 (by rw [← HW1.out]; exact HCV.out) ?_)
    | (gi_at_builtin; refine wpListIn_append_run _ rfl _ _ _ _ rfl v2 _ rfl rfl _ w4 HA4.out ?_)
    | (gi_at_builtin; refine wpListIn_append_run _ rfl _ _ _ _ rfl _ (.int .i64 ((120 - (n4 : Int) % 64) % 64)) rfl rfl v5 w5 (by rw [HZM.out]; exact HA5.out) ?_))
  refine ⟨trivial, ?_⟩
  rw [show (s.size : Int) * 8 / 4294967296 = uw (hiW (8 * l.length)) by rw [uw_hi _ (by have := HLS.out; omega), HLS.out]; omega]
  refine (callsIn_wide.2 (bytes_any _ _)).mono ?_
  rintro e w6 ⟨rfl, hw6⟩
  have r6 : Row8 w6 w1.heap.size v5 (l ++ [0x80] ++ List.replicate zn 0) := by rw [hw6]; exact R5.out.keep ((Keeps.refl noBlock _).alloc _) (fun _ _ _ e => e)
  have k6 : Keeps noBlock w1 w6 := by rw [hw6]; exact KK5.out.alloc _
  have hx6 := src4 w5 (hiW (8 * l.length))
  rw [← hw6] at hx6
  obtain ⟨v7, w7, hap7, r7, k7⟩ := run_append_row8 (P := Tryz.prog) w6 22 22 22 5 i0 _ Tryz.underlying22 hi hz0 hz1 hz2 hzs w1.heap.size v5 _ r6 k6.size _ (bytesW (hiW (8 * l.length))) hx6 (by have := HLS.out; simp [bytesW]; omega)
  have hb5 := r6.block
  have k7' : Keeps noBlock w1 w7 := k6.trans' k7 (fun k hk e => by have := (hb5 k e).1; omega)
  have HA7 := Lib.hid hap7; have R7 := Lib.hid r7; have K7 := Lib.hid k7'
  clear hw6 r6 k6 hx6 hap7 r7 k7 hb5 k7'
  gi_wp2_with (first
    | (gi_at_builtin; refine wpListIn_append_run _ rfl _ _ _ _ rfl v5 _ rfl rfl v7 w7 HA7.out ?_))
  refine ⟨trivial, ?_⟩
  rw [show (s.size : Int) * 8 % 4294967296 = uw (loW (8 * l.length)) by rw [uw_lo, HLS.out]; omega]
  refine (callsIn_wide.2 (bytes_any _ _)).mono ?_
  rintro e w8 ⟨rfl, hw8⟩
  have r8 : Row8 w8 w1.heap.size v7 (l ++ [0x80] ++ List.replicate zn 0 ++ bytesW (hiW (8 * l.length))) := by rw [hw8]; exact R7.out.keep ((Keeps.refl noBlock _).alloc _) (fun _ _ _ e => e)
  have k8 : Keeps noBlock w1 w8 := by rw [hw8]; exact K7.out.alloc _
  have hx8 := src4 w7 (loW (8 * l.length))
  rw [← hw8] at hx8
  obtain ⟨v9, w9, hap9, r9, k9⟩ := run_append_row8 (P := Tryz.prog) w8 22 22 22 5 i0 _ Tryz.underlying22 hi hz0 hz1 hz2 hzs w1.heap.size v7 _ r8 k8.size _ (bytesW (loW (8 * l.length))) hx8 (by have := HLS.out; simp [bytesW]; omega)
  have hb8 := r8.block
  have k9' : Keeps noBlock w1 w9 := k8.trans' k9 (fun k hk e => by have := (hb8 k e).1; omega)
  have hpad : l ++ [0x80] ++ List.replicate zn 0 ++ bytesW (hiW (8 * l.length)) ++ bytesW (loW (8 * l.length)) = padL l := by
    rw [List.append_assoc (l ++ [0x80] ++ List.replicate zn 0), be64_words _ (by have := HLS.out; omega), HZN.out]; rfl
  rw [hpad] at r9
  obtain ⟨m, hm⟩ : ∃ m, m = padL l := ⟨_, rfl⟩
  rw [← hm] at r9
  obtain ⟨b, cap, hv9, hbB, hbw, hcap, -, hrg⟩ := r9
  obtain ⟨N, hN⟩ : ∃ N, m.length = 64 * N := ⟨m.length / 64, by have := padL_mod l; rw [← hm] at this; omega⟩
  have hNb : N ≤ 2199023255552 := by have h1 := padL_length l; rw [← hm, hN, ← HZN.out] at h1; have h2 := HLS.out; omega
  rw [hN] at hv9 hcap
  subst hv9
  have HA9 := Lib.hid hap9; have K9 := Lib.hid k9'; have HM := Lib.hid hm; have HN := Lib.hid hN; have HRG := Lib.hid hrg
  clear hw8 r8 k8 hx8 hap9 k9 hb8 k9' hpad hm hN hrg
  gi_wp2_with (first
    | (gi_at_builtin; refine wpListIn_append_run _ rfl _ _ _ _ rfl v7 _ rfl rfl _ w9 HA9.out ?_))
  refine ⟨trivial, ?_⟩
  refine (callsIn_wide.2 (start_any w9)).mono ?_
  rintro e w10 ⟨rfl, k10⟩
  have K10 := Lib.hid k10; have z10 := k10.size; clear k10
  gi_wp2_with (first
    | (refine wpListIn_store_new rfl _ _ _ rfl _ (arr iv) rfl rfl (size8 iv rfl) rfl (all_arr iv) ?_))
  refine ⟨trivial, ?_⟩
  obtain ⟨w11, hw11⟩ : ∃ w11, w11 = w10.alloc (.cells (arr iv) 179) := ⟨_, rfl⟩
  have h11 : w11.heap[w10.heap.size]? = some (.cells (arr iv) 179 (0, 0)) := by rw [hw11]; exact heap_alloc_at
  have k11 : Keeps noBlock w10 w11 := by rw [hw11]; exact (Keeps.refl _ _).alloc _
  have z11 : w11.heap.size = w10.heap.size + 1 := by rw [hw11]; simp
  rw [← hw11]
  have H11 := Lib.hid h11; have K11 := Lib.hid k11; have Z11 := Lib.hid z11
  clear h11 k11 z11 hw11
  refine (chunk_any Fence.wide 2 trivial rfl _ _ _ _).mono ?_
  rintro e _ ⟨rfl, rfl⟩
  obtain ⟨w12, hw12⟩ : ∃ w12, w12 = (w11.alloc (.cells #[.slice (some ⟨b, 0, none⟩) (64 * N) cap] 22)).alloc (.cells #[.int .i64 64] 3) := ⟨_, rfl⟩
  have k12 : Keeps noBlock w11 w12 := by rw [hw12]; exact ((Keeps.refl _ _).alloc _).alloc _
  have z12 : w12.heap.size = w11.heap.size + 2 := by rw [hw12]; simp
  have cs12 : w12.cell? ⟨w11.heap.size, 0, none⟩ = some (.slice (some ⟨b, 0, none⟩) (64 * N) cap) := by rw [hw12, cell_of_heap heap_alloc_at0]; rfl
  have cn12 : w12.cell? ⟨w11.heap.size + 1, 0, none⟩ = some (.int .i64 64) := by rw [hw12, cell_of_heap heap_alloc_at1]; rfl
  have h12 : w12.heap[w10.heap.size]? = some (.cells (arr iv) 179 (0, 0)) := k12.heap H11.out (fun e => e)
  have rg12 : w12.rangeAt b 0 (bvs m) := by
    intro j x hx
    rw [cell_keep (((K10.out.trans K11.out).trans k12)) hbw (fun e => e)]
    exact HRG.out j x hx
  have HW12 := Lib.hid hw12; have K12 := Lib.hid k12; have Z12 := Lib.hid z12; have H12 := Lib.hid h12; have RG12 := Lib.hid rg12
  have CS12 := Lib.hid cs12; have CN12 := Lib.hid cn12
  clear hw12 k12 z12 h12 rg12 cs12 cn12
  gi_wp2_with fail
  rw [← HW12.out]
  refine' wpIn_rangeFunc_ownF rfl (by omega) (gf := 127) (lb := #[.pointer (some ⟨w11.heap.size, 0, none⟩), .pointer (some ⟨w11.heap.size + 1, 0, none⟩)]) rfl trivial (enters_of Tryz.func127 (by kernel_rfl) rfl)
    (chunk_stops Fence.wide 2 trivial rfl (by omega) w11.heap.size (w11.heap.size + 1) b cap N (fun x => x = w10.heap.size ∨ w12.heap.size ≤ x) hNb hcap (by have := Z12.out; have := Z11.out; omega) (by have := Z12.out; have := Z11.out; omega) w12 CS12.out CN12.out)
    (fun h k => h.trans k) (fun W l o o' hl ho hc hw => (Keeps.refl _ W).grown (grownBy_putObj' W l o') (fun k e _ => by cases e; exact .inr hl)) (Below.refl _ _) (fun _ => rfl)
    (fun pre W => W.heap[w10.heap.size]? = some (.cells (arr (stAfter m pre).list) 179 (0, 0)) ∧ Keeps (fun x => x = w10.heap.size ∨ w12.heap.size ≤ x) w12 W)
    (fun _ _ _ => False)
    (fun pre W W' row hs hg hr => ⟨(hg.block _ (lt_of_heap hs.1) (fun e => by have := (hr _ e.symm).1; have := Z12.out; have := Z11.out; omega)).trans hs.1, hs.2.grown hg (fun k e _ => .inr (hr k e).1)⟩)
    (fun _ _ _ _ _ hs _ _ => hs)
    ⟨H12.out, Keeps.refl _ _⟩
    _ ?assign ?body ?done ?stop
  case assign =>
    intro l x W K hK
    unfold pieceV
    gi_wp2
    exact hK
  case body =>
    rintro l pre x W ⟨h1, h2⟩ hlen
    have hbne : b ≠ w10.heap.size := by omega
    have hbn2 : ¬ (b = w10.heap.size ∨ w12.heap.size ≤ b) := by have := Z12.out; have := Z11.out; omega
    have rgW : W.rangeAt b 0 (bvs m) := by
      intro j v hv
      have := Z12.out; have := Z11.out
      rw [cell_keep h2 (by omega) hbn2]
      exact RG12.out j v hv
    have hbt := bytesAt_of rgW x.val (by have := HN.out; have := x.isLt; omega)
    have HBT := Lib.hid hbt; have HH1 := Lib.hid h1; have HH2 := Lib.hid h2
    clear hbt h1 h2 rgW hlen hbn2
    gi_wp2_with fail
    refine ⟨trivial, ?_⟩
    refine (CallsIn.inRound l (callsIn_wide.2 (add_any w10.heap.size b (64 * x.val) 64 (stAfter m pre) _ W HH1.out HBT.out (Nat.le_refl _) hbne))).mono ?_
    rintro e w' ⟨rfl, hst, hk⟩
    have HST := Lib.hid hst; have HK := Lib.hid hk
    clear hst hk
    gi_wp2
    exact ⟨keepsOthers_of HK.out HH1.out, HK.out.mono (fun _ _ e => .inl e), by rw [stAfter_snoc]; exact HST.out, HH2.out.trans (HK.out.mono (fun _ _ e => .inl e))⟩
  case done =>
    rintro D xs W hD hxs ⟨h1, h2⟩ hK
    rw [stAfter_all m xs N hxs] at h1
    have HH1 := Lib.hid h1; have HH2 := Lib.hid h2; have HHK := Lib.hid hK
    clear h1 h2 hK hxs
    obtain ⟨L, hL⟩ : ∃ L, L = (blks m N).list := ⟨_, rfl⟩
    have hL8 : L.length = 8 := by rw [hL]; rfl
    rw [← hL] at HH1
    obtain ⟨w13, hw13⟩ : ∃ w13, w13 = W.alloc (.cells (bvs (List.replicate 32 0)).toArray 32) := ⟨_, rfl⟩
    have hz : (#[Value.int IntKind.u8 0, Value.int IntKind.u8 0, Value.int IntKind.u8 0, Value.int IntKind.u8 0, Value.int IntKind.u8 0, Value.int IntKind.u8 0, Value.int IntKind.u8 0, Value.int IntKind.u8 0, Value.int IntKind.u8 0, Value.int IntKind.u8 0, Value.int IntKind.u8 0, Value.int IntKind.u8 0, Value.int IntKind.u8 0, Value.int IntKind.u8 0, Value.int IntKind.u8 0, Value.int IntKind.u8 0, Value.int IntKind.u8 0, Value.int IntKind.u8 0, Value.int IntKind.u8 0, Value.int IntKind.u8 0, Value.int IntKind.u8 0, Value.int IntKind.u8 0, Value.int IntKind.u8 0, Value.int IntKind.u8 0, Value.int IntKind.u8 0, Value.int IntKind.u8 0, Value.int IntKind.u8 0, Value.int IntKind.u8 0, Value.int IntKind.u8 0, Value.int IntKind.u8 0, Value.int IntKind.u8 0, Value.int IntKind.u8 0] : Array Value) = (bvs (List.replicate 32 0)).toArray := rfl
    have k13 : Keeps noBlock W w13 := by rw [hw13]; exact (Keeps.refl _ _).alloc _
    have h13 : w13.heap[W.heap.size]? = some (.cells (bvs (List.replicate 32 0)).toArray 32 (0, 0)) := by rw [hw13]; exact heap_alloc_at
    have hst := k13.heap HH1.out (fun e => e)
    have HZ := Lib.hid hz; have HW13 := Lib.hid hw13; have K13 := Lib.hid k13; have H13 := Lib.hid h13; have HST := Lib.hid hst; have HL2 := Lib.hid hL
    clear hz hw13 k13 h13 hst hL
    gi_wp2_with (first
      | (refine wpListIn_load_row rfl _ _ rfl w10.heap.size rfl _ (arr L) (0, 0) _ (by rw [HZ.out, ← HW13.out]; exact HST.out) Tryz.underlying179 rfl (size8 _ hL8) ?_))
    rw [HZ.out, ← HW13.out]
    gi_loopw [42] (OutRel w13 W.heap.size L) (fun i _ => 8 - (intOf i).toNat)
    case atStart => exact ⟨0, rfl, by omega, H13.out, Keeps.refl _ _⟩
    case round =>
      obtain ⟨k, rfl, hk, hr, hkr⟩ := hrel
      by_cases hlt : k < 8
      · have hix := run_index_arr (P := Tryz.prog) 179 178 8 Tryz.underlying179 (by kernel_rfl) Tryz.underlying178 L k hlt hL8
        obtain ⟨x, hx⟩ : ∃ x, x = wAt L k := ⟨_, rfl⟩
        rw [← hx] at hix
        have hk0 : (0 : Int) ≤ (k : Int) := by omega
        have hk1 : (k : Int) < 8 := by omega
        have hw4 : IntKind.i64.wrap (4 * (k : Int)) = 4 * (k : Int) := IntWalk.i64_in _ (by omega)
        have hsl := run_sliceAt_arr (P := Tryz.prog) 32 5 32 Tryz.underlying32 (by kernel_rfl) W.heap.size (4 * k) (4 * (k : Int)) .i64 (by omega) (by omega)
        have h4a : (0 : Int) ≤ 4 * (k : Int) := by omega
        have h4b : 4 * (k : Int) ≤ 32 := by omega
        have h4c : ¬ (32 = 4 * k) := by omega
        have h4d : (4 * (k : Int)).toNat = 4 * k := by omega
        have h4e : min 4 (32 - 4 * k) = 4 := by omega
        have hlo : W.heap.size < wr.heap.size := lt_of_heap hr
        obtain ⟨w14, hw14⟩ : ∃ w, w = (wr.alloc (.cells (bvs (bytesW x)).toArray 5)).drew := ⟨_, rfl⟩
        have hr14 : w14.heap[W.heap.size]? = some (.cells (bvs (outRow L k)).toArray 32 (0, 0)) := by
          rw [hw14]
          show (wr.alloc _).heap[W.heap.size]? = _
          rw [Below.heap_alloc _ _ _ hlo]; exact hr
        have hsrc : CopySrc w14 (.slice (some ⟨wr.heap.size, 0, none⟩) 4 4) 4 (bvs (bytesW x)) := .inr ⟨_, 4, rfl, fun _ => ⟨_, rfl, fun j v hv => by
          rw [addr_add, Nat.zero_add, hw14]
          show (wr.alloc _).cell? _ = _
          rw [cell_of_heap heap_alloc_at]
          simpa using hv⟩⟩
        have hmin : (bvs (bytesW x)).length = Nat.min 4 (32 - 4 * k) := by
          show 4 = Nat.min 4 (32 - 4 * k)
          rw [show Nat.min 4 (32 - 4 * k) = min 4 (32 - 4 * k) from rfl]; omega
        obtain ⟨c1, c2⟩ := hsrc.run (P := Tryz.prog) hmin
        have hcp := run_copy_src (P := Tryz.prog) w14 22 22 3 5 W.heap.size (4 * k) (32 - 4 * k) (32 - 4 * k) _ 4 _ _ _ Tryz.underlying22 (by kernel_rfl) hr14 c1 (by rw [← hmin]; exact c2) hmin
          (by show 4 * k + 4 ≤ _; rw [List.size_toArray, length_bvs, outRow_length L k hL8 (by omega)]; omega) (oneCell_bvs _)
        have hlen4 : (bvs (bytesW x)).length = 4 := rfl
        rw [hlen4, List.toList_toArray, hx, outRow_step L k hL8 hlt] at hcp
        rw [hw14] at hcp
        have hgo : goInt ((4 : Nat) : Int) = .int .i64 4 := rfl
        clear hsrc hmin c1 c2 hlen4 hr14 hw14
        have HR := Lib.hid hr; have HKR := Lib.hid hkr; have HX := Lib.hid hx
        clear hr hkr hx
        gi_wp2_with fail
        apply wpIn_oneEnd
        · gi_region_with (refine ⟨trivial, ?_⟩; refine (callsIn_wide.2 (bytes_any x _)).mono ?_; rintro e w' ⟨rfl, rfl⟩)
          all_goals exact ⟨rfl, rfl⟩
        · gi_wp2_with fail
          go_roundw
          case rel =>
            have hk1 : Keeps (fun y => y = W.heap.size) w13 (wr.alloc (.cells (bvs (bytesW x)).toArray 5)).drew := (HKR.out.alloc _).drew
            exact ⟨k + 1, by simp, by omega, setRow_heap _ _ _ _ _ _ (by
              show (wr.alloc _).heap[W.heap.size]? = _
              rw [Below.heap_alloc _ _ _ hlo]; exact HR.out), hk1.trans ⟨rfl, rfl, rfl, by simp, fun j hj hn => setRow_other _ _ _ _ hn⟩⟩
          case measure => simp [intOf]; omega
      · obtain rfl : k = 8 := by omega
        have q12 := Z12.out; have q11 := Z11.out; have q1 := Z1.out
        have q9 := K9.out.size; have q10 := z10
        have qW := HH2.out.size
        have hD2 : D < W.heap.size := lt_of_heap HHK.out
        have hz : wr.heap[w.heap.size]? = some (.cells (bvs (List.replicate 32 0)).toArray 32 (0, 0)) := by
          have a1 := (((K9.out.trans K10.out).trans K11.out).trans K12.out).heap H1.out (fun e => e)
          have a2 := HH2.out.heap a1 (fun e => by omega)
          have a3 := K13.out.heap a2 (fun e => e)
          exact hkr.heap a3 (fun e => by omega)
        have hdf : wr.heap[D]? = some (.deferred (some [])) := by
          have a2 := K13.out.heap HHK.out (fun e => e)
          exact hkr.heap a2 (fun e => by omega)
        have hout : outRow L 8 = sha l := by
          rw [out_all L hL8, HL2.out, HM.out]
          unfold sha
          rw [show (padL l).length / 64 = N by rw [← HM.out, HN.out]; omega]
        rw [hout] at hr
        have hsz : (Tryz.prog.info? 32).map (·.size) = some (bvs (sha l)).toArray.size := by
          rw [List.size_toArray, length_bvs, sha_length]; kernel_rfl
        have hkall : Keeps (fun x => w.heap.size ≤ x) w wr := by
          have b1 := ((((KK1.out.trans K9.out).trans K10.out).trans K11.out).trans K12.out).any' (fun x => w.heap.size ≤ x)
          have b2 := b1.trans (HH2.out.mono (T := fun x => w.heap.size ≤ x) (fun k _ e => by omega))
          have b3 := b2.trans (K13.out.any' _)
          exact b3.trans (hkr.mono (fun k _ e => by omega))
        have HR := Lib.hid hr; have HZZ := Lib.hid hz; have HDF := Lib.hid hdf; have HSZ := Lib.hid hsz; have HKA := Lib.hid hkall
        have hDne : D ≠ w.heap.size := by omega
        clear hr hkr hlt hk hz hdf hsz hkall hout q12 q11 q1 q9 q10 qW
        gi_wp2_with (first
          | (refine wpListIn_load_row rfl _ _ rfl W.heap.size rfl _ (bvs (sha l)).toArray (0, 0) _ HR.out Tryz.underlying32 rfl HSZ.out ?_)
          | (refine wpListIn_store_row rfl _ _ _ rfl w.heap.size (bvs (sha l)).toArray rfl rfl _ _ HZZ.out HSZ.out (by rw [List.size_toArray, List.size_toArray, length_bvs, length_bvs, sha_length]; rfl) (all_oneCell_toArray (oneCell_bvs _)) ?_))
        have hdf2 : (wr.setRow w.heap.size (bvs (sha l)).toArray).heap[D]? = some (.deferred (some [])) := by rw [setRow_other _ _ _ _ hDne]; exact HDF.out
        refine ⟨by simp, .inl ⟨_, _, rfl, run_takeDeferred hdf2, ?_⟩⟩
        have hres : ((wr.setRow w.heap.size (bvs (sha l)).toArray).putObj D (.deferred none)).heap[w.heap.size]? = some (.cells (bvs (sha l)).toArray 32 (0, 0)) := by
          rw [World.putObj_heap_other (fun e => hDne e.symm)]
          exact setRow_heap _ _ _ _ _ _ HZZ.out
        refine ⟨_, results_cell_row rfl _ _ w.heap.size _ (bvs (sha l)).toArray (0, 0) _ rfl hres Tryz.underlying32 rfl HSZ.out, ?_, ?_⟩
        · rw [← HL.out]; rfl
        · have c1 : Keeps (fun x => w.heap.size ≤ x) w (wr.setRow w.heap.size (bvs (sha l)).toArray) :=
            HKA.out.trans ⟨rfl, rfl, rfl, by simp, fun j hj hn => setRow_other _ _ _ _ (fun e => hn (by omega))⟩
          have c2 := c1.grown (grownBy_putObj' _ D (.deferred none)) (fun k e hk => by cases e; have := HH2.out.size; have := Z12.out; have := Z11.out; have := Z1.out; have := K9.out.size; omega)
          exact c2.mono (fun k hk e => by omega)
  case stop =>
    rintro D c pre W _ _ h _
    exact h.elim
end Go.Proofs.YthlkgmdkabelpaaGreatDoor
