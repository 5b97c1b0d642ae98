/-
  Words of 32 bits in the walk: what the model's operations give at words, and the contracts of the rotations. No condition but the rotation's number.
-/
import Derived.Test.YthlkgmdkabelpaaGreatDoorGModel
import Derived.Test.YthlkgmdkabelpaaGreatDoorChecked
import Derived.RegionTactic
import Derived.ChangeAlike
import Derived.Deep.QuietTactic
import Derived.BigQuiet
import Derived.Outline
namespace Go.Proofs.YthlkgmdkabelpaaGreatDoor
open Go Go.RowKit
set_option linter.unusedVariables false

theorem Keeps.drewN {S : Nat → Prop} {a w : World} (h : Keeps S a w) (n : Nat) : Keeps S a (w.drewN n) := h.trans' (T := S) ⟨rfl, rfl, rfl, Nat.le_refl _, fun _ _ _ => rfl⟩ (fun _ _ h => h)
theorem Keeps.any' {w w' : World} (h : Keeps noBlock w w') (S : Nat → Prop) : Keeps S w w' := h.mono fun _ _ e => e.elim
theorem Keeps.frozen {S : Nat → Prop} {w w' : World} (h : Keeps S w w') {p : Addr} (hl : p.block < w.heap.size) (hs : ¬ S p.block) (hf : w.frozen? p = false) : w'.frozen? p = false := by
  rw [World.frozen?_of_block (h.block _ hl hs)]; exact hf

/-- a word as the model's integer -/
def uw (x : W32) : Int := (x.toNat : Int)
def uv (x : W32) : Value := .int .u32 (uw x)
theorem uw_nonneg (x : W32) : 0 ≤ uw x := by unfold uw; omega
theorem uw_lt (x : W32) : uw x < 4294967296 := by unfold uw; have := x.isLt; omega
theorem uw_inj {x y : W32} (h : uw x = uw y) : x = y := BitVec.eq_of_toNat_eq (by unfold uw at h; omega)
theorem ofInt_uw (x : W32) : BitVec.ofInt 32 (uw x) = x := by
  unfold uw
  rw [BitVec.ofInt_natCast]
  simp
theorem wrap_toNat (x : W32) : IntKind.u32.wrap (x.toNat : Int) = uw x := by
  rw [IntKind.wrap_u32]; unfold uw; have := x.isLt; omega
theorem xor_uw (x y : W32) : bits .xor .u32 (uw x) (uw y) = uw (x ^^^ y) := by
  show IntKind.u32.wrap ((BitVec.ofInt 32 (uw x) ^^^ BitVec.ofInt 32 (uw y)).toNat : Int) = _
  rw [ofInt_uw, ofInt_uw]; exact wrap_toNat _
theorem and_uw (x y : W32) : bits .and .u32 (uw x) (uw y) = uw (x &&& y) := by
  show IntKind.u32.wrap ((BitVec.ofInt 32 (uw x) &&& BitVec.ofInt 32 (uw y)).toNat : Int) = _
  rw [ofInt_uw, ofInt_uw]; exact wrap_toNat _
theorem or_uw (x y : W32) : bits .or .u32 (uw x) (uw y) = uw (x ||| y) := by
  show IntKind.u32.wrap ((BitVec.ofInt 32 (uw x) ||| BitVec.ofInt 32 (uw y)).toNat : Int) = _
  rw [ofInt_uw, ofInt_uw]; exact wrap_toNat _
theorem not_uw (x : W32) : bits .xor .u32 4294967295 (uw x) = uw (~~~ x) := by
  show IntKind.u32.wrap ((BitVec.ofInt 32 4294967295 ^^^ BitVec.ofInt 32 (uw x)).toNat : Int) = _
  rw [ofInt_uw, show BitVec.ofInt 32 4294967295 = BitVec.allOnes 32 by decide, BitVec.allOnes_xor]; exact wrap_toNat _
theorem unary_uw (x : W32) : Op.unary .xor (.int .u32 (uw x)) = pure (.int .u32 (uw (~~~ x))) := by
  rw [unary_xor]
  rw [show (if IntKind.u32.signed = true then (-1 : Int) else IntKind.u32.max) = 4294967295 by decide, intBits_xor, not_uw]
theorem add_uw (x y : W32) : IntKind.u32.wrap (uw x + uw y) = uw (x + y) := by
  rw [IntKind.wrap_u32]; unfold uw; rw [BitVec.toNat_add]; omega
theorem shl_n (x : W32) (n : Nat) : uw x * ((2 ^ n : Nat) : Int) % 4294967296 = uw (x <<< n) := by
  unfold uw
  rw [BitVec.toNat_shiftLeft, Nat.shiftLeft_eq]
  omega
theorem shr_n (x : W32) (n : Nat) : uw x / ((2 ^ n : Nat) : Int) = uw (x >>> n) := by
  unfold uw
  rw [BitVec.toNat_ushiftRight, Nat.shiftRight_eq_div_pow]
  omega
theorem shl_7 (x : W32) : uw x * (128 : Int) % (4294967296 : Int) = uw (x <<< 7) := shl_n x 7
theorem shl_8 (x : W32) : uw x * (256 : Int) % (4294967296 : Int) = uw (x <<< 8) := shl_n x 8
theorem shl_10 (x : W32) : uw x * (1024 : Int) % (4294967296 : Int) = uw (x <<< 10) := shl_n x 10
theorem shl_13 (x : W32) : uw x * (8192 : Int) % (4294967296 : Int) = uw (x <<< 13) := shl_n x 13
theorem shl_14 (x : W32) : uw x * (16384 : Int) % (4294967296 : Int) = uw (x <<< 14) := shl_n x 14
theorem shl_15 (x : W32) : uw x * (32768 : Int) % (4294967296 : Int) = uw (x <<< 15) := shl_n x 15
theorem shl_16 (x : W32) : uw x * (65536 : Int) % (4294967296 : Int) = uw (x <<< 16) := shl_n x 16
theorem shl_19 (x : W32) : uw x * (524288 : Int) % (4294967296 : Int) = uw (x <<< 19) := shl_n x 19
theorem shl_21 (x : W32) : uw x * (2097152 : Int) % (4294967296 : Int) = uw (x <<< 21) := shl_n x 21
theorem shl_24 (x : W32) : uw x * (16777216 : Int) % (4294967296 : Int) = uw (x <<< 24) := shl_n x 24
theorem shl_25 (x : W32) : uw x * (33554432 : Int) % (4294967296 : Int) = uw (x <<< 25) := shl_n x 25
theorem shl_26 (x : W32) : uw x * (67108864 : Int) % (4294967296 : Int) = uw (x <<< 26) := shl_n x 26
theorem shl_30 (x : W32) : uw x * (1073741824 : Int) % (4294967296 : Int) = uw (x <<< 30) := shl_n x 30
theorem shr_2 (x : W32) : uw x / (4 : Int) = uw (x >>> 2) := shr_n x 2
theorem shr_3 (x : W32) : uw x / (8 : Int) = uw (x >>> 3) := shr_n x 3
theorem shr_6 (x : W32) : uw x / (64 : Int) = uw (x >>> 6) := shr_n x 6
theorem shr_7 (x : W32) : uw x / (128 : Int) = uw (x >>> 7) := shr_n x 7
theorem shr_8 (x : W32) : uw x / (256 : Int) = uw (x >>> 8) := shr_n x 8
theorem shr_10 (x : W32) : uw x / (1024 : Int) = uw (x >>> 10) := shr_n x 10
theorem shr_11 (x : W32) : uw x / (2048 : Int) = uw (x >>> 11) := shr_n x 11
theorem shr_13 (x : W32) : uw x / (8192 : Int) = uw (x >>> 13) := shr_n x 13
theorem shr_16 (x : W32) : uw x / (65536 : Int) = uw (x >>> 16) := shr_n x 16
theorem shr_17 (x : W32) : uw x / (131072 : Int) = uw (x >>> 17) := shr_n x 17
theorem shr_18 (x : W32) : uw x / (262144 : Int) = uw (x >>> 18) := shr_n x 18
theorem shr_19 (x : W32) : uw x / (524288 : Int) = uw (x >>> 19) := shr_n x 19
theorem shr_22 (x : W32) : uw x / (4194304 : Int) = uw (x >>> 22) := shr_n x 22
theorem shr_24 (x : W32) : uw x / (16777216 : Int) = uw (x >>> 24) := shr_n x 24
theorem shr_25 (x : W32) : uw x / (33554432 : Int) = uw (x >>> 25) := shr_n x 25
theorem conv_u8 (b : UInt8) : IntKind.u32.wrap (b.toNat : Int) = uw (b32 b) := by
  rw [IntKind.wrap_u32]; unfold uw b32; rw [BitVec.toNat_ofNat]; have := b.toNat_lt; omega
theorem conv_back (x : W32) (n : Nat) : IntKind.u8.wrap (uw (x >>> n)) = ((byteW x n).toNat : Int) := by
  rw [IntKind.wrap_u8]; unfold uw byteW
  simp
theorem conv_back0 (x : W32) : IntKind.u8.wrap (uw x) = ((byteW x 0).toNat : Int) := by
  have := conv_back x 0
  simpa using this
theorem rotr_eq (x : W32) (n : Nat) : (x <<< (32 - n)) ||| (x >>> n) = rotr x n := by unfold rotr; rw [BitVec.or_comm]


theorem rotl_7 (x : W32) (w : World) :
    Calls Tryz.prog 164 #[.int .u32 (uw x), .int .i64 (-7)] w fun e w' => e = .returned (.int .u32 (uw (rotr x 7))) ∧ w = w' := by
  have h1 : bits .and .u64 (IntKind.u64.wrap (-7)) 31 = 25 := by decide +kernel
  have h2 : IntKind.u64.wrap (32 - 25) = 7 := by decide +kernel
  go_enter Tryz.func164, Tryz.ntmps164
  go_wp2
  go_ret
  refine ⟨?_, rfl⟩
  rw [shl_25, shr_7, or_uw, rotr_eq x 7]
  rfl
theorem rotl_18 (x : W32) (w : World) :
    Calls Tryz.prog 164 #[.int .u32 (uw x), .int .i64 (-18)] w fun e w' => e = .returned (.int .u32 (uw (rotr x 18))) ∧ w = w' := by
  have h1 : bits .and .u64 (IntKind.u64.wrap (-18)) 31 = 14 := by decide +kernel
  have h2 : IntKind.u64.wrap (32 - 14) = 18 := by decide +kernel
  go_enter Tryz.func164, Tryz.ntmps164
  go_wp2
  go_ret
  refine ⟨?_, rfl⟩
  rw [shl_14, shr_18, or_uw, rotr_eq x 18]
  rfl
theorem rotl_17 (x : W32) (w : World) :
    Calls Tryz.prog 164 #[.int .u32 (uw x), .int .i64 (-17)] w fun e w' => e = .returned (.int .u32 (uw (rotr x 17))) ∧ w = w' := by
  have h1 : bits .and .u64 (IntKind.u64.wrap (-17)) 31 = 15 := by decide +kernel
  have h2 : IntKind.u64.wrap (32 - 15) = 17 := by decide +kernel
  go_enter Tryz.func164, Tryz.ntmps164
  go_wp2
  go_ret
  refine ⟨?_, rfl⟩
  rw [shl_15, shr_17, or_uw, rotr_eq x 17]
  rfl
theorem rotl_19 (x : W32) (w : World) :
    Calls Tryz.prog 164 #[.int .u32 (uw x), .int .i64 (-19)] w fun e w' => e = .returned (.int .u32 (uw (rotr x 19))) ∧ w = w' := by
  have h1 : bits .and .u64 (IntKind.u64.wrap (-19)) 31 = 13 := by decide +kernel
  have h2 : IntKind.u64.wrap (32 - 13) = 19 := by decide +kernel
  go_enter Tryz.func164, Tryz.ntmps164
  go_wp2
  go_ret
  refine ⟨?_, rfl⟩
  rw [shl_13, shr_19, or_uw, rotr_eq x 19]
  rfl
theorem rotl_6 (x : W32) (w : World) :
    Calls Tryz.prog 164 #[.int .u32 (uw x), .int .i64 (-6)] w fun e w' => e = .returned (.int .u32 (uw (rotr x 6))) ∧ w = w' := by
  have h1 : bits .and .u64 (IntKind.u64.wrap (-6)) 31 = 26 := by decide +kernel
  have h2 : IntKind.u64.wrap (32 - 26) = 6 := by decide +kernel
  go_enter Tryz.func164, Tryz.ntmps164
  go_wp2
  go_ret
  refine ⟨?_, rfl⟩
  rw [shl_26, shr_6, or_uw, rotr_eq x 6]
  rfl
theorem rotl_11 (x : W32) (w : World) :
    Calls Tryz.prog 164 #[.int .u32 (uw x), .int .i64 (-11)] w fun e w' => e = .returned (.int .u32 (uw (rotr x 11))) ∧ w = w' := by
  have h1 : bits .and .u64 (IntKind.u64.wrap (-11)) 31 = 21 := by decide +kernel
  have h2 : IntKind.u64.wrap (32 - 21) = 11 := by decide +kernel
  go_enter Tryz.func164, Tryz.ntmps164
  go_wp2
  go_ret
  refine ⟨?_, rfl⟩
  rw [shl_21, shr_11, or_uw, rotr_eq x 11]
  rfl
theorem rotl_25 (x : W32) (w : World) :
    Calls Tryz.prog 164 #[.int .u32 (uw x), .int .i64 (-25)] w fun e w' => e = .returned (.int .u32 (uw (rotr x 25))) ∧ w = w' := by
  have h1 : bits .and .u64 (IntKind.u64.wrap (-25)) 31 = 7 := by decide +kernel
  have h2 : IntKind.u64.wrap (32 - 7) = 25 := by decide +kernel
  go_enter Tryz.func164, Tryz.ntmps164
  go_wp2
  go_ret
  refine ⟨?_, rfl⟩
  rw [shl_7, shr_25, or_uw, rotr_eq x 25]
  rfl
theorem rotl_2 (x : W32) (w : World) :
    Calls Tryz.prog 164 #[.int .u32 (uw x), .int .i64 (-2)] w fun e w' => e = .returned (.int .u32 (uw (rotr x 2))) ∧ w = w' := by
  have h1 : bits .and .u64 (IntKind.u64.wrap (-2)) 31 = 30 := by decide +kernel
  have h2 : IntKind.u64.wrap (32 - 30) = 2 := by decide +kernel
  go_enter Tryz.func164, Tryz.ntmps164
  go_wp2
  go_ret
  refine ⟨?_, rfl⟩
  rw [shl_30, shr_2, or_uw, rotr_eq x 2]
  rfl
theorem rotl_13 (x : W32) (w : World) :
    Calls Tryz.prog 164 #[.int .u32 (uw x), .int .i64 (-13)] w fun e w' => e = .returned (.int .u32 (uw (rotr x 13))) ∧ w = w' := by
  have h1 : bits .and .u64 (IntKind.u64.wrap (-13)) 31 = 19 := by decide +kernel
  have h2 : IntKind.u64.wrap (32 - 19) = 13 := by decide +kernel
  go_enter Tryz.func164, Tryz.ntmps164
  go_wp2
  go_ret
  refine ⟨?_, rfl⟩
  rw [shl_19, shr_13, or_uw, rotr_eq x 13]
  rfl
theorem rotl_22 (x : W32) (w : World) :
    Calls Tryz.prog 164 #[.int .u32 (uw x), .int .i64 (-22)] w fun e w' => e = .returned (.int .u32 (uw (rotr x 22))) ∧ w = w' := by
  have h1 : bits .and .u64 (IntKind.u64.wrap (-22)) 31 = 10 := by decide +kernel
  have h2 : IntKind.u64.wrap (32 - 10) = 22 := by decide +kernel
  go_enter Tryz.func164, Tryz.ntmps164
  go_wp2
  go_ret
  refine ⟨?_, rfl⟩
  rw [shl_10, shr_22, or_uw, rotr_eq x 22]
  rfl
theorem mixed_bs1 (x : W32) (w : World) :
    Calls Tryz.prog 130 #[.int .u32 (uw x), .int .i64 6, .int .i64 11, .int .i64 25] w fun e w' => e = .returned (.int .u32 (uw (bs1 x))) ∧ w = w' := by
  go_enter Tryz.func130, Tryz.ntmps130
  go_wp2_with fail
  refine (rotl_6 x _).mono ?_
  rintro e w' ⟨rfl, rfl⟩
  go_wp2_with fail
  refine (rotl_11 x _).mono ?_
  rintro e w' ⟨rfl, rfl⟩
  go_wp2_with fail
  refine (rotl_25 x _).mono ?_
  rintro e w' ⟨rfl, rfl⟩
  go_wp2_with fail
  go_ret
  refine ⟨?_, rfl⟩
  rw [xor_uw, xor_uw]
  rfl
theorem mixed_bs0 (x : W32) (w : World) :
    Calls Tryz.prog 130 #[.int .u32 (uw x), .int .i64 2, .int .i64 13, .int .i64 22] w fun e w' => e = .returned (.int .u32 (uw (bs0 x))) ∧ w = w' := by
  go_enter Tryz.func130, Tryz.ntmps130
  go_wp2_with fail
  refine (rotl_2 x _).mono ?_
  rintro e w' ⟨rfl, rfl⟩
  go_wp2_with fail
  refine (rotl_13 x _).mono ?_
  rintro e w' ⟨rfl, rfl⟩
  go_wp2_with fail
  refine (rotl_22 x _).mono ?_
  rintro e w' ⟨rfl, rfl⟩
  go_wp2_with fail
  go_ret
  refine ⟨?_, rfl⟩
  rw [xor_uw, xor_uw]
  rfl
end Go.Proofs.YthlkgmdkabelpaaGreatDoor
