/-
  The reference's hash: padding, block and Sum. Condition: a string of at most 2^40 bytes.
-/
import Derived.Test.YteikldemppbjpaaGSum
namespace Go.Proofs.Yteikldemppbjpaa
open Go Go.RowKit
set_option linter.unusedVariables false

theorem be64_get (n i : Nat) (h : i < 8) : (be64 n)[7 - i]? = some (byteAt n (8 * i)) := by
  match i, h with
  | 0, _ => rfl
  | 1, _ => rfl
  | 2, _ => rfl
  | 3, _ => rfl
  | 4, _ => rfl
  | 5, _ => rfl
  | 6, _ => rfl
  | 7, _ => rfl
theorem be64_take (n i : Nat) (h : i < 8) : (be64 n).take (7 - i) ++ [byteAt n (8 * i)] = (be64 n).take (8 - i) := by
  match i, h with
  | 0, _ => rfl
  | 1, _ => rfl
  | 2, _ => rfl
  | 3, _ => rfl
  | 4, _ => rfl
  | 5, _ => rfl
  | 6, _ => rfl
  | 7, _ => rfl
theorem pad_test (n j : Nat) (h : j < zerosN n) : (n + 1 + j) % 64 ≠ 56 := by unfold zerosN at h; omega
theorem pad_end (n : Nat) : (n + 1 + zerosN n) % 64 = 56 := by unfold zerosN; omega
theorem zerosN_lt (n : Nat) : zerosN n < 64 := by unfold zerosN; omega
theorem byteAt_int (n i : Nat) : (n : Int) * 8 / 2 ^ (8 * i) % 256 = ((byteAt (8 * n) (8 * i)).toNat : Int) := by
  unfold byteAt
  rw [UInt8.toNat_ofNat']
  have e : (n : Int) * 8 = ((8 * n : Nat) : Int) := by omega
  rw [e]
  have e2 : (2 : Int) ^ (8 * i) = ((2 ^ (8 * i) : Nat) : Int) := by push_cast; rfl
  rw [e2]
  omega
def PadRel (l : List UInt8) (t : Value) : Prop := ∃ j : Nat, j ≤ zerosN l.length ∧ t = .string (str (l ++ [0x80] ++ List.replicate j 0))
def PadRel2 (w : World) (l : List UInt8) (t i : Value) (wr : World) : Prop :=
  ∃ q : Int, -1 ≤ q ∧ q ≤ 7 ∧ i = .int .i64 q ∧ t = .string (str (l ++ [0x80] ++ List.replicate (zerosN l.length) 0 ++ (be64 (8 * l.length)).take (7 - q).toNat)) ∧ Keeps noBlock w wr
/-- what is missing to a multiple of 64, measured on the string -/
def padLeft (z n : Nat) : Value → Nat
  | .string s => z + n - s.size
  | _ => 0

set_option maxHeartbeats 1000000 in
theorem padded_any (l : List UInt8) (w : World) (hs : l.length ≤ 1099511627776) : Calls Try.prog 26 #[.string (str l)] w fun e w' => e = .returned (.string (str (padL l))) ∧ Keeps noBlock w w' := by
  have hn1 : ¬ 9223372036854775807 < (str l).size + 1 := by rw [size_str]; omega
  have hsl : (str l).size = l.length := size_str l
  obtain ⟨n, hn⟩ : ∃ n, n = l.length := ⟨_, rfl⟩
  have HN := Lib.hid hn
  have hnb : n ≤ 1099511627776 := by omega
  have HSL := Lib.hid hsl
  clear hsl hn hs
  go_enter Try.func26, Try.ntmps26
  go_wp2_with fail
  rw [show str l ++ (⟨#[128]⟩ : ByteArray) = str (l ++ [0x80] ++ List.replicate 0 0) by rw [List.replicate_zero, List.append_nil]; exact str_append l [0x80]]
  clear hn1
  go_loop [3] (PadRel l) (padLeft (zerosN l.length) (l.length + 1))
  case atStart => exact ⟨0, Nat.zero_le _, rfl⟩
  case round =>
    obtain ⟨j, hj, rfl⟩ := hrel
    obtain ⟨X, hX⟩ : ∃ X, X = l ++ [0x80] ++ List.replicate j 0 := ⟨_, rfl⟩
    have hlen : X.length = n + 1 + j := by rw [hX, HN.out]; simp; omega
    have hz64 := zerosN_lt l.length
    obtain ⟨m, hm⟩ : ∃ m, m = X.length := ⟨_, rfl⟩
    have hsz : (str X).size = m := by rw [hm]; exact size_str X
    rw [← hX]
    by_cases hlt : j < zerosN l.length
    · have ht := pad_test _ _ hlt
      rw [← HN.out, ← hlen, ← hm] at ht
      have hb : (((m : Int) % 64) != 56) = true := by rw [bne_iff_ne]; omega
      have hb2 : ¬ ((m : Int) % 64 = 56) := by omega
      have hn1 : ¬ 9223372036854775807 < m + 1 := by omega
      have HX := Lib.hid hX; have HM := Lib.hid hm; have HL := Lib.hid hlen
      clear hX hm hlen ht
      go_wp2_with fail
      go_round
      case rel => exact ⟨j + 1, hlt, by rw [HX.out, List.replicate_succ', ← List.append_assoc, ← str_append]; rfl⟩
      case measure =>
        have h1 := HL.out; have h2 := HN.out; have h3 := HM.out
        simp only [padLeft]
        rw [show (str X ++ (⟨#[0]⟩ : ByteArray)) = str (X ++ [0]) from str_append X [0], size_str, size_str, List.length_append, List.length_singleton]
        omega
    · obtain rfl : j = zerosN l.length := by omega
      have ht := pad_end l.length
      rw [show l.length + 1 + zerosN l.length = m by rw [hm, hlen, HN.out]] at ht
      have hb : (((m : Int) % 64) != 56) = false := by rw [bne_eq_false_iff_eq]; omega
      have hb2 : (m : Int) % 64 = 56 := by omega
      have HX := Lib.hid hX; have HM := Lib.hid hm; have HL := Lib.hid hlen; have HB := Lib.hid hb2
      clear hX hm hlen hb2 hlt hj ht
      have hs0 : (str l).size = n := by rw [HN.out]; exact HSL.out
      have hpl : l ++ 128 :: (List.replicate (zerosN l.length) 0 ++ List.take 8 (be64 (8 * l.length))) = padL l := by
        rw [List.take_of_length_le (by simp [be64])]
        simp [padL]
      have HPL := Lib.hid hpl
      clear hpl
      go_wp2_with fail
      clear hs0 hsz hb
      rw [HX.out]
      go_loopw [3, 5] (PadRel2 w l) (fun _ i _ => (intOf i + 1).toNat)
      case atStart => exact ⟨7, by omega, by omega, rfl, by simp, Keeps.refl _ _⟩
      case round =>
        obtain ⟨q, hq1, hq2, rfl, rfl, hkr⟩ := hrel
        by_cases hq : 0 ≤ q
        · obtain ⟨i, rfl⟩ : ∃ i : Nat, q = (i : Int) := ⟨q.toNat, by omega⟩
          obtain ⟨Y, hY⟩ : ∃ Y, Y = l ++ [0x80] ++ List.replicate (zerosN l.length) 0 ++ (be64 (8 * l.length)).take (7 - (i : Int)).toNat := ⟨_, rfl⟩
          rw [← hY]
          obtain ⟨b, hb⟩ : ∃ b, b = byteAt (8 * l.length) (8 * i) := ⟨_, rfl⟩
          have hbi : (n : Int) * 8 / 2 ^ (8 * i) % 256 = (b.toNat : Int) := by rw [hb, ← HN.out]; exact byteAt_int n i
          have hcv : (convert 33 9 (.slice (some ⟨wr.heap.size, 0, none⟩) 1 1)).run Try.prog (wr.alloc (.cells #[.int .u8 (b.toNat : Int)] 5)) = .ok (.string (str [b])) (wr.alloc (.cells #[.int .u8 (b.toNat : Int)] 5)) := by
            refine run_string_of (P := Try.prog) _ 33 9 5 _ 1 1 [b] Try.underlying33 Try.underlying5 Try.underlying9 rfl (fun _ => ⟨_, rfl, fun j hj => ?_⟩)
            obtain rfl : j = 0 := by simp at hj; omega
            rw [addr_add, Nat.zero_add, cell_of_heap heap_alloc_at]
            rfl
          have hyl : Y.length ≤ 1099511628000 := by
            rw [hY]
            simp only [List.length_append, List.length_take, List.length_replicate, List.length_singleton]
            have := HN.out; omega
          have hadd := fun W => run_add_str (P := Try.prog) Y [b] (by simp; omega) W
          have hns : ¬ 9223372036854775807 < (str Y).size + (str [b]).size := by rw [size_str, size_str]; simp; omega
          have hi0 : (0 : Int) ≤ (i : Int) := by omega
          have HY := Lib.hid hY; have HKR := Lib.hid hkr; have HB2 := Lib.hid hb
          clear hY hkr hq1 hb hyl hadd
          go_wp2_with fail
          go_roundw
          case rel =>
            refine ⟨(i : Int) - 1, by omega, by omega, rfl, ?_, HKR.out.alloc _⟩
            rw [str_append, HY.out, HB2.out, List.append_assoc _ _ [_]]
            rw [show (7 - (i : Int)).toNat = 7 - i by omega, show (7 - ((i : Int) - 1)).toNat = 8 - i by omega, be64_take _ _ (by omega)]
          case measure => simp [intOf]
        · obtain rfl : q = -1 := by omega
          go_wp2_with fail
          go_ret
          exact ⟨by rw [← HPL.out]; rfl, hkr⟩
end Go.Proofs.Yteikldemppbjpaa
