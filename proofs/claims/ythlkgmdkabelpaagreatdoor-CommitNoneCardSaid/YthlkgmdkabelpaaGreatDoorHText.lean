/-
  The text of a hash: what the program's and the reference's functions return. No condition but that the hash has 32 bytes.
-/
import Derived.Test.YthlkgmdkabelpaaGreatDoorHSum
import Derived.Lib.Builder
namespace Go.Proofs.YthlkgmdkabelpaaGreatDoor
open Go Go.RowKit
set_option linter.unusedVariables false

theorem below_keeps {w w' : World} (h : Below w.heap.size w w') : Keeps noBlock w w' := ⟨h.os, h.tape, h.output, h.size, fun k hk _ => h.block k hk⟩
theorem run_index_row {P : Program} (T e : TypeId) (n : Nat) (hu : P.underlying T = some (.array n e)) (hsz : (P.info? e).map (·.size) = some 1) (hue : P.underlying e = some (.int .u8)) (l : List UInt8) (k : Nat) (hk : k < n) (hl : l.length = n) (kd : IntKind) (w : World) :
    (Instr.index T (.agg (bvs l).toArray) (.int kd (k : Int))).run P w = .ok (.int .u8 ((l.getD k 0).toNat : Int)) w := by
  cases hq : P.info? e with
  | none => simp [hq] at hsz
  | some i =>
    have hi : i.size = 1 := by simpa [hq] using hsz
    have h1 : (bvs l).toArray[k]? = some (.int .u8 ((l.getD k 0).toNat : Int)) := by
      rw [← Array.getElem?_toList]
      simp only [bvs, List.getElem?_map]
      rw [List.getD_eq_getElem?_getD, List.getElem?_eq_getElem (by omega)]
      rfl
    have hagg : (isAgg e).run P w = .ok false w := by
      unfold isAgg
      rw [Sem.run_bind, run_underlying hue w]
      rfl
    simp only [List.getElem?_toArray] at h1
    simp [Instr.index, asIntOf, run_underlying hu, sizeOf, typeInfo, hq, hi, hk, part, h1, hagg]
theorem run_index_strk {P : Program} (T : TypeId) (hu : P.underlying T = some .string) (b : List UInt8) (x : Int) (i : Nat) (kd : IntKind) (hx : x = (i : Int)) (hi : i < b.length) (w : World) :
    (Instr.index T (.string (str b)) (.int kd x)).run P w = .ok (.int .u8 ((b.getD i 0).toNat : Int)) w := by
  subst hx
  have hs := size_str b
  have h1 : (str b)[i]? = some (b.getD i 0) := by
    show (if h : i < (str b).size then some (str b)[i] else none) = _
    rw [dif_pos (by omega), List.getD_eq_getElem?_getD, List.getElem?_eq_getElem hi]
    rfl
  simp [Instr.index, asIntOf, run_underlying hu, h1]
def digs : List UInt8 := [48, 49, 50, 51, 52, 53, 54, 55, 56, 57, 97, 98, 99, 100, 101, 102]
theorem digs_get (n : Nat) (h : n < 16) : digs.getD n 0 = hexd n := by
  have h2 : ∀ n : Fin 16, digs.getD n.val 0 = hexd n.val := by decide
  exact h2 ⟨n, h⟩
theorem and15 (x : UInt8) : bits .and .u8 (x.toNat : Int) 15 = ((x.toNat % 16 : Nat) : Int) := by
  have h : ∀ n : Fin 256, bits .and .u8 ((n.val : Nat) : Int) 15 = ((n.val % 16 : Nat) : Int) := by decide +kernel
  exact h ⟨x.toNat, x.toNat_lt⟩
theorem take_get {α : Type} (l : List α) (k : Nat) (h : k < l.length) (d : α) : l.take (k + 1) = l.take k ++ [l.getD k d] := by
  rw [List.take_succ_eq_append_getElem h, List.getD_eq_getElem?_getD, List.getElem?_eq_getElem h]
  rfl
theorem textL_append (a b : List UInt8) : textL (a ++ b) = textL a ++ textL b := by simp [textL]
theorem byteCells_bvs (l : List UInt8) : Lib.byteCells l = bvs l := rfl
def TextRel (w : World) (b : Nat) (l : List UInt8) (i : Value) (wr : World) : Prop :=
  ∃ k : Nat, i = .int .i64 (k : Int) ∧ k ≤ 32 ∧ Lib.IsBuilder 76 5 b b (bvs (textL (l.take k))) wr ∧ Below b w wr

def RTextRel (w : World) (l : List UInt8) (t i : Value) (wr : World) : Prop :=
  ∃ k : Nat, i = .int .i64 (k : Int) ∧ k ≤ 32 ∧ t = .string (str (textL (l.take k))) ∧ Keeps noBlock w wr

set_option maxRecDepth 100000 in
set_option maxHeartbeats 1000000 in
theorem rtext_any (l : List UInt8) (w : World) (hl : l.length = 32) : Calls Tryz.prog 20 #[.agg (bvs l).toArray] w fun e w' => e = .returned (.string (str (textL l))) ∧ Keeps noBlock w w' := by
  have h1 : (w.alloc (.cells (bvs l).toArray 32)).heap[w.heap.size]? = some (.cells (bvs l).toArray 32 (0, 0)) := heap_alloc_at
  obtain ⟨w1, hw1⟩ : ∃ w1, w1 = w.alloc (.cells (bvs l).toArray 32) := ⟨_, rfl⟩
  rw [← hw1] at h1
  have k1 : Keeps noBlock w w1 := by rw [hw1]; exact (Keeps.refl _ _).alloc _
  have HW1 := Lib.hid hw1; have H1 := Lib.hid h1; have K1 := Lib.hid k1; have HL := Lib.hid hl
  clear hw1 h1 k1 hl
  go_enter Tryz.func20, Tryz.ntmps20
  go_wp2_with fail
  rw [← HW1.out]
  go_loopw [3, 4] (RTextRel w1 l) (fun _ i _ => 32 - (intOf i).toNat)
  case atStart => exact ⟨0, rfl, by omega, rfl, Keeps.refl _ _⟩
  case round =>
    obtain ⟨k, rfl, hk, rfl, hkr⟩ := hrel
    by_cases hlt : k < 32
    · obtain ⟨x, hx⟩ : ∃ x, x = l.getD k 0 := ⟨_, rfl⟩
      have hc : wr.cell? ⟨w.heap.size, k, none⟩ = some (.int .u8 (x.toNat : Int)) := by
        rw [cell_of_heap (hkr.heap H1.out (fun e => e)), ← Array.getElem?_toList]
        simp only [bvs, List.getElem?_map]
        rw [hx, List.getD_eq_getElem?_getD, List.getElem?_eq_getElem (by rw [HL.out]; exact hlt)]
        rfl
      have hxl := x.toNat_lt
      obtain ⟨hi, hhi⟩ : ∃ n, n = x.toNat / 16 := ⟨_, rfl⟩
      obtain ⟨lo, hlo⟩ : ∃ n, n = x.toNat % 16 := ⟨_, rfl⟩
      obtain ⟨hi1, hhi1⟩ : ∃ n, n = hi + 1 := ⟨_, rfl⟩
      obtain ⟨lo1, hlo1⟩ : ∃ n, n = lo + 1 := ⟨_, rfl⟩
      have e1 : (x.toNat : Int).tdiv 16 = (hi : Int) := by rw [Int.tdiv_eq_ediv_of_nonneg (by omega)]; omega
      have e1' : IntKind.u8.wrap (hi : Int) = (hi : Int) := by rw [IntKind.wrap_u8]; omega
      have e1'' : (x.toNat : Int) / 16 = (hi : Int) := by omega
      have e2 : (x.toNat : Int).tmod 16 = (lo : Int) := by rw [Int.tmod_eq_emod_of_nonneg (by omega)]; omega
      have e2' : (x.toNat : Int) % 16 = (lo : Int) := by omega
      have e3 : IntKind.u8.wrap ((hi : Int) + 1) = (hi1 : Int) := by rw [IntKind.wrap_u8]; omega
      have e4 : IntKind.u8.wrap ((lo : Int) + 1) = (lo1 : Int) := by rw [IntKind.wrap_u8]; omega
      have d1 := run_slice_str (P := Tryz.prog) 9 Tryz.underlying9 digs .u8 .u8 hi hi1 (by omega) (by show hi1 ≤ 16; omega)
      have d2 := run_slice_str (P := Tryz.prog) 9 Tryz.underlying9 digs .u8 .u8 lo lo1 (by omega) (by show lo1 ≤ 16; omega)
      have one : ∀ n, n < 16 → (digs.drop n).take (n + 1 - n) = [hexd n] := by
        intro n hn
        have : ∀ m : Fin 16, (digs.drop m.val).take (m.val + 1 - m.val) = [hexd m.val] := by decide
        exact this ⟨n, hn⟩
      rw [hhi1, one hi (by omega), ← hhi1] at d1
      rw [hlo1, one lo (by omega), ← hlo1] at d2
      have D1 : ∀ W, (Instr.slice 9 (.string ⟨#[48, 49, 50, 51, 52, 53, 54, 55, 56, 57, 97, 98, 99, 100, 101, 102]⟩) (some (.int .u8 (hi : Int))) (some (.int .u8 (hi1 : Int))) none).run Tryz.prog W = .ok (.string (str [hexd hi])) W := d1
      have D2 : ∀ W, (Instr.slice 9 (.string ⟨#[48, 49, 50, 51, 52, 53, 54, 55, 56, 57, 97, 98, 99, 100, 101, 102]⟩) (some (.int .u8 (lo : Int))) (some (.int .u8 (lo1 : Int))) none).run Tryz.prog W = .ok (.string (str [hexd lo])) W := d2
      have hk0 : (0 : Int) ≤ (k : Int) := by omega
      have hk1 : (k : Int) < 32 := by omega
      have hnx : textL (l.take (k + 1)) = textL (l.take k) ++ [hexd hi] ++ [hexd lo] := by
        rw [take_get l k (by rw [HL.out]; exact hlt) 0, textL_append, ← hx, hhi, hlo, List.append_assoc]
        rfl
      obtain ⟨T, hT⟩ : ∃ T, T = textL (l.take k) := ⟨_, rfl⟩
      have hTl : T.length ≤ 1000 := by rw [hT, textL_length, List.length_take]; omega
      have hs1 : (str T).size ≤ 1000 := by rw [size_str]; exact hTl
      have hs2 : (str [hexd hi]).size = 1 := size_str _
      have hs3 : (str [hexd lo]).size = 1 := size_str _
      have HKR := Lib.hid hkr; have HNX := Lib.hid hnx; have HT := Lib.hid hT
      rw [← hT]
      clear hx hhi hlo hkr hnx hT hhi1 hlo1 d1 d2 one
      go_wp2_with fail
      go_quiet (fail)
      go_wp2_with fail
      go_roundw
      case rel => exact ⟨k + 1, by simp, hlt, by rw [str_append, str_append, HNX.out, HT.out], (HKR.out.drewN nq)⟩
      case measure => simp [intOf]; omega
    · obtain rfl : k = 32 := by omega
      have hk1 : ¬ ((32 : Nat) : Int) < 32 := by omega
      go_wp2_with fail
      go_ret
      exact ⟨by rw [List.take_of_length_le (by rw [HL.out]; exact Nat.le_refl _)]; rfl, K1.out.trans hkr⟩

end Go.Proofs.YthlkgmdkabelpaaGreatDoor
