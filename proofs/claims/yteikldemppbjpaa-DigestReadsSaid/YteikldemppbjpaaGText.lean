/-
  The text of a hash: what the program's and the reference's functions return. No condition but that the hash has 32 bytes.
-/
import Derived.Test.YteikldemppbjpaaGBuild
import Derived.Test.YteikldemppbjpaaGRSum
namespace Go.Proofs.Yteikldemppbjpaa
open Go Go.RowKit
set_option linter.unusedVariables false

theorem below_keeps {w w' : World} (h : Below w.heap.size w w') : Keeps noBlock w w' := ⟨h.os, h.tape, h.output, h.size, fun k hk _ => h.block k hk⟩
theorem run_index_row {P : Program} (T e : TypeId) (n : Nat) (hu : P.underlying T = some (.array n e)) (hsz : (P.info? e).map (·.size) = some 1) (hue : P.underlying e = some (.int .u8)) (l : List UInt8) (k : Nat) (hk : k < n) (hl : l.length = n) (kd : IntKind) (w : World) :
    (Instr.index T (.agg (bvs l).toArray) (.int kd (k : Int))).run P w = .ok (.int .u8 ((l.getD k 0).toNat : Int)) w := by
  cases hq : P.info? e with
  | none => simp [hq] at hsz
  | some i =>
    have hi : i.size = 1 := by simpa [hq] using hsz
    have h1 : (bvs l).toArray[k]? = some (.int .u8 ((l.getD k 0).toNat : Int)) := by
      rw [← Array.getElem?_toList]
      simp only [bvs, List.getElem?_map]
      rw [List.getD_eq_getElem?_getD, List.getElem?_eq_getElem (by omega)]
      rfl
    have hagg : (isAgg e).run P w = .ok false w := by
      unfold isAgg
      rw [Sem.run_bind, run_underlying hue w]
      rfl
    simp only [List.getElem?_toArray] at h1
    simp [Instr.index, asIntOf, run_underlying hu, sizeOf, typeInfo, hq, hi, hk, part, h1, hagg]
theorem run_index_strk {P : Program} (T : TypeId) (hu : P.underlying T = some .string) (b : List UInt8) (x : Int) (i : Nat) (kd : IntKind) (hx : x = (i : Int)) (hi : i < b.length) (w : World) :
    (Instr.index T (.string (str b)) (.int kd x)).run P w = .ok (.int .u8 ((b.getD i 0).toNat : Int)) w := by
  subst hx
  have hs := size_str b
  have h1 : (str b)[i]? = some (b.getD i 0) := by
    show (if h : i < (str b).size then some (str b)[i] else none) = _
    rw [dif_pos (by omega), List.getD_eq_getElem?_getD, List.getElem?_eq_getElem hi]
    rfl
  simp [Instr.index, asIntOf, run_underlying hu, h1]
def digs : List UInt8 := [48, 49, 50, 51, 52, 53, 54, 55, 56, 57, 97, 98, 99, 100, 101, 102]
theorem digs_get (n : Nat) (h : n < 16) : digs.getD n 0 = hexd n := by
  have h2 : ∀ n : Fin 16, digs.getD n.val 0 = hexd n.val := by decide
  exact h2 ⟨n, h⟩
theorem and15 (x : UInt8) : bits .and .u8 (x.toNat : Int) 15 = ((x.toNat % 16 : Nat) : Int) := by
  have h : ∀ n : Fin 256, bits .and .u8 ((n.val : Nat) : Int) 15 = ((n.val % 16 : Nat) : Int) := by decide +kernel
  exact h ⟨x.toNat, x.toNat_lt⟩
theorem take_get {α : Type} (l : List α) (k : Nat) (h : k < l.length) (d : α) : l.take (k + 1) = l.take k ++ [l.getD k d] := by
  rw [List.take_succ_eq_append_getElem h, List.getD_eq_getElem?_getD, List.getElem?_eq_getElem h]
  rfl
theorem textL_append (a b : List UInt8) : textL (a ++ b) = textL a ++ textL b := by simp [textL]
theorem byteCells_bvs (l : List UInt8) : Lib.byteCells l = bvs l := rfl
def TextRel (w : World) (b : Nat) (l : List UInt8) (i : Value) (wr : World) : Prop :=
  ∃ k : Nat, i = .int .i64 (k : Int) ∧ k ≤ 32 ∧ Lib.IsBuilder 56 5 b b (bvs (textL (l.take k))) wr ∧ Below b w wr

set_option maxRecDepth 100000 in
set_option maxHeartbeats 1000000 in
theorem text_any (l : List UInt8) (w : World) (hl : l.length = 32) : Calls Try.prog 16 #[hashV l] w fun e w' => e = .returned (.string (str (textL l))) ∧ Keeps noBlock w w' := by
  unfold hashV
  obtain ⟨w1, hw1⟩ : ∃ w1, w1 = w.alloc (.cells (bvs l).toArray 24) := ⟨_, rfl⟩
  have z1 : w1.heap.size = w.heap.size + 1 := by rw [hw1]; simp
  have h1 : w1.heap[w.heap.size]? = some (.cells (bvs l).toArray 24 (0, 0)) := by rw [hw1]; exact heap_alloc_at
  obtain ⟨w2, hw2⟩ : ∃ w2, w2 = w1.alloc (.cells #[.pointer none, .slice none 0 0] 56) := ⟨_, rfl⟩
  have hb2 : Lib.IsBuilder 56 5 w1.heap.size w1.heap.size [] w2 := by rw [hw2]; exact Lib.fresh_isBuilder _ _ _
  rw [z1] at hb2
  have h2 : w2.heap[w.heap.size]? = some (.cells (bvs l).toArray 24 (0, 0)) := by rw [hw2, Below.heap_alloc _ _ _ (by omega)]; exact h1
  have k2 : Keeps noBlock w w2 := by rw [hw2, hw1]; exact ((Keeps.refl _ _).alloc _).alloc _
  have z2 : w2.heap.size = w1.heap.size + 1 := by rw [hw2]; simp
  have hsz : (Try.prog.info? 24).map (·.size) = some (bvs l).toArray.size := by rw [List.size_toArray, length_bvs, hl]; kernel_rfl
  have HW1 := Lib.hid hw1; have HW2 := Lib.hid hw2; have H2 := Lib.hid h2; have K2 := Lib.hid k2; have HB2 := Lib.hid hb2; have HSZ := Lib.hid hsz; have HL := Lib.hid hl; have Z1 := Lib.hid z1; have Z2 := Lib.hid z2
  clear hw1 hw2 h1 h2 k2 hb2 hsz hl z1 z2
  go_enter Try.func16, Try.ntmps16
  go_wp2_with (first
    | (refine wpList_load_row rfl _ _ rfl w.heap.size rfl _ (bvs l).toArray (0, 0) _ (by rw [← HW1.out, ← HW2.out]; exact H2.out) Try.underlying24 rfl HSZ.out ?_))
  rw [← HW1.out, ← HW2.out]
  have q1 := Z1.out; have q2 := Z2.out
  go_loopw [7] (TextRel w2 (w.heap.size + 1) l) (fun i _ => 32 - (intOf i).toNat)
  case atStart => exact ⟨0, rfl, by omega, HB2.out, Below.refl _ _⟩
  case round =>
    obtain ⟨k, rfl, hk, hb, hbw⟩ := hrel
    by_cases hlt : k < 32
    · obtain ⟨x, hx⟩ : ∃ x, x = l.getD k 0 := ⟨_, rfl⟩
      have hix := run_index_row (P := Try.prog) 24 5 32 Try.underlying24 (by kernel_rfl) Try.underlying5 l k hlt HL.out .i64
      rw [← hx] at hix
      have hxl := x.toNat_lt
      obtain ⟨hi, hhi⟩ : ∃ n, n = x.toNat / 16 := ⟨_, rfl⟩
      obtain ⟨lo, hlo⟩ : ∃ n, n = x.toNat % 16 := ⟨_, rfl⟩
      have e1 : (x.toNat : Int) / 16 = (hi : Int) := by omega
      have e2 : bits .and .u8 (x.toNat : Int) 15 = (lo : Int) := by rw [hlo]; exact and15 x
      have d1 : ∀ W, (Instr.index 9 (.string ⟨#[48, 49, 50, 51, 52, 53, 54, 55, 56, 57, 97, 98, 99, 100, 101, 102]⟩) (.int .u8 (hi : Int))).run Try.prog W = .ok (.int .u8 ((hexd hi).toNat : Int)) W := fun W => by
        rw [← digs_get hi (by omega)]
        exact run_index_strk (P := Try.prog) 9 Try.underlying9 digs _ hi .u8 rfl (by show hi < 16; omega) W
      have d2 : ∀ W, (Instr.index 9 (.string ⟨#[48, 49, 50, 51, 52, 53, 54, 55, 56, 57, 97, 98, 99, 100, 101, 102]⟩) (.int .u8 (lo : Int))).run Try.prog W = .ok (.int .u8 ((hexd lo).toNat : Int)) W := fun W => by
        rw [← digs_get lo (by omega)]
        exact run_index_strk (P := Try.prog) 9 Try.underlying9 digs _ lo .u8 rfl (by show lo < 16; omega) W
      have hk0 : (0 : Int) ≤ (k : Int) := by omega
      have hk1 : (k : Int) < 32 := by omega
      have hnx : bvs (textL (l.take (k + 1))) = bvs (textL (l.take k)) ++ [.int .u8 ((hexd hi).toNat : Int)] ++ [.int .u8 ((hexd lo).toNat : Int)] := by
        rw [take_get l k (by rw [HL.out]; exact hlt) 0, textL_append, bvs_append, ← hx, hhi, hlo, List.append_assoc]
        rfl
      have hlen : (bvs (textL (l.take k))).length ≤ 1024 := by rw [length_bvs, textL_length, List.length_take]; omega
      have hsw : (w.heap.size + 1) ≤ wr.heap.size := by have := hbw.size; omega
      have HBW := Lib.hid hbw; have HNX := Lib.hid hnx
      clear hx hhi hlo hbw hnx
      go_wp2_with fail
      refine (writeByte_any (w.heap.size + 1) (w.heap.size + 1) _ _ wr hb (by omega) hsw).mono ?_
      rintro e w5 ⟨rfl, hb5, k5⟩
      have hs5 : (w.heap.size + 1) ≤ w5.heap.size := Nat.le_trans hsw k5.size
      have K5 := Lib.hid k5
      clear k5
      go_wp2_with fail
      refine (writeByte_any (w.heap.size + 1) (w.heap.size + 1) _ _ w5 hb5 (by rw [List.length_append]; simp; omega) hs5).mono ?_
      rintro e w6 ⟨rfl, hb6, k6⟩
      have HB6 := Lib.hid hb6; have K6 := Lib.hid k6
      clear hb5 hb6 k6 hb
      go_wp2_with fail
      go_roundw
      case rel => exact ⟨k + 1, by simp, by omega, by rw [HNX.out]; exact HB6.out, (HBW.out.trans K5.out).trans K6.out⟩
      case measure => simp [intOf]; omega
    · obtain rfl : k = 32 := by omega
      rw [List.take_of_length_le (by rw [HL.out]; omega)] at hb
      have hne : textL l ≠ [] := by
        intro e
        have := textL_length l
        rw [e, HL.out] at this
        simp at this
      have HBW := Lib.hid hbw
      clear hbw hlt hk
      go_wp2_with fail
      refine (Try.Builder_String (w.heap.size + 1) (w.heap.size + 1) (textL l) wr hb hne).mono ?_
      rintro e w5 ⟨rfl, k5⟩
      have K5 := Lib.hid k5
      clear k5 hb
      go_wp2_with fail
      go_ret
      have hall := HBW.out.trans K5.out
      exact ⟨rfl, ⟨hall.os.trans K2.out.os, hall.tape.trans K2.out.tape, hall.output.trans K2.out.output, Nat.le_trans K2.out.size hall.size, fun j hj hn => (hall.block j (by omega)).trans (K2.out.block j hj hn)⟩⟩
end Go.Proofs.Yteikldemppbjpaa
