/-
  The contracts of the laws' helpers: Mod, repeated, and the reference's Text. Conditions: bounds on numbers.
-/
import Derived.Test.YteikldemppbjpaaGEq
namespace Go.Proofs.Yteikldemppbjpaa
open Go Go.RowKit
set_option linter.unusedVariables false

theorem mod_num (n m : Int) (hm : 0 < m) (hm' : m ≤ 4611686018427387904) : (wrap64 (n.tmod m + m)).tmod m = n % m := by
  have h1 := Int.lt_tmod_of_pos n hm
  have h2 := Int.tmod_lt_of_pos n hm
  rw [IntWalk.wrap64_in _ ⟨by omega, by omega⟩]
  rw [Int.tmod_eq_emod_of_nonneg (by omega)]
  have h3 : n.tmod m + m = n + m * (1 - n.tdiv m) := by
    have := Int.tmod_add_mul_tdiv n m
    rw [Int.mul_sub, Int.mul_one]
    omega
  rw [h3, Int.add_mul_emod_self_left]
theorem mod_any (n m : Int) (w : World) (hm : 0 < m) (hm' : m ≤ 4611686018427387904) :
    Calls Try.prog 15 #[.int .i64 n, .int .i64 m] w fun e w' => e = .returned (.int .i64 (n % m)) ∧ w = w' := by
  have H := Lib.hid (mod_num n m hm hm')
  go_enter Try.func15, Try.ntmps15
  go_wp2
  go_ret
  exact ⟨by rw [← H.out]; rfl, rfl⟩

/-- the byte at i of repeated -/
def repB (c : UInt8) (i : Nat) : UInt8 := UInt8.ofNat (c.toNat + i / 100)
theorem repB_int (c : UInt8) (i : Nat) : ((c.toNat : Int) + (i : Int) / 100) % 256 = ((repB c i).toNat : Int) := by
  unfold repB
  rw [UInt8.toNat_ofNat']
  omega
def repL (c : UInt8) (k : Nat) : List UInt8 := (List.range k).map (repB c)
theorem repL_length (c : UInt8) (k : Nat) : (repL c k).length = k := by simp [repL]
theorem rep_set (k n : Nat) (c : UInt8) (h : k < n) : (bvs (repL c k ++ List.replicate (n - k) 0)).set k (bv (repB c k)) = bvs (repL c (k + 1) ++ List.replicate (n - (k + 1)) 0) := by
  obtain ⟨m, hm⟩ : ∃ m, n - k = m + 1 := ⟨n - k - 1, by omega⟩
  have hm2 : n - (k + 1) = m := by omega
  rw [hm, hm2]
  unfold bvs
  rw [← List.map_set]
  congr 1
  rw [List.set_append_right _ _ (by rw [repL_length]; omega), repL_length, Nat.sub_self, List.replicate_succ, List.set_cons_zero]
  simp [repL, List.range_succ]
def RepRel (w : World) (c : UInt8) (n : Nat) (i : Value) (wr : World) : Prop :=
  ∃ k : Nat, i = .int .i64 k ∧ k ≤ n ∧ wr.ownsRow 0 5 1 (.slice (some ⟨w.heap.size, 0, none⟩) n n) n (bvs (repL c k ++ List.replicate (n - k) 0)) ∧ Keeps noBlock w wr

set_option maxHeartbeats 400000 in
theorem repeated_any (c : UInt8) (n : Nat) (w : World) (hn : n ≤ 16777216) :
    Calls Try.prog 14 #[.int .u8 (c.toNat : Int), .int .i64 n] w fun e w' => e = .returned (.string (str (repL c n))) ∧ Keeps noBlock w w' := by
  obtain ⟨i0, hi, hz0, hz1, hz2⟩ := info_parts infoU8
  go_enter Try.func14, Try.ntmps14
  go_wp2_with fail
  obtain ⟨w1, hrun, hown1, hgrow1⟩ := run_make_full (P := Try.prog) w 0 33 5 i0 (.int .u8 0) 1 Try.underlying33 hi hz0 hz1 .i64 .i64 n (by rw [hz2]; omega) (by unfold maxLen; omega) (Nat.zero_le _)
  rw [hrun]
  clear hrun
  go_wp2_with fail
  have k1 : Keeps noBlock w w1 := (Keeps.refl _ _).grown hgrow1 (by simp)
  rw [Nat.mul_one, bvs_zeros] at hown1
  have hs1 := k1.size
  have HO := Lib.hid hown1
  clear hown1 hgrow1
  go_loopw [6] (RepRel w c n) (fun i _ => n - (intOf i).toNat)
  case atStart => exact ⟨0, rfl, Nat.zero_le _, by simpa [repL] using HO.out, k1⟩
  case round =>
    obtain ⟨k, rfl, hk, hown, hkr⟩ := hrel
    have HKR := Lib.hid hkr
    have HOR := Lib.hid hown
    clear hkr k1 hs1
    by_cases hlt : k < n
    · obtain ⟨o, cap, ho, _, _, hform⟩ := owns_form hown
      simp only [Value.slice.injEq] at ho
      obtain ⟨g, cur, hg, hh, hsz, _⟩ := hform.resolve_left (by omega)
      obtain ⟨ho1, _, ho2⟩ := ho
      subst ho1
      simp only [Option.some.injEq, Addr.mk.injEq] at hg
      obtain ⟨hg, _⟩ := hg
      subst hg; subst ho2
      have hc : ∃ v, wr.cell? ⟨w.heap.size, k, none⟩ = some v := ⟨cur[k]'(by omega), by rw [cell_of_heap hh]; exact Array.getElem?_eq_getElem _⟩
      obtain ⟨v, hv⟩ := hc
      have hf := frozen_of_heap hh k
      have hl0 : (0 : Int) ≤ (k : Int) := by omega
      have hl1 : (k : Int) < (n : Int) := by omega
      clear hown hform hh hsz
      go_wp2_with fail
      go_roundw
      case rel =>
        refine ⟨k + 1, by simp, by omega, ?_, HKR.out.setCell (fun h => absurd h (Nat.lt_irrefl _)) _⟩
        have := HOR.out.stored k (bv (repB c k))
        rw [rep_set k n c hlt] at this
        rw [repB_int]
        exact this.1
      case measure => simp [intOf]; omega
    · clear hown
      obtain rfl : k = n := by omega
      have hcv := run_string_of (P := Try.prog) wr 33 9 5 (some ⟨w.heap.size, 0, none⟩) k k (repL c k) Try.underlying33 Try.underlying5 Try.underlying9 (by simp [repL_length])
        (fun _ => ⟨_, rfl, fun j hj => by rw [addr_add]; have := owns_cells HOR.out _ rfl j (bv (repL c k)[j]) (by unfold bvs; rw [Nat.sub_self, List.replicate_zero, List.append_nil, List.getElem?_map, List.getElem?_eq_getElem hj]; rfl); rw [addr_add] at this; exact this⟩)
      go_wp2_with fail
      go_ret
      exact ⟨rfl, HKR.out⟩

def RTextRel (w : World) (l : List UInt8) (t i : Value) (wr : World) : Prop :=
  ∃ k : Nat, i = .int .i64 (k : Int) ∧ k ≤ 32 ∧ t = .string (str (textL (l.take k))) ∧ Keeps noBlock w wr

set_option maxRecDepth 100000 in
set_option maxHeartbeats 1000000 in
theorem rtext_any (l : List UInt8) (w : World) (hl : l.length = 32) : Calls Try.prog 17 #[.agg (bvs l).toArray] w fun e w' => e = .returned (.string (str (textL l))) ∧ Keeps noBlock w w' := by
  have h1 : (w.alloc (.cells (bvs l).toArray 24)).heap[w.heap.size]? = some (.cells (bvs l).toArray 24 (0, 0)) := heap_alloc_at
  obtain ⟨w1, hw1⟩ : ∃ w1, w1 = w.alloc (.cells (bvs l).toArray 24) := ⟨_, rfl⟩
  rw [← hw1] at h1
  have k1 : Keeps noBlock w w1 := by rw [hw1]; exact (Keeps.refl _ _).alloc _
  have HW1 := Lib.hid hw1; have H1 := Lib.hid h1; have K1 := Lib.hid k1; have HL := Lib.hid hl
  clear hw1 h1 k1 hl
  go_enter Try.func17, Try.ntmps17
  go_wp2_with fail
  rw [← HW1.out]
  go_loopw [3, 4] (RTextRel w1 l) (fun _ i _ => 32 - (intOf i).toNat)
  case atStart => exact ⟨0, rfl, by omega, rfl, Keeps.refl _ _⟩
  case round =>
    obtain ⟨k, rfl, hk, rfl, hkr⟩ := hrel
    by_cases hlt : k < 32
    · obtain ⟨x, hx⟩ : ∃ x, x = l.getD k 0 := ⟨_, rfl⟩
      have hc : wr.cell? ⟨w.heap.size, k, none⟩ = some (.int .u8 (x.toNat : Int)) := by
        rw [cell_of_heap (hkr.heap H1.out (fun e => e)), ← Array.getElem?_toList]
        simp only [bvs, List.getElem?_map]
        rw [hx, List.getD_eq_getElem?_getD, List.getElem?_eq_getElem (by rw [HL.out]; exact hlt)]
        rfl
      have hxl := x.toNat_lt
      obtain ⟨hi, hhi⟩ : ∃ n, n = x.toNat / 16 := ⟨_, rfl⟩
      obtain ⟨lo, hlo⟩ : ∃ n, n = x.toNat % 16 := ⟨_, rfl⟩
      obtain ⟨hi1, hhi1⟩ : ∃ n, n = hi + 1 := ⟨_, rfl⟩
      obtain ⟨lo1, hlo1⟩ : ∃ n, n = lo + 1 := ⟨_, rfl⟩
      have e1 : (x.toNat : Int).tdiv 16 = (hi : Int) := by rw [Int.tdiv_eq_ediv_of_nonneg (by omega)]; omega
      have e1' : IntKind.u8.wrap (hi : Int) = (hi : Int) := by rw [IntKind.wrap_u8]; omega
      have e1'' : (x.toNat : Int) / 16 = (hi : Int) := by omega
      have e2 : (x.toNat : Int).tmod 16 = (lo : Int) := by rw [Int.tmod_eq_emod_of_nonneg (by omega)]; omega
      have e2' : (x.toNat : Int) % 16 = (lo : Int) := by omega
      have e3 : IntKind.u8.wrap ((hi : Int) + 1) = (hi1 : Int) := by rw [IntKind.wrap_u8]; omega
      have e4 : IntKind.u8.wrap ((lo : Int) + 1) = (lo1 : Int) := by rw [IntKind.wrap_u8]; omega
      have d1 := run_slice_str (P := Try.prog) 9 Try.underlying9 digs .u8 .u8 hi hi1 (by omega) (by show hi1 ≤ 16; omega)
      have d2 := run_slice_str (P := Try.prog) 9 Try.underlying9 digs .u8 .u8 lo lo1 (by omega) (by show lo1 ≤ 16; omega)
      have one : ∀ n, n < 16 → (digs.drop n).take (n + 1 - n) = [hexd n] := by
        intro n hn
        have : ∀ m : Fin 16, (digs.drop m.val).take (m.val + 1 - m.val) = [hexd m.val] := by decide
        exact this ⟨n, hn⟩
      rw [hhi1, one hi (by omega), ← hhi1] at d1
      rw [hlo1, one lo (by omega), ← hlo1] at d2
      have D1 : ∀ W, (Instr.slice 9 (.string ⟨#[48, 49, 50, 51, 52, 53, 54, 55, 56, 57, 97, 98, 99, 100, 101, 102]⟩) (some (.int .u8 (hi : Int))) (some (.int .u8 (hi1 : Int))) none).run Try.prog W = .ok (.string (str [hexd hi])) W := d1
      have D2 : ∀ W, (Instr.slice 9 (.string ⟨#[48, 49, 50, 51, 52, 53, 54, 55, 56, 57, 97, 98, 99, 100, 101, 102]⟩) (some (.int .u8 (lo : Int))) (some (.int .u8 (lo1 : Int))) none).run Try.prog W = .ok (.string (str [hexd lo])) W := d2
      have hk0 : (0 : Int) ≤ (k : Int) := by omega
      have hk1 : (k : Int) < 32 := by omega
      have hnx : textL (l.take (k + 1)) = textL (l.take k) ++ [hexd hi] ++ [hexd lo] := by
        rw [take_get l k (by rw [HL.out]; exact hlt) 0, textL_append, ← hx, hhi, hlo, List.append_assoc]
        rfl
      obtain ⟨T, hT⟩ : ∃ T, T = textL (l.take k) := ⟨_, rfl⟩
      have hTl : T.length ≤ 1000 := by rw [hT, textL_length, List.length_take]; omega
      have hs1 : (str T).size ≤ 1000 := by rw [size_str]; exact hTl
      have hs2 : (str [hexd hi]).size = 1 := size_str _
      have hs3 : (str [hexd lo]).size = 1 := size_str _
      have HKR := Lib.hid hkr; have HNX := Lib.hid hnx; have HT := Lib.hid hT
      rw [← hT]
      clear hx hhi hlo hkr hnx hT hhi1 hlo1 d1 d2 one
      go_wp2_with fail
      go_quiet (fail)
      go_wp2_with fail
      go_roundw
      case rel => exact ⟨k + 1, by simp, hlt, by rw [str_append, str_append, HNX.out, HT.out], (HKR.out.drewN nq)⟩
      case measure => simp [intOf]; omega
    · obtain rfl : k = 32 := by omega
      have hk1 : ¬ ((32 : Nat) : Int) < 32 := by omega
      go_wp2_with fail
      go_ret
      exact ⟨by rw [List.take_of_length_le (by rw [HL.out]; exact Nat.le_refl _)]; rfl, K1.out.trans hkr⟩
end Go.Proofs.Yteikldemppbjpaa
