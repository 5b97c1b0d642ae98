/-
  The order of hashes is the order of their texts; it is total and asymmetric. Plain law, no program.
-/
import Derived.Test.YteikldemppbjpaaGComp
namespace Go.Proofs.Yteikldemppbjpaa
open Go Go.RowKit
set_option linter.unusedVariables false

theorem hexd_lt : ∀ a b : Fin 16, decide (hexd a.val < hexd b.val) = decide (a.val < b.val) := by decide
theorem hexd_beq : ∀ a b : Fin 16, (hexd a.val == hexd b.val) = decide (a.val = b.val) := by decide
theorem bytesLess_cons (a b : UInt8) (x y : List UInt8) : Op.bytesLess (a :: x) (b :: y) = (decide (a < b) || (a == b && Op.bytesLess x y)) := rfl
theorem bytesLess_text (x y : UInt8) (p q : List UInt8) : Op.bytesLess (textL (x :: p)) (textL (y :: q)) = if x.toNat < y.toNat then true else if y.toNat < x.toNat then false else Op.bytesLess (textL p) (textL q) := by
  rw [textL_cons x p, textL_cons y q]
  have e : ∀ (x : UInt8) (p : List UInt8), textL [x] ++ p = hexd (x.toNat / 16) :: hexd (x.toNat % 16) :: p := fun x p => rfl
  rw [e, e, bytesLess_cons, bytesLess_cons]
  have hx := x.toNat_lt; have hy := y.toNat_lt
  rw [hexd_lt ⟨x.toNat / 16, by omega⟩ ⟨y.toNat / 16, by omega⟩, hexd_lt ⟨x.toNat % 16, by omega⟩ ⟨y.toNat % 16, by omega⟩,
    hexd_beq ⟨x.toNat / 16, by omega⟩ ⟨y.toNat / 16, by omega⟩, hexd_beq ⟨x.toNat % 16, by omega⟩ ⟨y.toNat % 16, by omega⟩]
  dsimp only
  rcases Nat.lt_trichotomy x.toNat y.toNat with h | h | h
  · rw [if_pos h]
    rcases Nat.lt_or_ge (x.toNat / 16) (y.toNat / 16) with h1 | h1
    · rw [decide_eq_true h1, Bool.true_or]
    · rw [decide_eq_true (show x.toNat / 16 = y.toNat / 16 by omega), decide_eq_true (show x.toNat % 16 < y.toNat % 16 by omega), Bool.true_or, Bool.true_and, Bool.or_true]
  · rw [if_neg (by omega), if_neg (by omega), decide_eq_false (show ¬ x.toNat / 16 < y.toNat / 16 by omega), decide_eq_true (show x.toNat / 16 = y.toNat / 16 by omega), decide_eq_false (show ¬ x.toNat % 16 < y.toNat % 16 by omega), decide_eq_true (show x.toNat % 16 = y.toNat % 16 by omega)]
    rfl
  · rw [if_neg (by omega), if_pos h]
    rcases Nat.lt_or_ge (y.toNat / 16) (x.toNat / 16) with h1 | h1
    · rw [decide_eq_false (show ¬ x.toNat / 16 < y.toNat / 16 by omega), decide_eq_false (show ¬ x.toNat / 16 = y.toNat / 16 by omega)]
      rfl
    · rw [decide_eq_false (show ¬ x.toNat / 16 < y.toNat / 16 by omega), decide_eq_false (show ¬ x.toNat % 16 < y.toNat % 16 by omega), decide_eq_false (show ¬ x.toNat % 16 = y.toNat % 16 by omega)]
      simp
theorem text_order : ∀ (a b : List UInt8), a.length = b.length → Op.bytesLess (textL a) (textL b) = lessL a b
  | [], [], _ => rfl
  | [], b :: l, h => by simp at h
  | a :: l, [], h => by simp at h
  | a :: l, b :: m, h => by
    rw [bytesLess_text, text_order l m (by simpa using h), lessL]
theorem less_asym : ∀ (a b : List UInt8), lessL a b = true → lessL b a = false
  | [], _, h => by simp [lessL] at h
  | a :: l, [], h => by simp [lessL] at h
  | a :: l, b :: m, h => by
    rcases Nat.lt_trichotomy a.toNat b.toNat with hc | hc | hc
    · exact lessL_gt b a m l hc
    · rw [lessL_eq a b l m hc] at h
      rw [lessL_eq b a m l hc.symm]
      exact less_asym l m h
    · rw [lessL_gt a b l m hc] at h
      cases h
theorem less_total : ∀ (a b : List UInt8), a.length = b.length → lessL a b = false → lessL b a = false → a = b
  | [], [], _, _, _ => rfl
  | [], b :: l, h, _, _ => by simp at h
  | a :: l, [], h, _, _ => by simp at h
  | a :: l, b :: m, h, h1, h2 => by
    rcases Nat.lt_trichotomy a.toNat b.toNat with hc | hc | hc
    · rw [lessL_lt a b l m hc] at h1
      cases h1
    · rw [lessL_eq a b l m hc] at h1
      rw [lessL_eq b a m l hc.symm] at h2
      rw [UInt8.toNat_inj.1 hc, less_total l m (by simpa using h) h1 h2]
    · rw [lessL_lt b a m l hc] at h2
      cases h2
end Go.Proofs.Yteikldemppbjpaa
