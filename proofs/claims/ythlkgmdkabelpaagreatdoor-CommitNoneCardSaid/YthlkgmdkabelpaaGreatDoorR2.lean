/-
  CommitNone: all but the last look, carried out with a hash of whatever bytes. No condition.
-/
import Derived.Test.YthlkgmdkabelpaaGreatDoorR1
import Derived.KernelRfl
namespace Go.Proofs.YthlkgmdkabelpaaGreatDoor.X
open Go Go.RowKit
set_option linter.unusedVariables false

theorem list32 : ∀ a : List UInt8, a.length = 32 → ∃ x0 x1 x2 x3 x4 x5 x6 x7 x8 x9 x10 x11 x12 x13 x14 x15 x16 x17 x18 x19 x20 x21 x22 x23 x24 x25 x26 x27 x28 x29 x30 x31 : UInt8, a = [x0, x1, x2, x3, x4, x5, x6, x7, x8, x9, x10, x11, x12, x13, x14, x15, x16, x17, x18, x19, x20, x21, x22, x23, x24, x25, x26, x27, x28, x29, x30, x31] := by
  have step : ∀ (n : Nat) (a : List UInt8), a.length = n + 1 → ∃ x l, a = x :: l ∧ l.length = n := fun n a h => by
    cases a with
    | nil => simp at h
    | cons x l => exact ⟨x, l, rfl, by simpa using h⟩
  intro a h
  obtain ⟨x0, l1, rfl, h1⟩ := step 31 a h
  obtain ⟨x1, l2, rfl, h2⟩ := step 30 l1 h1
  obtain ⟨x2, l3, rfl, h3⟩ := step 29 l2 h2
  obtain ⟨x3, l4, rfl, h4⟩ := step 28 l3 h3
  obtain ⟨x4, l5, rfl, h5⟩ := step 27 l4 h4
  obtain ⟨x5, l6, rfl, h6⟩ := step 26 l5 h5
  obtain ⟨x6, l7, rfl, h7⟩ := step 25 l6 h6
  obtain ⟨x7, l8, rfl, h8⟩ := step 24 l7 h7
  obtain ⟨x8, l9, rfl, h9⟩ := step 23 l8 h8
  obtain ⟨x9, l10, rfl, h10⟩ := step 22 l9 h9
  obtain ⟨x10, l11, rfl, h11⟩ := step 21 l10 h10
  obtain ⟨x11, l12, rfl, h12⟩ := step 20 l11 h11
  obtain ⟨x12, l13, rfl, h13⟩ := step 19 l12 h12
  obtain ⟨x13, l14, rfl, h14⟩ := step 18 l13 h13
  obtain ⟨x14, l15, rfl, h15⟩ := step 17 l14 h14
  obtain ⟨x15, l16, rfl, h16⟩ := step 16 l15 h15
  obtain ⟨x16, l17, rfl, h17⟩ := step 15 l16 h16
  obtain ⟨x17, l18, rfl, h18⟩ := step 14 l17 h17
  obtain ⟨x18, l19, rfl, h19⟩ := step 13 l18 h18
  obtain ⟨x19, l20, rfl, h20⟩ := step 12 l19 h19
  obtain ⟨x20, l21, rfl, h21⟩ := step 11 l20 h20
  obtain ⟨x21, l22, rfl, h22⟩ := step 10 l21 h21
  obtain ⟨x22, l23, rfl, h23⟩ := step 9 l22 h22
  obtain ⟨x23, l24, rfl, h24⟩ := step 8 l23 h23
  obtain ⟨x24, l25, rfl, h25⟩ := step 7 l24 h24
  obtain ⟨x25, l26, rfl, h26⟩ := step 6 l25 h25
  obtain ⟨x26, l27, rfl, h27⟩ := step 5 l26 h26
  obtain ⟨x27, l28, rfl, h28⟩ := step 4 l27 h27
  obtain ⟨x28, l29, rfl, h29⟩ := step 3 l28 h28
  obtain ⟨x29, l30, rfl, h30⟩ := step 2 l29 h29
  obtain ⟨x30, l31, rfl, h31⟩ := step 1 l30 h30
  obtain ⟨x31, l32, rfl, h32⟩ := step 0 l31 h31
  have : l32 = [] := List.length_eq_zero_iff.1 h32
  subst this
  exact ⟨x0, x1, x2, x3, x4, x5, x6, x7, x8, x9, x10, x11, x12, x13, x14, x15, x16, x17, x18, x19, x20, x21, x22, x23, x24, x25, x26, x27, x28, x29, x30, x31, rfl⟩
noncomputable def runS : XK := xrun Tryz.prog (hooksS 100000) 100000
noncomputable def pcsNone : List Code := pieces (Tryz.prog.funcs[4]?)
def fNone : List (Nat × Value) := [
  (1, .pointer (some ⟨0, 0, none⟩)),
  (2, .bool false),
  (3, .bool true),
  (5, .int .i64 50),
  (7, .int .i64 50),
  (9, .int .i64 1),
  (11, .int .i64 50),
  (13, .bool false),
  (15, .int .i64 50),
  (16, .slice none 0 0),
  (17, .int .i64 0)]
def oNone (a : List UInt8) : List (Nat × XObj) := [(0, .cells (bvs a) 24 (0, 0))]
set_option maxRecDepth 100000 in
theorem cNone (a : List UInt8) (ha : a.length = 32) : outV (runL runS 99 ((pcsNone.drop 0).take 9) (begin0 [.agg (bvs a).toArray])) (fNone.map (·.1)) ((oNone a).map (·.1)) = some (fNone.map (fun p => some p.2), (oNone a).map (fun p => some p.2), 63, true) := by
  obtain ⟨x0, x1, x2, x3, x4, x5, x6, x7, x8, x9, x10, x11, x12, x13, x14, x15, x16, x17, x18, x19, x20, x21, x22, x23, x24, x25, x26, x27, x28, x29, x30, x31, rfl⟩ := list32 a ha
  kernel_rfl
end Go.Proofs.YthlkgmdkabelpaaGreatDoor.X
