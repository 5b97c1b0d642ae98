/-
  The law's sanity, and its helpers: sanity returns true. No condition.
-/
import Derived.Test.YteikldemppbjpaaGText
namespace Go.Proofs.Yteikldemppbjpaa
open Go Go.RowKit
set_option linter.unusedVariables false

set_option maxRecDepth 100000 in
set_option maxHeartbeats 1000000 in
theorem sanity_any (w : World) : Calls Try.prog 11 #[] w fun e w' => e = .returned (.bool true) ∧ Keeps noBlock w w' := by
  have hs0 : ∀ W, Calls Try.prog 12 #[.string ⟨#[]⟩] W fun e w' => e = .returned (hashV (sha [])) ∧ Keeps noBlock W w' := fun W => sum_any ⟨#[]⟩ W (by decide)
  have hs1 : ∀ W, Calls Try.prog 12 #[.string ⟨#[97, 98, 99]⟩] W fun e w' => e = .returned (hashV (sha [97, 98, 99])) ∧ Keeps noBlock W w' := fun W => sum_any ⟨#[97, 98, 99]⟩ W (by decide)
  have ht0 : ∀ W, Calls Try.prog 16 #[hashV (sha [])] W fun e w' => e = .returned (.string ⟨#[101, 51, 98, 48, 99, 52, 52, 50, 57, 56, 102, 99, 49, 99, 49, 52, 57, 97, 102, 98, 102, 52, 99, 56, 57, 57, 54, 102, 98, 57, 50, 52, 50, 55, 97, 101, 52, 49, 101, 52, 54, 52, 57, 98, 57, 51, 52, 99, 97, 52, 57, 53, 57, 57, 49, 98, 55, 56, 53, 50, 98, 56, 53, 53]⟩) ∧ Keeps noBlock W w' := fun W => (text_any _ W (sha_length _)).mono fun e w' h => ⟨h.1.trans (by rw [sha_empty]; rfl), h.2⟩
  have ht1 : ∀ W, Calls Try.prog 16 #[hashV (sha [97, 98, 99])] W fun e w' => e = .returned (.string ⟨#[98, 97, 55, 56, 49, 54, 98, 102, 56, 102, 48, 49, 99, 102, 101, 97, 52, 49, 52, 49, 52, 48, 100, 101, 53, 100, 97, 101, 50, 50, 50, 51, 98, 48, 48, 51, 54, 49, 97, 51, 57, 54, 49, 55, 55, 97, 57, 99, 98, 52, 49, 48, 102, 102, 54, 49, 102, 50, 48, 48, 49, 53, 97, 100]⟩) ∧ Keeps noBlock W w' := fun W => (text_any _ W (sha_length _)).mono fun e w' h => ⟨h.1.trans (by rw [sha_abc]; rfl), h.2⟩
  obtain ⟨h0, hh0⟩ : ∃ h, h = hashV (sha []) := ⟨_, rfl⟩
  obtain ⟨h1, hh1⟩ : ∃ h, h = hashV (sha [97, 98, 99]) := ⟨_, rfl⟩
  rw [← hh0] at hs0 ht0; rw [← hh1] at hs1 ht1
  have HS0 := Lib.hid hs0; have HS1 := Lib.hid hs1; have HT0 := Lib.hid ht0; have HT1 := Lib.hid ht1
  clear hs0 hs1 ht0 ht1 hh0 hh1
  go_enter Try.func11, Try.ntmps11
  go_wp2_with fail
  refine (HS0.out _).mono ?_
  rintro e w1 ⟨rfl, k1⟩
  have K1 := Lib.hid k1; clear k1
  go_wp2_with fail
  refine (HT0.out _).mono ?_
  rintro e w2 ⟨rfl, k2⟩
  have K2 := Lib.hid k2; clear k2
  go_wp2_with fail
  refine (HS1.out _).mono ?_
  rintro e w3 ⟨rfl, k3⟩
  have K3 := Lib.hid k3; clear k3
  go_wp2_with fail
  refine (HT1.out _).mono ?_
  rintro e w4 ⟨rfl, k4⟩
  have K4 := Lib.hid k4; clear k4
  go_wp2_with fail
  go_ret
  exact ⟨rfl, ((K1.out.trans K2.out).trans K3.out).trans K4.out⟩
end Go.Proofs.Yteikldemppbjpaa
