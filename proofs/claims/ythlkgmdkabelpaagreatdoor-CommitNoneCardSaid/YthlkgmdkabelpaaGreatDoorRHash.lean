/-
  The laws' arguments, opened: a hash, an array of two ints; the texts of hashes differ where the hashes do. No condition.
-/
import Derived.Test.YthlkgmdkabelpaaGreatDoorHText
import Derived.ProofKit
import Derived.OpenShut
import Derived.Deep.Slices
import Derived.Deep.Fields
namespace Go.Proofs.YthlkgmdkabelpaaGreatDoor
open Go Go.RowKit Go.ChangeShapes Go.WideShapes Go.ChangeAt
set_option linter.unusedVariables false

theorem cellsU8 : Tryz.prog.cellsOf 5 = 1 := by kernel_rfl
theorem cellsI64 : Tryz.prog.cellsOf 3 = 1 := by kernel_rfl
theorem cellsHash : Tryz.prog.cellsOf 24 = 32 := by kernel_rfl

theorem choose_listG {α : Type} {p : Nat → α → Prop} : ∀ (n : Nat), (∀ i, i < n → ∃ a, p i a) → ∃ l : List α, l.length = n ∧ ∀ i (h : i < l.length), p i l[i]
  | 0, _ => ⟨[], rfl, fun i h => absurd h (Nat.not_lt_zero i)⟩
  | n + 1, h => by
    obtain ⟨l, hl, hp⟩ := choose_listG n (fun i hi => h i (by omega))
    obtain ⟨a, ha⟩ := h n (by omega)
    refine ⟨l ++ [a], by simp [hl], fun i hi => ?_⟩
    by_cases hin : i < l.length
    · rw [List.getElem_append_left hin]; exact hp i hin
    · have : i = l.length := by simp at hi; omega
      subst this
      rw [List.getElem_append_right (Nat.le_refl _)]
      simpa [hl] using ha

theorem byte_of_wf {n : Int} (h : (Lit.int .u8 n).wf = true) : ∃ b : UInt8, n = (b.toNat : Int) := by
  have h : 0 ≤ n ∧ n ≤ 255 := by simpa [Lit.wf, IntKind.min, IntKind.max, IntKind.signed, IntKind.bits] using h
  exact ⟨UInt8.ofNat n.toNat, by rw [UInt8.toNat_ofNat']; omega⟩

set_option linter.constructorNameAsVariable false
set_option maxRecDepth 100000 in
theorem open_hash {H : Type} {enc : TypeId × Value → H} {w : World} {base : Nat} {spare : Nat → Bool} {held : Bool} {r : Reach} {b0 : Nat} {v : Value} {d : DataW H} {ps : List MemPlace}
    (hv : Value.okWide Tryz.prog w r b0 24 v) (h : DataW.Trod enc Tryz.prog w base spare held 24 v d ps) :
    ∃ l : List UInt8, v = .agg (bvs l).toArray ∧ l.length = 32 := by
  obtain ⟨fuel, hf⟩ := h
  obtain ⟨xs, m, _, _, hlen, hxl, hx⟩ := DataW.trod_array Tryz.underlying24 hf
  rw [cellsHash] at hlen
  have hagg : ∃ cs, v = .agg cs := by
    simp only [Value.okWide, Tryz.underlying24] at hv
    obtain ⟨cs, h1, _⟩ := hv
    exact ⟨cs, h1⟩
  obtain ⟨cs, rfl⟩ := hagg
  simp only [Value.cells] at hlen hx
  obtain ⟨l⟩ := cs
  simp only at hlen hx
  have hone : ∀ i, i < 32 → ∃ b : UInt8, l[i]? = some (bv b) := by
    intro i hi
    have f := hx i hi
    rw [cellsU8, Nat.mul_one, List.getElem?_eq_getElem (by omega)] at f
    obtain ⟨n, hn, _, wn⟩ := DataW.trod_int Tryz.underlying5 f
    obtain ⟨b, rfl⟩ := byte_of_wf wn
    refine ⟨b, ?_⟩
    have : ((l.drop i).take 1)[0]? = some (bv b) := by rw [hn]; rfl
    simpa using this
  obtain ⟨q, hq, hp⟩ := choose_listG 32 hone
  refine ⟨q, ?_, hq⟩
  congr 1
  congr 1
  apply List.ext_getElem?
  intro i
  by_cases hi : i < q.length
  · rw [hp i hi]
    simp [bvs, List.getElem?_eq_getElem hi]
  · rw [List.getElem?_eq_none (by omega), List.getElem?_eq_none (by rw [length_bvs]; omega)]

end Go.Proofs.YthlkgmdkabelpaaGreatDoor
