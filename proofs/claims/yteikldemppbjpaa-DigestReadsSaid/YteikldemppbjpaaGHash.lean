/-
  The laws' arguments, opened: a hash, an array of two ints; the texts of hashes differ where the hashes do. No condition.
-/
import Derived.Test.YteikldemppbjpaaGHelp
import Derived.ProofKit
import Derived.OpenShut
import Derived.Deep.Slices
import Derived.Deep.Fields
namespace Go.Proofs.Yteikldemppbjpaa
open Go Go.RowKit Go.ChangeShapes Go.WideShapes Go.ChangeAt
set_option linter.unusedVariables false

theorem cellsU8 : Try.prog.cellsOf 5 = 1 := by kernel_rfl
theorem cellsI64 : Try.prog.cellsOf 3 = 1 := by kernel_rfl
theorem cellsHash : Try.prog.cellsOf 24 = 32 := by kernel_rfl

theorem choose_listG {α : Type} {p : Nat → α → Prop} : ∀ (n : Nat), (∀ i, i < n → ∃ a, p i a) → ∃ l : List α, l.length = n ∧ ∀ i (h : i < l.length), p i l[i]
  | 0, _ => ⟨[], rfl, fun i h => absurd h (Nat.not_lt_zero i)⟩
  | n + 1, h => by
    obtain ⟨l, hl, hp⟩ := choose_listG n (fun i hi => h i (by omega))
    obtain ⟨a, ha⟩ := h n (by omega)
    refine ⟨l ++ [a], by simp [hl], fun i hi => ?_⟩
    by_cases hin : i < l.length
    · rw [List.getElem_append_left hin]; exact hp i hin
    · have : i = l.length := by simp at hi; omega
      subst this
      rw [List.getElem_append_right (Nat.le_refl _)]
      simpa [hl] using ha

theorem byte_of_wf {n : Int} (h : (Lit.int .u8 n).wf = true) : ∃ b : UInt8, n = (b.toNat : Int) := by
  have h : 0 ≤ n ∧ n ≤ 255 := by simpa [Lit.wf, IntKind.min, IntKind.max, IntKind.signed, IntKind.bits] using h
  exact ⟨UInt8.ofNat n.toNat, by rw [UInt8.toNat_ofNat']; omega⟩

theorem open_hash {H : Type} {enc : TypeId × Value → H} {w : World} {base : Nat} {spare : Nat → Bool} {held : Bool} {r : Reach} {b0 : Nat} {v : Value} {d : DataW H} {ps : List MemPlace}
    (hv : Value.okWide Try.prog w r b0 24 v) (h : DataW.Trod enc Try.prog w base spare held 24 v d ps) :
    ∃ l : List UInt8, v = .agg (bvs l).toArray ∧ l.length = 32 := by
  obtain ⟨fuel, hf⟩ := h
  obtain ⟨xs, m, _, _, hlen, hxl, hx⟩ := DataW.trod_array Try.underlying24 hf
  rw [cellsHash] at hlen
  have hagg : ∃ cs, v = .agg cs := by
    simp only [Value.okWide, Try.underlying24] at hv
    obtain ⟨cs, h1, _⟩ := hv
    exact ⟨cs, h1⟩
  obtain ⟨cs, rfl⟩ := hagg
  simp only [Value.cells] at hlen hx
  obtain ⟨l⟩ := cs
  simp only at hlen hx
  have hone : ∀ i, i < 32 → ∃ b : UInt8, l[i]? = some (bv b) := by
    intro i hi
    have f := hx i hi
    rw [cellsU8, Nat.mul_one, List.getElem?_eq_getElem (by omega)] at f
    obtain ⟨n, hn, _, wn⟩ := DataW.trod_int Try.underlying5 f
    obtain ⟨b, rfl⟩ := byte_of_wf wn
    refine ⟨b, ?_⟩
    have : ((l.drop i).take 1)[0]? = some (bv b) := by rw [hn]; rfl
    simpa using this
  obtain ⟨q, hq, hp⟩ := choose_listG 32 hone
  refine ⟨q, ?_, hq⟩
  congr 1
  congr 1
  apply List.ext_getElem?
  intro i
  by_cases hi : i < q.length
  · rw [hp i hi]
    simp [bvs, List.getElem?_eq_getElem hi]
  · rw [List.getElem?_eq_none (by omega), List.getElem?_eq_none (by rw [length_bvs]; omega)]

theorem open_twoG {H : Type} {enc : TypeId × Value → H} {w : World} {base : Nat} {spare : Nat → Bool} {held : Bool} {r : Reach} {b0 : Nat} {v : Value} {d : DataW H} {ps : List MemPlace}
    (hv : Value.okWide Try.prog w r b0 35 v) (h : DataW.Trod enc Try.prog w base spare held 35 v d ps) :
    ∃ a b, v = .agg #[.int .i64 a, .int .i64 b] ∧ (Lit.int .i64 a).wf = true ∧ (Lit.int .i64 b).wf = true := by
  obtain ⟨fuel, hf⟩ := h
  obtain ⟨xs, m, _, _, hlen, hxl, hx⟩ := DataW.trod_array Try.underlying35 hf
  rw [show Try.prog.cellsOf 35 = 2 by kernel_rfl] at hlen
  have hagg : ∃ cs, v = .agg cs := by
    simp only [Value.okWide, Try.underlying35] at hv
    obtain ⟨cs, h1, _⟩ := hv
    exact ⟨cs, h1⟩
  obtain ⟨cs, rfl⟩ := hagg
  simp only [Value.cells] at hlen hx
  obtain ⟨l⟩ := cs
  match l, hlen with
  | [c0, c1], _ =>
    have f0 := hx 0 (by omega)
    have f1 := hx 1 (by omega)
    simp only [cellsI64] at f0 f1
    match xs, hxl with
    | [y0, y1], _ =>
      obtain ⟨a, h0, _, w0⟩ := DataW.trod_int Try.underlying3 f0
      obtain ⟨b, h1, _, w1⟩ := DataW.trod_int Try.underlying3 f1
      simp at h0 h1
      subst h0; subst h1
      exact ⟨a, b, rfl, w0, w1⟩

theorem hexd_inj : ∀ a b : Fin 16, hexd a.val = hexd b.val → a = b := by decide
theorem byte_text_inj (a b : UInt8) (h : textL [a] = textL [b]) : a = b := by
  have h2 : hexd (a.toNat / 16) = hexd (b.toNat / 16) ∧ hexd (a.toNat % 16) = hexd (b.toNat % 16) := by
    simpa [textL] using h
  have hl := a.toNat_lt; have hm := b.toNat_lt
  have e1 := hexd_inj ⟨a.toNat / 16, by omega⟩ ⟨b.toNat / 16, by omega⟩ h2.1
  have e2 := hexd_inj ⟨a.toNat % 16, by omega⟩ ⟨b.toNat % 16, by omega⟩ h2.2
  simp only [Fin.mk.injEq] at e1 e2
  apply UInt8.toNat_inj.1
  omega
theorem textL_cons (a : UInt8) (l : List UInt8) : textL (a :: l) = textL [a] ++ textL l := textL_append [a] l
theorem textL_inj : ∀ (a b : List UInt8), textL a = textL b → a = b
  | [], [], _ => rfl
  | [], b :: l, h => by have := congrArg List.length h; simp only [textL_length, List.length_nil, List.length_cons] at this; omega
  | a :: l, [], h => by have := congrArg List.length h; simp only [textL_length, List.length_nil, List.length_cons] at this; omega
  | a :: l, b :: m, h => by
    rw [textL_cons a l, textL_cons b m] at h
    obtain ⟨h1, h2⟩ := List.append_inj h (by simp only [textL_length, List.length_cons, List.length_nil])
    rw [byte_text_inj a b h1, textL_inj l m h2]
theorem str_inj {a b : List UInt8} (h : str a = str b) : a = b := by
  have := congrArg (fun s : ByteArray => s.data.toList) h
  exact this
end Go.Proofs.Yteikldemppbjpaa
