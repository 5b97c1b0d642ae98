/-
  The laws' arguments, opened: a slice of acts, a slice of ints, an array of two ints. No condition.
-/
import Derived.Test.YtmigbpfeobjhkaaDSanity
import Derived.ProofKit
import Derived.OpenShut
import Derived.Deep.Slices
import Derived.Deep.Fields
namespace Go.Proofs.Ytmigbpfeobjhkaa
open Go Go.RowKit Go.ChangeShapes Go.WideShapes Go.ChangeAt

abbrev ActD := Int × Int × Int × List UInt8
def inI64 (n : Int) : Prop := -9223372036854775808 ≤ n ∧ n ≤ 9223372036854775807
theorem inI64_of {n : Int} (h : (Lit.int .i64 n).wf = true) : inI64 n := by
  simpa [inI64, Lit.wf, IntKind.min, IntKind.max, IntKind.signed, IntKind.bits] using h
def actFits (a : ActD) : Prop := inI64 a.1 ∧ inI64 a.2.1 ∧ inI64 a.2.2.1 ∧ a.2.2.2.length ≤ 9223372036854775807
/-- a slice of acts that reads as l -/
def Acts (w : World) (v : Value) (l : List ActD) : Prop :=
  ∃ o cap, v = .slice o l.length cap ∧ l.length ≤ cap ∧ (cap : Int) ≤ 9223372036854775807 ∧ (0 < l.length → ∃ b off, o = some ⟨b, off, none⟩ ∧ ∀ i (h : i < l.length),
    w.cell? ⟨b, off + i * 4, none⟩ = some (.int .i64 l[i].1) ∧ w.cell? ⟨b, off + i * 4 + 1, none⟩ = some (.int .i64 l[i].2.1) ∧ w.cell? ⟨b, off + i * 4 + 2, none⟩ = some (.int .i64 l[i].2.2.1) ∧ w.cell? ⟨b, off + i * 4 + 3, none⟩ = some (.string (str l[i].2.2.2))) ∧
  ∀ a ∈ l, actFits a

theorem cellsInt : Try.prog.cellsOf 3 = 1 := by kernel_rfl
theorem cellsString : Try.prog.cellsOf 9 = 1 := by kernel_rfl
theorem cellsAct : Try.prog.cellsOf 33 = 4 := by kernel_rfl
theorem cellsArr : Try.prog.cellsOf 42 = 2 := by kernel_rfl

theorem act_of {H : Type} {enc : TypeId × Value → H} {w : World} {base : Nat} {spare : Nat → Bool} {held : Bool} {n : Nat} {cs : List Value} {x : DataW H × List MemPlace}
    (h : DataW.trod enc Try.prog w base spare held n 33 cs = some x) :
    ∃ a : ActD, cs = [.int .i64 a.1, .int .i64 a.2.1, .int .i64 a.2.2.1, .string (str a.2.2.2)] ∧ actFits a := by
  obtain ⟨xs, m, _, _, hlen, hxl, hf⟩ := DataW.trod_struct Try.underlying33 h
  rw [cellsAct] at hlen
  match cs, hlen with
  | [c0, c1, c2, c3], _ =>
    match xs, hxl with
    | [y0, y1, y2, y3], _ =>
      have f0 : DataW.trod enc Try.prog w base spare held m 3 (List.take (Try.prog.cellsOf 3) [c0, c1, c2, c3]) = _ := hf 0 _ rfl
      have f1 : DataW.trod enc Try.prog w base spare held m 3 (List.take (Try.prog.cellsOf 3) [c1, c2, c3]) = _ := hf 1 _ rfl
      have f2 : DataW.trod enc Try.prog w base spare held m 3 (List.take (Try.prog.cellsOf 3) [c2, c3]) = _ := hf 2 _ rfl
      have f3 : DataW.trod enc Try.prog w base spare held m 9 (List.take (Try.prog.cellsOf 9) [c3]) = _ := hf 3 _ rfl
      simp only [cellsInt, cellsString] at f0 f1 f2 f3
      obtain ⟨k, h0, _, w0⟩ := DataW.trod_int Try.underlying3 f0
      obtain ⟨o, h1, _, w1⟩ := DataW.trod_int Try.underlying3 f1
      obtain ⟨n2, h2, _, w2⟩ := DataW.trod_int Try.underlying3 f2
      obtain ⟨s, h3, _, w3⟩ := DataW.trod_string Try.underlying9 f3
      simp at h0 h1 h2 h3
      subst h0; subst h1; subst h2; subst h3
      exact ⟨(k, o, n2, s.data.toList), rfl, inI64_of w0, inI64_of w1, inI64_of w2, by have h3 := size_data s; unfold maxLen at w3; show s.data.toList.length ≤ _; omega⟩

theorem choose_list {α : Type} {p : Nat → α → Prop} : ∀ (n : Nat), (∀ i, i < n → ∃ a, p i a) → ∃ l : List α, l.length = n ∧ ∀ i (h : i < l.length), p i l[i]
  | 0, _ => ⟨[], rfl, fun i h => absurd h (Nat.not_lt_zero i)⟩
  | n + 1, h => by
    obtain ⟨l, hl, hp⟩ := choose_list n (fun i hi => h i (by omega))
    obtain ⟨a, ha⟩ := h n (by omega)
    refine ⟨l ++ [a], by simp [hl], fun i hi => ?_⟩
    by_cases hin : i < l.length
    · rw [List.getElem_append_left hin]; exact hp i hin
    · have : i = l.length := by simp at hi; omega
      subst this
      rw [List.getElem_append_right (Nat.le_refl _)]
      simp only [Nat.sub_self, List.getElem_cons_zero]
      rw [hl]; exact ha

theorem open_acts {H : Type} {enc : TypeId × Value → H} {w : World} {o : Option Addr} {n c : Nat} {d : DataW H} {ps : List MemPlace}
    (h : DataW.Trod enc Try.prog w 0 (fun _ => true) true 22 (.slice o n c) d ps) : ∃ l, Acts w (.slice o n c) l := by
  obtain ⟨fuel, hf⟩ := h
  rcases Go.Deep.open_slice Try.underlying22 hf with ⟨hcs, _⟩ | ⟨a, len, cap, m, k, D, Pl, hcs, _, hl, hm, hmm, _, hx⟩
  · simp [Value.cells] at hcs
    obtain ⟨rfl, rfl, rfl⟩ := hcs
    exact ⟨[], none, 0, rfl, Nat.le_refl _, by decide, fun h => absurd h (Nat.lt_irrefl 0), fun _ h => by simp at h⟩
  · simp [Value.cells] at hcs
    obtain ⟨rfl, rfl, rfl⟩ := hcs
    simp only [if_true] at hmm
    rw [cellsAct] at hx
    have hone : ∀ i, i < n → ∃ x : ActD, actFits x ∧ ∀ j v, ([.int .i64 x.1, .int .i64 x.2.1, .int .i64 x.2.2.1, .string (str x.2.2.2)] : List Value)[j]? = some v → w.cell? ((a.add (i * 4)).add j) = some v := by
      intro i hi
      obtain ⟨cs', hc, ht⟩ := hx i (by omega)
      obtain ⟨x, rfl, hfit⟩ := act_of ht
      refine ⟨x, hfit, fun j v hv => ?_⟩
      obtain ⟨_, _, hat⟩ := World.cells?_some hc
      have hj : j < 4 := by
        have := (List.getElem?_eq_some_iff.1 hv).1
        simpa using this
      rw [hat j hj]; exact hv
    obtain ⟨l, hll, hp⟩ := choose_list n hone
    subst hll
    refine ⟨l, some a, c, rfl, hl, by simp only [maxLen] at hm; omega, fun h0 => ?_, fun x hxl => ?_⟩
    · have hsp : a.spot = none := by
        have h1 := (hp 0 h0).2 0 _ rfl
        cases hs : a.spot with
        | none => rfl
        | some z => simp [World.cell?, Addr.add, hs] at h1; split at h1 <;> simp at h1
      obtain ⟨b, off, sp⟩ := a
      simp only at hsp
      subst hsp
      refine ⟨b, off, rfl, fun i hi => ?_⟩
      have h2 := (hp i hi).2
      have e : ∀ j, (((⟨b, off, none⟩ : Addr).add (i * 4)).add j) = ⟨b, off + i * 4 + j, none⟩ := fun j => by rw [addr_add, addr_add]
      exact ⟨by have := h2 0 _ rfl; rwa [e] at this, by have := h2 1 _ rfl; rwa [e] at this, by have := h2 2 _ rfl; rwa [e] at this, by have := h2 3 _ rfl; rwa [e] at this⟩
    · obtain ⟨i, hi, rfl⟩ := List.getElem_of_mem hxl
      exact (hp i hi).1

theorem open_intsl {H : Type} {enc : TypeId × Value → H} {w : World} {o : Option Addr} {n c : Nat} {d : DataW H} {ps : List MemPlace}
    (h : DataW.Trod enc Try.prog w 0 (fun _ => true) true 36 (.slice o n c) d ps) : ∃ q, Ints w (.slice o n c) q := by
  obtain ⟨fuel, hf⟩ := h
  rcases open_ints Try.underlying36 Try.underlying3 cellsInt hf with ⟨hcs, _⟩ | ⟨a, len, cap, zs, hcs, _, hl, hm, hz, _, hcell, hwz⟩
  · simp [Value.cells] at hcs
    obtain ⟨rfl, rfl, rfl⟩ := hcs
    exact ⟨[], Ints.nil w⟩
  · simp [Value.cells] at hcs
    obtain ⟨rfl, rfl, rfl⟩ := hcs
    simp only [if_true] at hz
    have hlen : (zs.take n).length = n := by simp; omega
    refine ⟨zs.take n, some a, c, by rw [hlen], by omega, by simp only [maxLen] at hm; omega, fun h0 => ?_, fun x hx => inI64_of (hwz x (List.mem_of_mem_take hx))⟩
    have hsp : a.spot = none := by
      have h1 := hcell 0 (by omega)
      cases hs : a.spot with
      | none => rfl
      | some z => simp [World.cell?, Addr.add, hs] at h1; split at h1 <;> simp at h1
    obtain ⟨b, off, sp⟩ := a
    simp only at hsp
    subst hsp
    refine ⟨b, off, rfl, fun i hi => ?_⟩
    have := hcell i (by omega)
    rw [addr_add] at this
    rw [this]
    have hz2 : i < zs.length := by omega
    simp [List.getD_eq_getElem?_getD, List.getElem?_eq_getElem hz2]

theorem open_two {H : Type} {enc : TypeId × Value → H} {w : World} {base : Nat} {spare : Nat → Bool} {held : Bool} {r : Reach} {b0 : Nat} {v : Value} {d : DataW H} {ps : List MemPlace}
    (hv : Value.okWide Try.prog w r b0 42 v) (h : DataW.Trod enc Try.prog w base spare held 42 v d ps) :
    ∃ a b, v = .agg #[.int .i64 a, .int .i64 b] ∧ inI64 a ∧ inI64 b := by
  obtain ⟨fuel, hf⟩ := h
  obtain ⟨xs, m, _, _, hlen, hxl, hx⟩ := DataW.trod_array Try.underlying42 hf
  rw [cellsArr] at hlen
  have hagg : ∃ cs, v = .agg cs := by
    simp only [Value.okWide, Try.underlying42] at hv
    obtain ⟨cs, h1, _⟩ := hv
    exact ⟨cs, h1⟩
  obtain ⟨cs, rfl⟩ := hagg
  simp only [Value.cells] at hlen hx
  obtain ⟨l⟩ := cs
  match l, hlen with
  | [c0, c1], _ =>
    have f0 := hx 0 (by omega)
    have f1 := hx 1 (by omega)
    simp only [cellsInt] at f0 f1
    match xs, hxl with
    | [y0, y1], _ =>
      obtain ⟨a, h0, _, w0⟩ := DataW.trod_int Try.underlying3 f0
      obtain ⟨b, h1, _, w1⟩ := DataW.trod_int Try.underlying3 f1
      simp at h0 h1
      subst h0; subst h1
      exact ⟨a, b, rfl, inI64_of w0, inI64_of w1⟩
end Go.Proofs.Ytmigbpfeobjhkaa
