/-
  A step on a part of the heap is a step on the whole; the order of a region's operations; who has touched a name last. Over any program. No condition.
-/
import Derived.Test.YthlkgmdkabelpaaGreatDoorE18
namespace Go.Proofs.YthlkgmdkabelpaaGreatDoor.X
open Go Go.RowKit
set_option linter.unusedVariables false

theorem glue {P : Program} {ρ ρ' : Ren} {V V' G G' : GH} {nx nx' : Nat} {w w' : World} (hV : HR P ρ V w) (hsub : ∀ n o, ρ n ≠ none → G n = some o → V n = some o) (hS : Step ρ G nx w ρ' G' nx' w') (hG' : HR P ρ' G' w')
    (hV' : ∀ n o, ρ' n ≠ none → V' n = some o → G' n = some o ∨ (ρ n ≠ none ∧ V n = some o ∧ G n = none ∧ G' n = none)) : HR P ρ' V' w' ∧ Step ρ V nx w ρ' V' nx' w' := by
  have hlive : ∀ n, ρ n ≠ none → G n ≠ none → V n ≠ none := fun n h1 h2 => by
    cases e : G n with
    | none => exact absurd e h2
    | some o => rw [hsub n o h1 e]; simp
  have notImg : ∀ n i, ρ n = some i → V n ≠ none → G n = none → ¬ Img ρ G i.b := fun n i h1 h2 h3 => by
    rintro ⟨m, j, k1, k2, k3⟩
    have := hV.inj m n j i k1 h1 (hlive m (by rw [k1]; simp) k2) h2 k3
    subst this
    exact k2 h3
  have live' : ∀ n i, ρ' n = some i → V' n ≠ none → G' n ≠ none ∨ (ρ n = some i ∧ V n ≠ none ∧ G n = none) := fun n i h1 h2 => by
    cases e : V' n with
    | none => exact absurd e h2
    | some o =>
      rcases hV' n o (by rw [h1]; simp) e with h | ⟨k1, k2, k3, k4⟩
      · exact .inl (by rw [h]; simp)
      · cases e2 : ρ n with
        | none => exact absurd e2 k1
        | some j =>
          have := hS.le n j e2
          rw [h1] at this
          cases this
          exact .inr ⟨rfl, by rw [k2]; simp, k3⟩
  have cross : ∀ n m i j, ρ' n = some i → G' n ≠ none → ρ m = some j → V m ≠ none → G m = none → i.b = j.b → False := fun n m i j h1 h2 h3 h4 h5 h6 => by
    rcases hS.img i.b ⟨n, i, h1, h2, rfl⟩ with q | q
    · rw [h6] at q; exact notImg m j h3 h4 h5 q
    · have := hV.live h3 h4; omega
  refine ⟨⟨fun n i o h1 h2 => ?_, fun n m i j h1 h2 h3 h4 h5 => ?_⟩, ⟨hS.le, hS.keeps.mono fun b _ hb => ?_, fun b hb => ?_, hS.dom, hS.next⟩⟩
  · rcases hV' n o (by rw [h1]; simp) h2 with h | ⟨k1, k2, k3, k4⟩
    · exact hG'.obj n i o h1 h
    · cases e2 : ρ n with
      | none => exact absurd e2 k1
      | some j =>
        have := hS.le n j e2
        rw [h1] at this
        cases this
        obtain ⟨ob, q1, q2⟩ := hV.obj n i o e2 k2
        exact ⟨ob, hS.keeps.heap q1 (notImg n i e2 (by rw [k2]; simp) k3), q2.mono hS.le⟩
  · rcases live' n i h1 h3 with a | ⟨a1, a2, a3⟩
    · rcases live' m j h2 h4 with b | ⟨b1, b2, b3⟩
      · exact hG'.inj n m i j h1 h2 a b h5
      · exact (cross n m i j h1 a b1 b2 b3 h5).elim
    · rcases live' m j h2 h4 with b | ⟨b1, b2, b3⟩
      · exact (cross m n j i h2 b a1 a2 a3 h5.symm).elim
      · exact hV.inj n m i j a1 b1 a2 b2 h5
  · obtain ⟨n, i, k1, k2, k3⟩ := hb
    exact ⟨n, i, k1, hlive n (by rw [k1]; simp) k2, k3⟩
  · obtain ⟨n, i, k1, k2, k3⟩ := hb
    rcases live' n i k1 k2 with a | ⟨a1, a2, a3⟩
    · rcases hS.img b ⟨n, i, k1, a, k3⟩ with ⟨m, j, q1, q2, q3⟩ | q
      · exact .inl ⟨m, j, q1, hlive m (by rw [q1]; simp) q2, q3⟩
      · exact .inr q
    · exact .inl ⟨n, i, a1, a2, k3⟩

/-! ### the last that has touched -/
open Classical in
noncomputable def pick (p : Nat → Prop) : Nat → Nat
  | 0 => 0
  | k + 1 => if p k then k + 1 else pick p k
theorem pick_pos {p : Nat → Prop} {k : Nat} (h : p k) : pick p (k + 1) = k + 1 := if_pos h
theorem pick_neg {p : Nat → Prop} {k : Nat} (h : ¬ p k) : pick p (k + 1) = pick p k := if_neg h
theorem pick_congr {p q : Nat → Prop} : ∀ {k : Nat}, (∀ j, j < k → (p j ↔ q j)) → pick p k = pick q k
  | 0, _ => rfl
  | k + 1, h => by
    have ih := pick_congr (k := k) fun j hj => h j (Nat.lt_succ_of_lt hj)
    by_cases hp : p k
    · rw [pick_pos hp, pick_pos ((h k (Nat.lt_succ_self _)).1 hp)]
    · rw [pick_neg hp, pick_neg (fun e => hp ((h k (Nat.lt_succ_self _)).2 e)), ih]
theorem pick_none {p : Nat → Prop} : ∀ {k i : Nat}, i ≤ k → (∀ j, i ≤ j → j < k → ¬ p j) → pick p k = pick p i
  | 0, i, h, _ => by rw [Nat.le_zero.1 h]
  | k + 1, i, h, hn => by
    rcases Nat.lt_or_ge i (k + 1) with q | q
    · rw [pick_neg (hn k (by omega) (Nat.lt_succ_self _))]
      exact pick_none (by omega) fun j h1 h2 => hn j h1 (by omega)
    · have : i = k + 1 := by omega
      rw [this]
theorem pick_last {p : Nat → Prop} {k i : Nat} (hi : i < k) (h : p i) (hl : ∀ j, j < k → p j → j ≤ i) : pick p k = i + 1 := by
  rw [pick_none (i := i + 1) hi fun j h1 h2 h3 => by have := hl j h2 h3; omega, pick_pos h]
theorem pick_stable {α : Type} {f : Nat → α} {τ : Nat → Prop} : ∀ {i : Nat}, (∀ j, j < i → ¬ τ j → f (j + 1) = f j) → f (pick τ i) = f i
  | 0, _ => rfl
  | i + 1, h => by
    by_cases hp : τ i
    · rw [pick_pos hp]
    · rw [pick_neg hp, h i (Nat.lt_succ_self _) hp]
      exact pick_stable fun j hj => h j (Nat.lt_succ_of_lt hj)
/-- if just those ahead of i have touched it: as it is at i -/
theorem pick_at {α : Type} {f : Nat → α} {p τ : Nat → Prop} {k i : Nat} (hi : i ≤ k) (hst : ∀ j, j < k → ¬ τ j → f (j + 1) = f j) (h : ∀ j, j < k → (p j ↔ j < i ∧ τ j)) : f (pick p k) = f i := by
  rw [pick_none hi fun j h1 h2 h3 => by have := ((h j h2).1 h3).1; omega, pick_congr (q := τ) fun j hj => ⟨fun e => ((h j (by omega)).1 e).2, fun e => (h j (by omega)).2 ⟨hj, e⟩⟩]
  exact pick_stable fun j hj => hst j (by omega)

/-! ### the order -/
theorem testBit_two (e j : Nat) : (2 ^ e).testBit j = decide (e = j) := Nat.testBit_two_pow
theorem maskOf_bit {acc : List Nat} : ∀ {es : List Nat} {j : Nat}, (maskOf acc es).testBit j = true → ∃ e ∈ es, e = j ∨ (acc.getD e 0).testBit j = true
  | [], j, h => by simp [maskOf] at h
  | e :: es, j, h => by
    unfold maskOf at h
    rw [Nat.testBit_or, Nat.testBit_or, testBit_two] at h
    simp only [Bool.or_eq_true, decide_eq_true_eq] at h
    rcases h with (h | h) | h
    · exact ⟨e, by simp, .inl h⟩
    · exact ⟨e, by simp, .inr h⟩
    · obtain ⟨e', h1, h2⟩ := maskOf_bit h
      exact ⟨e', by simp [h1], h2⟩
theorem masksFrom_spec {ops : Array Oper} {D : Nat → Prop} (hc : ∀ i o, ops[i]? = some o → D i → ∀ e ∈ edgesOf o, D e) : ∀ (l : List Oper) (acc : List Nat), (∀ j, l[j]? = ops[acc.length + j]?) →
    (∀ i o, i < acc.length → ops[i]? = some o → (∀ e ∈ edgesOf o, D e) → ∀ j, (acc.getD i 0).testBit j = true → D j) →
    ∀ i o, ops[i]? = some o → i < acc.length + l.length → (∀ e ∈ edgesOf o, D e) → ∀ j, ((masksFrom l acc).getD i 0).testBit j = true → D j
  | [], acc, hl, ha, i, o, ho, hi, he, j, hj => ha i o (by simpa using hi) ho he j hj
  | x :: l, acc, hl, ha, i, o, ho, hi, he, j, hj => by
    refine masksFrom_spec hc l (acc ++ [maskOf acc (edgesOf x)]) (fun j => ?_) (fun i o hi ho he j hj => ?_) i o ho (by simp at hi ⊢; omega) he j hj
    · have := hl (j + 1)
      simp only [List.getElem?_cons_succ] at this
      rw [this, List.length_append]
      congr 1
      simp
      omega
    · simp only [List.length_append, List.length_singleton] at hi
      rcases Nat.lt_or_ge i acc.length with q | q
      · refine ha i o q ho he j ?_
        rw [List.getD_eq_getElem?_getD, List.getElem?_append_left q] at hj
        rwa [List.getD_eq_getElem?_getD]
      · have e1 : i = acc.length := by omega
        subst e1
        have e2 : ops[acc.length]? = some x := by have := hl 0; simpa using this.symm
        rw [e2] at ho
        cases ho
        rw [List.getD_eq_getElem?_getD, List.getElem?_append_right (Nat.le_refl _)] at hj
        simp only [Nat.sub_self, List.getElem?_cons_zero, Option.getD_some] at hj
        obtain ⟨e, h1, h2 | h2⟩ := maskOf_bit hj
        · subst h2; exact he e h1
        · rcases Nat.lt_or_ge e acc.length with q2 | q2
          · cases ho2 : ops[e]? with
            | none =>
              have h3 : ops.size ≤ e := Array.getElem?_eq_none_iff.1 ho2
              have h4 := (Array.getElem?_eq_some_iff.1 e2).1
              omega
            | some o2 => exact ha e o2 q2 ho2 (hc e o2 ho2 (he e h1)) j h2
          · rw [List.getD_eq_getElem?_getD, List.getElem?_eq_none q2] at h2
            simp at h2
theorem masks_spec {ops : Array Oper} {D : Nat → Prop} (hc : ∀ i o, ops[i]? = some o → D i → ∀ e ∈ edgesOf o, D e) {i : Nat} {o : Oper} (ho : ops[i]? = some o) (he : ∀ e ∈ edgesOf o, D e) {j : Nat} (hj : ((masks ops).getD i 0).testBit j = true) : D j :=
  masksFrom_spec hc ops.toList [] (fun j => by simp) (fun i o h => by simp at h) i o ho (by simpa using (Array.getElem?_eq_some_iff.1 ho).1) he j hj
theorem hides_mem {ms : List Nat} {i n : Nat} : ∀ {l : List XRec} {j0 d : Nat} {r : XRec}, l[d]? = some r → i ≠ j0 + d → ordB ms i (j0 + d) = false → n ∈ modsOf r → n ∈ hides ms i l j0
  | [], j0, d, r, h, _, _, _ => by simp at h
  | x :: l, j0, 0, r, h, h1, h2, h3 => by
    simp at h
    subst h
    unfold hides
    have e1 : Nat.beq i j0 = false := by cases e : Nat.beq i j0 with | false => rfl | true => exact absurd (Nat.eq_of_beq_eq_true e) (by simpa using h1)
    rw [e1, show ordB ms i j0 = false by simpa using h2]
    exact List.mem_append_left _ h3
  | x :: l, j0, d + 1, r, h, h1, h2, h3 => by
    have h1' : i ≠ j0 + 1 + d := fun e => h1 (by omega)
    have := hides_mem (ms := ms) (n := n) (j0 := j0 + 1) (l := l) (d := d) (r := r) (by simpa using h) h1' (by rw [show j0 + 1 + d = j0 + (d + 1) by omega]; exact h2) h3
    unfold hides
    cases Nat.beq i j0 || ordB ms i j0
    · exact List.mem_append_right _ this
    · exact this
theorem umods_mem {ms : List Nat} {i n : Nat} : ∀ {l : List XRec} {j0 d : Nat} {r : XRec}, l[d]? = some r → i ≠ j0 + d → ordB ms i (j0 + d) = false → n ∈ modsOf r → (j0 + d, r) ∈ umods ms i l j0
  | [], j0, d, r, h, _, _, _ => by simp at h
  | x :: l, j0, 0, r, h, h1, h2, h3 => by
    simp at h
    subst h
    unfold umods
    have e1 : Nat.beq i j0 = false := by cases e : Nat.beq i j0 with | false => rfl | true => exact absurd (Nat.eq_of_beq_eq_true e) (by simpa using h1)
    have e2 : (modsOf x).isEmpty = false := by cases e : modsOf x with | nil => rw [e] at h3; cases h3 | cons _ _ => rfl
    rw [e1, show ordB ms i j0 = false by simpa using h2, e2]
    exact List.mem_cons_self
  | x :: l, j0, d + 1, r, h, h1, h2, h3 => by
    have h1' : i ≠ j0 + 1 + d := fun e => h1 (by omega)
    have := umods_mem (ms := ms) (n := n) (j0 := j0 + 1) (l := l) (d := d) (r := r) (by simpa using h) h1' (by rw [show j0 + 1 + d = j0 + (d + 1) by omega]; exact h2) h3
    rw [show j0 + 1 + d = j0 + (d + 1) by omega] at this
    unfold umods
    cases Nat.beq i j0 || ordB ms i j0 || (modsOf x).isEmpty
    · exact List.mem_cons_of_mem _ this
    · exact this
theorem umods_of {ms : List Nat} {i : Nat} : ∀ {l : List XRec} {j0 j : Nat} {r : XRec}, (j, r) ∈ umods ms i l j0 → ∃ d, j = j0 + d ∧ l[d]? = some r ∧ i ≠ j ∧ ordB ms i j = false
  | [], j0, j, r, h => by cases h
  | x :: l, j0, j, r, h => by
    unfold umods at h
    cases e : (Nat.beq i j0 || ordB ms i j0 || (modsOf x).isEmpty) with
    | true =>
      rw [e] at h
      obtain ⟨d, h1, h2, h3⟩ := umods_of (l := l) h
      exact ⟨d + 1, by omega, by simpa using h2, h3⟩
    | false =>
      rw [e] at h
      rcases List.mem_cons.1 h with h | h
      · cases h
        simp only [Bool.or_eq_false_iff] at e
        exact ⟨0, rfl, rfl, Nat.ne_of_beq_eq_false e.1.1, e.1.2⟩
      · obtain ⟨d, h1, h2, h3⟩ := umods_of (l := l) h
        exact ⟨d + 1, by omega, by simpa using h2, h3⟩
end Go.Proofs.YthlkgmdkabelpaaGreatDoor.X
