/-
  A drawn region: one operation that is ready is carried out, whatever else is done already. Over any program. No condition.
-/
import Derived.Test.YthlkgmdkabelpaaGreatDoorE20
namespace Go.Proofs.YthlkgmdkabelpaaGreatDoor.X
open Go Go.RowKit
set_option linter.unusedVariables false

def Tch (σ : Nat → XS) (j n : Nat) : Prop := n ∈ modsW (σ j).W (σ (j + 1)).W ∨ ((σ j).W.next ≤ n ∧ n < (σ (j + 1)).W.next)
def Wr (ops : Array Oper) (j : Nat) (t : Tmp) : Prop := ∃ o, ops[j]? = some o ∧ o.dst = some t
noncomputable def VD (ops : Array Oper) (σ : Nat → XS) (D : Nat → Prop) : GH := fun n => (σ (pick (fun j => D j ∧ Tch σ j n) ops.size)).W.get n
noncomputable def TD (ops : Array Oper) (σ : Nat → XS) (D : Nat → Prop) (t : Tmp) : Option Value := (σ (pick (fun j => D j ∧ Wr ops j t) ops.size)).fr.get t
def Closed (ops : Array Oper) (D : Nat → Prop) : Prop := ∀ j o, ops[j]? = some o → D j → ∀ e ∈ edgesOf o, D e
structure Inv (P : Program) (N : Nat) (ops : Array Oper) (σ : Nat → XS) (ρ0 : Ren) (w0 : World) (D : Nat → Prop) (ρ : Ren) (a : Act) (w : World) : Prop where
  hr : HR P ρ (VD ops σ D) w
  le : ρ0.le ρ
  keeps : Keeps (Img ρ0 (σ 0).W.get) w0 w
  img : ∀ b, Img ρ (VD ops σ D) b → Img ρ0 (σ 0).W.get b ∨ w0.heap.size ≤ b
  dom : ∀ n, ρ n ≠ none → ρ0 n ≠ none ∨ ∃ j, D j ∧ j < ops.size ∧ (σ j).W.next ≤ n ∧ n < (σ (j + 1)).W.next
  sz : a.tmps.size = N
  tm : ∀ t v, TD ops σ D t = some v → VR ρ v (a.tmps.getD t undef)
  ds : DRs ρ (σ 0).ds a.defers

section
variable {P : Program} {R : XK} {N : Nat} {rd rb : Option Nat} {ops : Array Oper} {rs : List XRec} {σ : Nat → XS}
theorem lt_of_op {i : Nat} {o : Oper} (h : ops[i]? = some o) : i < ops.size := (Array.getElem?_eq_some_iff.1 h).1
theorem op_of {j : Nat} (h : j < ops.size) : ∃ o, ops[j]? = some o := ⟨_, Array.getElem?_eq_getElem h⟩
theorem Reg.nx (h : Reg P R N rd ops σ rs) {i : Nat} : ∀ {j : Nat}, i ≤ j → j ≤ ops.size → (σ i).W.next ≤ (σ j).W.next
  | 0, hij, _ => by rw [Nat.le_zero.1 hij]; exact Nat.le_refl _
  | j + 1, hij, hj => by
    rcases Nat.lt_or_ge i (j + 1) with q | q
    · exact Nat.le_trans (h.nx (j := j) (by omega) (by omega)) (h.ext j (by omega)).next
    · have : i = j + 1 := by omega
      rw [this]; exact Nat.le_refl _
theorem Reg.stW (h : Reg P R N rd ops σ rs) {j n : Nat} (hj : j < ops.size) (hn : ¬ Tch σ j n) : (σ (j + 1)).W.get n = (σ j).W.get n :=
  (h.ext j hj).same (fun e => hn (.inl e)) (fun e => hn (.inr e))
theorem Reg.stT (h : Reg P R N rd ops σ rs) {j : Nat} {t : Tmp} (hj : j < ops.size) (hn : ¬ Wr ops j t) : (σ (j + 1)).fr.get t = (σ j).fr.get t := by
  obtain ⟨o, ho⟩ := op_of hj
  obtain ⟨v, h1, _⟩ := op1_put (h.step j o ho).1
  exact putX_ne h1 fun e => hn ⟨o, ho, e⟩
/-- the name's birth tells who has laid it -/
theorem Reg.born (h : Reg P R N rd ops σ rs) {i j n : Nat} (hi : i < ops.size) (hj : j < ops.size) (h1 : (σ i).W.next ≤ n) (h2 : n < (σ (i + 1)).W.next) (h3 : (σ j).W.next ≤ n) (h4 : n < (σ (j + 1)).W.next) : i = j := by
  rcases Nat.lt_trichotomy i j with q | q | q
  · have := h.nx (i := i + 1) (j := j) q (by omega); omega
  · exact q
  · have := h.nx (i := j + 1) (j := i) q (by omega); omega

/-- an operation that is ready -/
structure Rdy (ops : Array Oper) (D : Nat → Prop) (i : Nat) (o : Oper) : Prop where
  op : ops[i]? = some o
  un : ¬ D i
  after : ∀ e ∈ edgesOf o, D e
  closed : Closed ops D
variable {D : Nat → Prop} {i : Nat} {o : Oper}
theorem Rdy.lt (hr : Rdy ops D i o) : i < ops.size := lt_of_op hr.op
theorem ord_D (h : Reg P R N rd ops σ rs) (hr : Rdy ops D i o) {j : Nat} (hj : j < ops.size) (ho : ordB (masks ops) i j = true) (hD : D j) : j < i := by
  obtain ⟨oj, hoj⟩ := op_of hj
  unfold ordB at ho
  rcases Bool.or_eq_true _ _ ▸ ho with q | q
  · exact absurd (masks_spec hr.closed hoj (hr.closed j oj hoj hD) q) hr.un
  · exact masks_spec (D := fun x => x < i) (fun i' o' h1 h2 e he => Nat.lt_trans (h.lex i' o' h1 e he) h2) hr.op (h.lex i o hr.op) q
theorem ord_lt (h : Reg P R N rd ops σ rs) (hr : Rdy ops D i o) {j : Nat} (hj : j < i) (ho : ordB (masks ops) i j = true) : D j := by
  have hi := hr.lt
  obtain ⟨oj, hoj⟩ := op_of (show j < ops.size by omega)
  unfold ordB at ho
  rcases Bool.or_eq_true _ _ ▸ ho with q | q
  · have := masks_spec (D := fun x => x < j) (fun i' o' h1 h2 e he => Nat.lt_trans (h.lex i' o' h1 e he) h2) hoj (h.lex j oj hoj) q
    omega
  · exact masks_spec hr.closed hr.op hr.after q
section
variable {ρ0 ρ : Ren} {w0 w : World} {a : Act}
theorem Inv.alloc (hI : Inv P N ops σ ρ0 w0 D ρ a w) (h : Reg P R N rd ops σ rs) (hfr : Fresh ρ0 (σ 0).W.next (σ ops.size).W.next) {j n : Nat} (hj : j < ops.size) (hn : ρ n ≠ none) (h1 : (σ j).W.next ≤ n) (h2 : n < (σ (j + 1)).W.next) : D j := by
  rcases hI.dom n hn with q | ⟨j', q1, q2, q3, q4⟩
  · have k1 := h.nx (i := 0) (j := j) (Nat.zero_le _) (by omega)
    have k2 := h.nx (i := j + 1) (j := ops.size) hj (Nat.le_refl _)
    exact absurd (hfr n (by omega) (by omega)) q
  · rw [h.born hj q2 h1 h2 q3 q4]; exact q1
/-- what is seen of a name at i -/
theorem Vat (hI : Inv P N ops σ ρ0 w0 D ρ a w) (h : Reg P R N rd ops σ rs) (hfr : Fresh ρ0 (σ 0).W.next (σ ops.size).W.next) (hr : Rdy ops D i o) {n : Nat} (hn : ρ n ≠ none) (hlt : n < (σ i).W.next)
    (hu : ∀ j, j < ops.size → j ≠ i → ordB (masks ops) i j = false → n ∈ modsW (σ j).W (σ (j + 1)).W → (D j ↔ j < i)) : VD ops σ D n = (σ i).W.get n := by
  have hi := hr.lt
  refine pick_at (f := fun j => (σ j).W.get n) (τ := fun j => Tch σ j n) (by omega) (fun j hj ht => h.stW hj ht) fun j hj => ⟨fun ⟨h1, h2⟩ => ⟨?_, h2⟩, fun ⟨h1, h2⟩ => ⟨?_, h2⟩⟩
  · rcases h2 with h2 | ⟨h2, h3⟩
    · cases q : ordB (masks ops) i j with
      | true => exact ord_D h hr hj q h1
      | false => exact (hu j hj (fun e => hr.un (e ▸ h1)) q h2).1 h1
    · rcases Nat.lt_or_ge j i with q | q
      · exact q
      · have := h.nx (i := i) (j := j) q (by omega); omega
  · rcases h2 with h2 | ⟨h2, h3⟩
    · cases q : ordB (masks ops) i j with
      | true => exact ord_lt h hr h1 q
      | false => exact (hu j hj (by omega) q h2).2 h1
    · exact hI.alloc h hfr hj hn h2 h3
theorem V_new (h : Reg P R N rd ops σ rs) (hr : Rdy ops D i o) {n : Nat} (ht : Tch σ i n) (hu : ∀ j, j < ops.size → j ≠ i → ordB (masks ops) i j = false → n ∉ modsW (σ j).W (σ (j + 1)).W) :
    VD ops σ (fun j => D j ∨ j = i) n = (σ (i + 1)).W.get n := by
  have hi := hr.lt
  have key : ∀ j, j < ops.size → (D j ∨ j = i) ∧ Tch σ j n → j ≤ i := ?_
  · unfold VD
    rw [pick_last (p := fun j => (D j ∨ j = i) ∧ Tch σ j n) hi ⟨.inr rfl, ht⟩ key]
  intro j hj ⟨h1, h2⟩
  by_cases hji : j = i
  · omega
  have hD : D j := h1.resolve_right hji
  rcases h2 with h2 | ⟨h2, h3⟩
  · cases q : ordB (masks ops) i j with
    | true => have := ord_D h hr hj q hD; omega
    | false => exact absurd h2 (hu j hj hji q)
  · rcases ht with ht | ⟨h4, h5⟩
    · have := modsW_lt ht
      rcases Nat.lt_or_ge j i with q | q
      · omega
      · have := h.nx (i := i) (j := j) q (by omega); omega
    · exact absurd (h.born hj hi h2 h3 h4 h5) hji
theorem V_old {n : Nat} (ht : ¬ Tch σ i n) : VD ops σ (fun j => D j ∨ j = i) n = VD ops σ D n := by
  unfold VD
  rw [pick_congr (p := fun j => (D j ∨ j = i) ∧ Tch σ j n) (q := fun j => D j ∧ Tch σ j n) fun j hj => ⟨fun ⟨h1, h2⟩ => ⟨h1.resolve_right fun e => ht (e ▸ h2), h2⟩, fun ⟨h1, h2⟩ => ⟨.inl h1, h2⟩⟩]
theorem T_at (h : Reg P R N rd ops σ rs) (hr : Rdy ops D i o) {t : Tmp} (ht : t ∈ o.looksAt ops ∨ ∀ j, ¬ Wr ops j t) : TD ops σ D t = (σ i).fr.get t := by
  have hi := hr.lt
  refine pick_at (f := fun j => (σ j).fr.get t) (τ := fun j => Wr ops j t) (by omega) (fun j hj ht => h.stT hj ht) fun j hj => ⟨fun ⟨h1, h2⟩ => ⟨?_, h2⟩, fun ⟨h1, h2⟩ => ⟨?_, h2⟩⟩
  · rcases ht with ht | ht
    · obtain ⟨oj, hoj, hd⟩ := h2
      rcases Nat.lt_trichotomy j i with q | q | q
      · exact q
      · exact absurd (q ▸ h1) hr.un
      · rcases h.apart i j o oj hr.op hoj q with k | k
        · exact absurd (hr.closed j oj hoj h1 i k) hr.un
        · exact absurd ht ((Oper.apart_spec k).2.2 t hd)
    · exact absurd h2 (ht j)
  · rcases ht with ht | ht
    · obtain ⟨oj, hoj, hd⟩ := h2
      rcases h.apart j i oj o hoj hr.op h1 with k | k
      · exact hr.after j k
      · exact absurd ht ((Oper.apart_spec k).1 t hd)
    · exact absurd h2 (ht j)
theorem T_new (h : Reg P R N rd ops σ rs) (hr : Rdy ops D i o) {t : Tmp} (hd : o.dst = some t) : TD ops σ (fun j => D j ∨ j = i) t = (σ (i + 1)).fr.get t := by
  have hi := hr.lt
  have key : ∀ j, j < ops.size → (D j ∨ j = i) ∧ Wr ops j t → j ≤ i := ?_
  · unfold TD
    rw [pick_last (p := fun j => (D j ∨ j = i) ∧ Wr ops j t) hi ⟨.inr rfl, o, hr.op, hd⟩ key]
  intro j hj ⟨h1, h2⟩
  obtain ⟨oj, hoj, hdj⟩ := h2
  rcases h1 with h1 | h1
  · rcases Nat.lt_or_ge i j with q | q
    · rcases h.apart i j o oj hr.op hoj q with k | k
      · exact absurd (hr.closed j oj hoj h1 i k) hr.un
      · exact absurd hdj ((Oper.apart_spec k).2.1 t hd)
    · exact q
  · omega
theorem T_old {t : Tmp} (hr : Rdy ops D i o) (hd : o.dst ≠ some t) : TD ops σ (fun j => D j ∨ j = i) t = TD ops σ D t := by
  have key : ∀ j, j < ops.size → ((D j ∨ j = i) ∧ Wr ops j t ↔ D j ∧ Wr ops j t) := fun j hj => ⟨fun ⟨h1, h2⟩ => ⟨h1.resolve_right fun e => ?_, h2⟩, fun ⟨h1, h2⟩ => ⟨.inl h1, h2⟩⟩
  · unfold TD
    rw [pick_congr key]
  subst e
  obtain ⟨oj, hoj, hdj⟩ := h2
  rw [hr.op] at hoj
  cases hoj
  exact hd hdj
/-- the temporaries that the operation may look at, and those that none of the region writes -/
def lacks (ops : Array Oper) (o : Oper) : List Tmp := (ops.toList.filterMap (·.dst)).filter fun t => !(o.looksAt ops).contains t
theorem frame_part (hI : Inv P N ops σ ρ0 w0 D ρ a w) (h : Reg P R N rd ops σ rs) (hr : Rdy ops D i o) : FR ρ N (drop (σ i).fr (lacks ops o)) a.tmps := by
  refine ⟨hI.sz, fun t v ht => ?_⟩
  obtain ⟨h1, h2⟩ := drop_get _ _ _ _ ht
  refine hI.tm t v ?_
  rw [T_at h hr ?_]
  · exact h2
  · by_cases hl : t ∈ o.looksAt ops
    · exact .inl hl
    · refine .inr fun j ⟨oj, hoj, hd⟩ => h1 ?_
      unfold lacks
      rw [List.mem_filter, List.mem_filterMap]
      exact ⟨⟨oj, Array.mem_toList_iff.2 (Array.mem_of_getElem? hoj), hd⟩, by simpa using hl⟩
theorem lacks_keeps {f : XF} {t : Tmp} (ht : t ∈ o.looksAt ops) : (drop f (lacks ops o)).get t = f.get t :=
  drop_keeps _ _ _ fun e => by
    unfold lacks at e
    have := (List.mem_filter.1 e).2
    simp [ht] at this
theorem lacks_ev {f : XF} : ∀ x ∈ o.op.operands, ev (drop f (lacks ops o)) x = ev f x := fun x hx => by
  cases x with
  | tmp t => exact lacks_keeps (List.mem_append_left _ (List.mem_filterMap.2 ⟨.tmp t, by simpa using hx, rfl⟩))
  | _ => rfl
theorem lacks_want {f : XF} : wantX ops (drop f (lacks ops o)) o = wantX ops f o := by
  unfold wantX
  cases hg : o.guard with
  | none => rfl
  | some jw =>
    obtain ⟨j, b⟩ := jw
    simp only
    cases ht : (ops[j]?).bind (·.dst) with
    | none => rfl
    | some t =>
      simp only
      rw [lacks_keeps (List.mem_append_right _ (by simp [hg, ht]))]
theorem put_other {d : Option Tmp} {u : Value} {t : Tmp} (h : d ≠ some t) : (a.put d u).tmps.getD t undef = a.tmps.getD t undef := by
  cases d with
  | none => rfl
  | some s =>
    simp only [Act.put, Array.getD_eq_getD_getElem?]
    rw [Array.getElem?_setIfInBounds_ne fun e => h (by rw [e])]
end
end
end Go.Proofs.YthlkgmdkabelpaaGreatDoor.X
