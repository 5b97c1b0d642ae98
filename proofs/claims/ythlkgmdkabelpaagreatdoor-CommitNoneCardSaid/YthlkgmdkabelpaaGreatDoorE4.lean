/-
  Runs of the model's words at related values: types, pure computations, cells read and written. Over any program. No condition.
-/
import Derived.Test.YthlkgmdkabelpaaGreatDoorE3
namespace Go.Proofs.YthlkgmdkabelpaaGreatDoor.X
open Go Go.RowKit
set_option linter.unusedVariables false

section
variable {P : Program} {ρ : Ren} {w : World}
theorem run_prog : (program).run P w = .ok P w := rfl
theorem run_und {t : TypeId} {d : TypeDesc} (h : P.underlying t = some d) : (underlying t).run P w = .ok d w := by
  unfold underlying
  rw [Sem.run_bind, run_prog, Result.andThen_ok, h]
  rfl
theorem run_info {t : TypeId} {i : TypeInfo} (h : P.info? t = some i) : (typeInfo t).run P w = .ok i w := by
  unfold typeInfo
  rw [Sem.run_bind, run_prog, Result.andThen_ok, h]
  rfl
theorem sz_info {t : TypeId} {s : Nat} (h : sz P t = some s) : ∃ i, P.info? t = some i ∧ i.size = s := by
  unfold sz at h
  cases e : P.info? t with
  | none => rw [e] at h; cases h
  | some i => rw [e] at h; exact ⟨i, rfl, by simpa using h⟩
theorem run_sz {t : TypeId} {s : Nat} (h : sz P t = some s) : (sizeOf t).run P w = .ok s w := by
  obtain ⟨i, h1, h2⟩ := sz_info h
  unfold sizeOf
  rw [Sem.run_bind, run_info h1, Result.andThen_ok, h2]
  rfl
theorem run_agg {t : TypeId} {b : Bool} (h : aggT P t = some b) : (isAgg t).run P w = .ok b w := by
  unfold aggT at h
  cases e : P.underlying t with
  | none => rw [e] at h; cases h
  | some d =>
    rw [e] at h
    unfold isAgg
    rw [Sem.run_bind, run_und e, Result.andThen_ok]
    cases d <;> (simp at h; subst h; rfl)
theorem zero_info {t : TypeId} {z : Value} (h : zeroOf P t = some z) : ∃ i, P.info? t = some i ∧ i.zero = some z ∧ flatV z = true := by
  unfold zeroOf at h
  cases e : P.info? t with
  | none => rw [e] at h; cases h
  | some i =>
    simp only [e] at h
    cases e2 : i.zero with
    | none => simp only [e2] at h; cases h
    | some y =>
      simp only [e2] at h
      cases e3 : flatV y with
      | false => rw [e3] at h; cases h
      | true => rw [e3] at h; cases h; exact ⟨i, rfl, e2, e3⟩
theorem run_zero {t : TypeId} {z : Value} (h : zeroOf P t = some z) : (zeroValue t).run P w = .ok z w := by
  obtain ⟨i, h1, h2, _⟩ := zero_info h
  unfold zeroValue
  rw [Sem.run_bind, run_info h1, Result.andThen_ok, h2]
  rfl
theorem run_pureS {α : Type} : ∀ {S : Sem α} {x : α}, pureS P S = some x → ∀ w : World, S.run P w = .ok x w
  | .pure a, x, h, w => by simp only [pureS, Option.some.injEq] at h; subst h; rfl
  | .program k, x, h, w => by rw [Sem.run]; exact run_pureS (S := k P) h w
  | .mark _ k, x, h, w => by rw [Sem.run]; exact run_pureS (S := k) h w
  | .choose q k, x, h, w => by
    rw [pureS] at h
    cases e : q.forced with
    | false => rw [e] at h; cases h
    | true => rw [e] at h; rw [Sem.run, if_pos e]; exact run_pureS (S := k 0) h w
  | .load _ _ _, _, h, _ => by simp [pureS] at h
  | .store _ _ _ _, _, h, _ => by simp [pureS] at h
  | .new _ _, _, h, _ => by simp [pureS] at h
  | .shape _ _, _, h, _ => by simp [pureS] at h
  | .freeze _ _ _, _, h, _ => by simp [pureS] at h
  | .frozen _ _, _, h, _ => by simp [pureS] at h
  | .getObj _ _, _, h, _ => by simp [pureS] at h
  | .setObj _ _ _, _, h, _ => by simp [pureS] at h
  | .sys _ _, _, h, _ => by simp [pureS] at h
  | .halt _, _, h, _ => by simp [pureS] at h
end

/-- the operands' values -/
def Ev (ρ : Ren) (fr : XF) (e : Operand → Value) : Prop := ∀ x v, ev fr x = some v → VR ρ v (e x)
theorem FR.ev {ρ : Ren} {N : Nat} {fr : XF} {a : Act} (h : FR ρ N fr a.tmps) : Ev ρ fr a.eval := fun x v e => by
  cases x with
  | tmp t => exact h.rep t v e
  | const c =>
    simp only [X.ev] at e
    cases q : flatV c with
    | false => rw [q] at e; cases e
    | true => rw [q] at e; cases e; exact .flat 8 _ q
  | global g => cases e
  | func f => cases e; exact .flat 1 _ rfl
theorem Ev.evs {ρ : Ren} {fr : XF} {e : Operand → Value} (h : Ev ρ fr e) : ∀ {l : List Operand} {vs : List Value}, evs fr l = some vs → VRs ρ vs (l.map e)
  | [], vs, q => by cases q; exact .nil
  | x :: l, vs, q => by
    unfold X.evs at q
    cases e1 : ev fr x with
    | none => rw [e1] at q; cases q
    | some v =>
      cases e2 : X.evs fr l with
      | none => rw [e1, e2] at q; cases q
      | some r => rw [e1, e2] at q; cases q; exact .cons _ _ _ _ (h x v e1) (h.evs e2)
inductive PRs (ρ : Ren) : List (Nat × Value) → List (Nat × Value) → Prop
  | nil : PRs ρ [] []
  | cons (i : Nat) (v v' : Value) (l l' : List (Nat × Value)) (h : VR ρ v v') (hs : PRs ρ l l') : PRs ρ ((i, v) :: l) ((i, v') :: l')
theorem Ev.evP {ρ : Ren} {fr : XF} {e : Operand → Value} (h : Ev ρ fr e) : ∀ {l : List (Nat × Operand)} {vs : List (Nat × Value)}, evP fr l = some vs → PRs ρ vs (l.map fun (i, x) => (i, e x))
  | [], vs, q => by cases q; exact .nil
  | (i, x) :: l, vs, q => by
    unfold X.evP at q
    cases e1 : ev fr x with
    | none => rw [e1] at q; cases q
    | some v =>
      cases e2 : X.evP fr l with
      | none => rw [e1, e2] at q; cases q
      | some r => rw [e1, e2] at q; cases q; exact .cons _ _ _ _ _ (h x v e1) (h.evP e2)

/-- a list of cells that reads as another, from a shift on -/
def Row (ρ : Ren) (s : Nat) (c : List Value) (c' : Array Value) : Prop := ∀ (j : Nat) (v : Value), c[j]? = some v → ∃ v', c'[s + j]? = some v' ∧ VR ρ v v'
theorem Row.part {ρ : Ren} {s : Nat} {c : List Value} {c' : Array Value} (h : Row ρ s c c') (o n : Nat) (hl : ((c.drop o).take n).length = n) :
    ∃ cs : List Value, cs.length = n ∧ VRs ρ ((c.drop o).take n) cs ∧ ∀ j u, cs[j]? = some u → c'[s + o + j]? = some u := by
  have key : ∀ j, j < n → ∃ v v', ((c.drop o).take n)[j]? = some v ∧ c'[s + o + j]? = some v' ∧ VR ρ v v' := fun j hj => by
    have hj' : j < ((c.drop o).take n).length := by omega
    have e := List.getElem?_eq_getElem hj'
    have e2 : c[o + j]? = some (((c.drop o).take n)[j]) := by
      rw [← e, List.getElem?_take, if_pos hj, List.getElem?_drop]
    obtain ⟨v', h1, h2⟩ := h _ _ e2
    exact ⟨_, v', e, by rw [Nat.add_assoc]; exact h1, h2⟩
  have hget : ∀ j, j < n → (c'.toList.drop (s + o))[j]? = c'[s + o + j]? := fun j hj => by
    rw [List.getElem?_drop, Array.getElem?_toList]
  have hlen : ((c'.toList.drop (s + o)).take n).length = n := by
    rw [List.length_take]
    rcases Nat.lt_or_ge ((c'.toList.drop (s + o)).length) n with q | q
    · exfalso
      obtain ⟨v, v', _, h2, _⟩ := key _ q
      rw [← hget _ q] at h2
      rw [List.getElem?_eq_none (Nat.le_refl _)] at h2
      cases h2
    · omega
  refine ⟨(c'.toList.drop (s + o)).take n, hlen, VRs.of_get (by rw [hlen, hl]) fun j u hu => ?_, fun j u hu => ?_⟩
  · have hj : j < n := by
      have := (List.getElem?_eq_some_iff.1 hu).1
      omega
    obtain ⟨v, v', h1, h2, h3⟩ := key j hj
    rw [hu] at h1
    cases h1
    exact ⟨v', by rw [List.getElem?_take, if_pos hj, hget j hj]; exact h2, h3⟩
  · have hj : j < n := by
      have := (List.getElem?_eq_some_iff.1 hu).1
      omega
    rw [List.getElem?_take, if_pos hj, hget j hj] at hu
    exact hu
theorem cut_load {P : Program} {ρ : Ren} {w : World} {b s o : Nat} {t e : TypeId} {c : List Value} {c' : Array Value} {f : Nat × Nat} {v : Value} (hb : w.heap[b]? = some (.cells c' e f)) (hr : Row ρ s c c') (h : cut P t c o = some v) :
    ∃ u, (loadVar t ⟨b, o + s, none⟩).run P w = .ok u w ∧ VR ρ v u := by
  unfold cut at h
  cases ha : aggT P t with
  | none => rw [ha] at h; cases h
  | some q =>
    rw [ha] at h
    cases q with
    | true =>
      cases hs : sz P t with
      | none => rw [hs] at h; cases h
      | some n =>
        rw [hs] at h
        simp only at h
        cases hl : Nat.beq ((c.drop o).take n).length n with
        | false => rw [hl] at h; cases h
        | true =>
          rw [hl] at h
          cases h
          obtain ⟨cs, q1, q2, q3⟩ := hr.part o n (Nat.eq_of_beq_eq_true hl)
          refine ⟨.agg cs.toArray, ?_, .agg _ _ q2⟩
          have hll := run_loadCells_list (P := P) w ⟨b, o + s, none⟩ cs fun j u hu => by
            rw [addr_add, cell_of_heap hb, Nat.add_comm o s]
            exact q3 j u hu
          rw [q1] at hll
          unfold loadVar
          rw [Sem.run_bind, run_agg ha, Result.andThen_ok, if_pos rfl, Sem.run_bind, run_sz hs, Result.andThen_ok, Sem.run_bind, hll]
          rfl
    | false =>
      simp only at h
      obtain ⟨v', q1, q2⟩ := hr o v h
      refine ⟨v', ?_, q2⟩
      unfold loadVar
      rw [Sem.run_bind, run_agg ha, Result.andThen_ok, if_neg Bool.false_ne_true]
      have : w.cell? ⟨b, o + s, none⟩ = some v' := by rw [cell_of_heap hb, Nat.add_comm o s]; exact q1
      show (Sem.load _ _ _).run P w = _
      rw [Sem.run, this]
      rfl
theorem cut_part {P : Program} {ρ : Ren} {w : World} {o : Nat} {t : TypeId} {c cs : List Value} {v : Value} (hr : VRs ρ c cs) (h : cut P t c o = some v) : ∃ u, (part t cs.toArray o).run P w = .ok u w ∧ VR ρ v u := by
  unfold cut at h
  cases ha : aggT P t with
  | none => rw [ha] at h; cases h
  | some q =>
    rw [ha] at h
    cases q with
    | true =>
      cases hs : sz P t with
      | none => rw [hs] at h; cases h
      | some n =>
        rw [hs] at h
        simp only at h
        cases hl : Nat.beq ((c.drop o).take n).length n with
        | false => rw [hl] at h; cases h
        | true =>
          rw [hl] at h
          cases h
          refine ⟨.agg ((cs.drop o).take n).toArray, ?_, .agg _ _ ((hr.drop o).take n)⟩
          unfold part
          rw [Sem.run_bind, run_agg ha, Result.andThen_ok, if_pos rfl, Sem.run_bind, run_sz hs, Result.andThen_ok]
          have : (cs.toArray.extract o (o + n)) = ((cs.drop o).take n).toArray := by
            rw [List.extract_toArray, List.extract_eq_take_drop]
            simp
          rw [this]
          rfl
    | false =>
      simp only at h
      obtain ⟨v', q1, q2⟩ := hr.get o v h
      refine ⟨v', ?_, q2⟩
      unfold part
      rw [Sem.run_bind, run_agg ha, Result.andThen_ok, if_neg Bool.false_ne_true]
      rw [show cs.toArray[o]? = some v' by rw [List.getElem?_toArray]; exact q1]
      rfl

/-! ### cells written -/
def setL (c : Array Value) : Nat → List Value → Array Value
  | _, [] => c
  | o, v :: l => setL (c.setIfInBounds o v) (o + 1) l
theorem setL_size : ∀ (l : List Value) (o : Nat) (c : Array Value), (setL c o l).size = c.size
  | [], _, _ => rfl
  | v :: l, o, c => by rw [setL, setL_size l, Array.size_setIfInBounds]
theorem setL_out : ∀ (l : List Value) (o : Nat) (c : Array Value) (j : Nat), (j < o ∨ o + l.length ≤ j) → (setL c o l)[j]? = c[j]?
  | [], _, _, _, _ => rfl
  | v :: l, o, c, j, h => by
    rw [setL, setL_out l (o + 1) _ j (by simp at h; omega), Array.getElem?_setIfInBounds_ne (by simp at h; omega)]
theorem setL_in : ∀ (l : List Value) (o : Nat) (c : Array Value) (j : Nat), o + l.length ≤ c.size → j < l.length → (setL c o l)[o + j]? = l[j]?
  | [], _, _, _, _, h => by simp at h
  | v :: l, o, c, 0, hs, h => by
    rw [setL, setL_out l (o + 1) _ (o + 0) (by omega)]
    simp at hs
    rw [Nat.add_zero, Array.getElem?_setIfInBounds_self, if_pos (by omega)]
    rfl
  | v :: l, o, c, j + 1, hs, h => by
    have := setL_in l (o + 1) (c.setIfInBounds o v) j (by simp at hs ⊢; omega) (by simpa using h)
    rw [setL, show o + (j + 1) = o + 1 + j by omega, this]
    rfl
theorem heap_setCell_any {w : World} {b o : Nat} {c : Array Value} {e : TypeId} {f : Nat × Nat} {v : Value} (h : w.heap[b]? = some (.cells c e f)) : (w.setCell ⟨b, o, none⟩ v).heap[b]? = some (.cells (c.setIfInBounds o v) e f) := by
  have hb := lt_of_heap h
  simp only [World.setCell, Array.getElem?_modify, h]
  simp
theorem heap_setCells : ∀ (l : List Value) (w : World) (b o : Nat) (c : Array Value) (e : TypeId) (f : Nat × Nat), w.heap[b]? = some (.cells c e f) → (w.setCells b o l).heap[b]? = some (.cells (setL c o l) e f)
  | [], _, _, _, _, _, _, h => h
  | v :: l, w, b, o, c, e, f, h => by
    rw [World.setCells]
    exact heap_setCells l _ b (o + 1) _ e f (heap_setCell_any h)
theorem setCells_keep : ∀ (us : List Value) (w : World) (b off : Nat), Keeps (fun k => k = b) w (w.setCells b off us)
  | [], w, b, off => Keeps.refl _ _
  | u :: us, w, b, off => by
    rw [World.setCells]
    exact ((Keeps.refl (fun k => k = b) w).setCell (p := ⟨b, off, none⟩) (fun _ => rfl) u).trans (setCells_keep us _ b (off + 1))
theorem wr_length {c vs : List Value} {o : Nat} (h : o + vs.length ≤ c.length) : (wr c o vs).length = c.length := by
  unfold wr
  simp
  omega
theorem wr_get {c vs : List Value} {o j : Nat} {v : Value} (h : o + vs.length ≤ c.length) (hv : (wr c o vs)[j]? = some v) : (j < o ∧ c[j]? = some v) ∨ (o ≤ j ∧ j < o + vs.length ∧ vs[j - o]? = some v) ∨ (o + vs.length ≤ j ∧ c[j]? = some v) := by
  unfold wr at hv
  have ht : (c.take o).length = o := by simp; omega
  rcases Nat.lt_or_ge j o with q | q
  · left
    rw [List.getElem?_append_left (by omega), List.getElem?_take, if_pos q] at hv
    exact ⟨q, hv⟩
  · rw [List.getElem?_append_right (by omega), ht] at hv
    rcases Nat.lt_or_ge (j - o) vs.length with q2 | q2
    · rw [List.getElem?_append_left q2] at hv
      exact .inr (.inl ⟨q, by omega, hv⟩)
    · rw [List.getElem?_append_right q2, List.getElem?_drop] at hv
      rw [show o + vs.length + (j - o - vs.length) = j by omega] at hv
      exact .inr (.inr ⟨by omega, hv⟩)
theorem storeX_put {W W' : XW} {n o : Nat} {vs : List Value} (h : storeX W n o vs = some W') : ∃ c e fr, W.get n = some (.cells c e fr) ∧ o + vs.length ≤ c.length ∧ (∀ j, o ≤ j → j < o + vs.length → ¬ (fr.1 ≤ j ∧ j < fr.2)) ∧
    vs.all oneC = true ∧ W' = W.put n (some (.cells (wr c o vs) e fr)) := by
  unfold storeX at h
  cases e1 : W.get n with
  | none => rw [e1] at h; cases h
  | some ob =>
    rw [e1] at h
    cases ob with
    | cells c e fr =>
      simp only at h
      cases q : (Nat.ble (o + vs.length) c.length && !inFr fr o vs.length && vs.all oneC) with
      | false => rw [q] at h; cases h
      | true =>
        rw [q] at h
        cases h
        simp only [Bool.and_eq_true, Bool.not_eq_true'] at q
        refine ⟨c, e, fr, rfl, Nat.le_of_ble_eq_true q.1.1, fun j h1 h2 ⟨h3, h4⟩ => ?_, q.2, rfl⟩
        have := q.1.2
        unfold inFr at this
        simp only [Bool.not_eq_false', Bool.or_eq_true] at this
        rcases this with (this | this) | this
        · have := Nat.le_of_ble_eq_true this; omega
        · have := Nat.le_of_ble_eq_true this; omega
        · have := Nat.le_of_ble_eq_true this; omega
    | _ => cases h
/-- cells written, at a live name -/
theorem storeX_sim {P : Program} {ρ : Ren} {W W' : XW} {w : World} {n o : Nat} {i : RI} {vs us : List Value} (h : HR P ρ W.get w) (hr : ρ n = some i) (hs : storeX W n o vs = some W') (hv : VRs ρ vs us) :
    (storeCells ⟨i.b, o + i.s, none⟩ us).run P w = .ok () (w.setCells i.b (o + i.s) us) ∧ HR P ρ W'.get (w.setCells i.b (o + i.s) us) ∧ Step ρ W.get W.next w ρ W'.get W'.next (w.setCells i.b (o + i.s) us) := by
  obtain ⟨c, e, fr, hg, hl, hfr, h1, rfl⟩ := storeX_put hs
  obtain ⟨ob, hb, ho⟩ := h.obj n i _ hr hg
  cases ho with
  | cells _ _ _ c' fr' hz hrr hk hll hrow hf hq hm =>
    have hlen := hv.length
    have hin : ∀ j, j < us.length → o + i.s + j < c'.size := fun j hj => by omega
    refine ⟨?_, ?_⟩
    · have := run_storeCells_cells (P := P) i.b (o + i.s) us 0 w (fun j hj => by
          rw [Nat.add_zero, cell_of_heap hb, Array.getElem?_eq_getElem (hin j hj)]; rfl)
        (fun j hj => by
          rw [Nat.add_zero]
          simp only [World.frozen?, hb]
          cases q : (decide (fr'.1 ≤ o + i.s + j) && decide (o + i.s + j < fr'.2)) with
          | false => rfl
          | true =>
            simp only [Bool.and_eq_true, decide_eq_true_eq] at q
            exact absurd (hf (o + j) (by omega) (by omega) (by omega)) (hfr (o + j) (by omega) (by omega)))
        (hv.one h1)
      simpa using this
    · refine h.put hr (by rw [hg]; simp) _ (setCells_keep us w i.b (o + i.s)) (heap_setCells us w i.b (o + i.s) c' e fr' hb) ?_
      refine .cells _ _ _ _ _ (by rw [setL_size, hz]) (by rw [wr_length hl, hrr]) hk hll (fun j v hj => ?_) (fun j hj => ?_) hq hm
      · rcases wr_get hl hj with ⟨q1, q2⟩ | ⟨q1, q2, q3⟩ | ⟨q1, q2⟩
        · obtain ⟨v', r1, r2⟩ := hrow j v q2
          exact ⟨v', by rw [setL_out _ _ _ _ (by omega)]; exact r1, r2⟩
        · obtain ⟨v', r1, r2⟩ := hv.get (j - o) v q3
          refine ⟨v', ?_, r2⟩
          rw [show i.s + j = o + i.s + (j - o) by omega, setL_in us _ _ _ (by omega) (by omega)]
          exact r1
        · obtain ⟨v', r1, r2⟩ := hrow j v q2
          exact ⟨v', by rw [setL_out _ _ _ _ (by omega)]; exact r1, r2⟩
      · exact hf j hj
/-- a new row -/
theorem OR.new {P : Program} {ρ : Ren} {e : TypeId} {c : List Value} {c' : Array Value} {b k : Nat} (hk : ∀ t, P.info? e = some t → t.size = k) (hc : VRs ρ c (c'.toList.take c.length)) : OR P ρ ⟨b, 0, c'.size, k, c.length⟩ (.cells c e (0, 0)) (.cells c' e (0, 0)) := by
  have hl : c.length ≤ c'.size := by
    have := hc.length
    rw [List.length_take] at this
    have q : c'.toList.length = c'.size := Array.length_toList
    omega
  refine .cells _ _ _ _ _ rfl rfl hk (by simpa using hl) (fun j v hj => ?_) (fun j hj h1 h2 => by simp at h2) ⟨Nat.le_refl _, fun _ => Nat.zero_le _⟩ (Nat.zero_mod _)
  obtain ⟨v', h1, h2⟩ := hc.get j v hj
  refine ⟨v', ?_, h2⟩
  have hj' : j < c.length := (List.getElem?_eq_some_iff.1 hj).1
  rw [List.getElem?_take, if_pos hj', Array.getElem?_toList] at h1
  simpa using h1
end Go.Proofs.YthlkgmdkabelpaaGreatDoor.X
