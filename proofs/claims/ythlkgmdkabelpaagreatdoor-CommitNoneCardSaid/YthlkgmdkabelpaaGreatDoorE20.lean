/-
  A drawn region: what a trace and its checks tell; how things stand when some of the operations are done. Over any program. No condition.
-/
import Derived.Test.YthlkgmdkabelpaaGreatDoorE19
namespace Go.Proofs.YthlkgmdkabelpaaGreatDoor.X
open Go Go.RowKit
set_option linter.unusedVariables false

def modsW (W W' : XW) : List Nat := (W'.log.take (W'.nlog - W.nlog)).filter fun n => Nat.blt n W.next
theorem Ext.mods {W W' : XW} (h : Ext W W') : ∃ l, W'.log = l ++ W.log ∧ W'.nlog = W.nlog + l.length ∧ W'.log.take (W'.nlog - W.nlog) = l := by
  obtain ⟨l, h1, h2, _⟩ := h.log
  exact ⟨l, h1, h2, by rw [h1, h2, Nat.add_sub_cancel_left, List.take_left]⟩
theorem Ext.same {W W' : XW} (h : Ext W W') {n : Nat} (hn : n ∉ modsW W W') (hr : ¬ (W.next ≤ n ∧ n < W'.next)) : W'.get n = W.get n := by
  obtain ⟨l, h1, h2, h3⟩ := h.log
  obtain ⟨l', k1, k2, k3⟩ := h.mods
  have e : l' = l := List.append_cancel_right (k1.symm.trans h1)
  subst e
  rcases Nat.lt_or_ge n W.next with q | q
  · refine h3 n (fun e => hn ?_) q
    unfold modsW
    rw [k3, List.mem_filter]
    exact ⟨e, blt_t q⟩
  · rw [XW.get_ge q, XW.get_ge (by have := h.next; omega)]
theorem modsW_lt {W W' : XW} {n : Nat} (h : n ∈ modsW W W') : n < W.next := blt_iff.1 (List.mem_filter.1 h).2

section
variable {P : Program} {R : XK} {N : Nat} {rd : Option Nat} {ops : Array Oper}
theorem op1_put {s s' : XS} {o : Oper} (h : op1 P R N rd ops s o = some (.on s')) : ∃ v, putX N s.fr o.dst v = some s'.fr ∧ (s'.ds.length = s.ds.length → s'.ds = s.ds) := by
  have key : ∀ {W : XW} {ds : List XDef} {v : Option Value}, (ds = s.ds ∨ ds.length = s.ds.length + 1) → onK W ds (putX N s.fr o.dst v) = some (.on s') → ∃ v, putX N s.fr o.dst v = some s'.fr ∧ (s'.ds.length = s.ds.length → s'.ds = s.ds) := by
    intro W ds v hd hq
    obtain ⟨h1, rfl, rfl⟩ := onK_on hq
    refine ⟨v, h1, fun e => ?_⟩
    rcases hd with hd | hd
    · exact hd
    · omega
  unfold op1 wantK at h
  split at h
  · unfold opK at h
    split at h
    · exact key (.inl rfl) h
    · exact key (.inl rfl) h
    · exact key (.inl rfl) h
    · cases h
    · unfold dfK at h
      split at h
      · exact key (.inr rfl) h
      · cases h
    · unfold callK at h
      split at h
      · exact key (.inl rfl) h
      · cases h
      · cases h
    · rename_i lp args
      unfold rdK at h
      split at h
      · unfold rdK1 at h
        split at h
        · unfold rdK2 at h
          split at h
          · unfold rdK3 at h
            split at h
            · unfold rdK4 at h
              split at h
              · unfold rdK5 at h
                split at h
                · exact key (.inl rfl) h
                · cases h
              · cases h
            · cases h
          · cases h
        · cases h
      · cases h
    · cases h
  · exact key (.inl rfl) h
  · cases h
theorem putX_ne {fr fr' : XF} {d : Option Tmp} {v : Option Value} {t : Tmp} (h : putX N fr d v = some fr') (ht : d ≠ some t) : fr'.get t = fr.get t := by
  unfold putX at h
  split at h
  · cases h; rfl
  · rename_i u
    cases hb : Nat.blt u N <;> rw [hb] at h <;> cases h
    exact PT.get_set_ne _ _ _ _ fun e => ht (by rw [e])
theorem putX_at {fr fr' : XF} {t : Tmp} {v : Option Value} (h : putX N fr (some t) v = some fr') : fr'.get t = if fr.room t = true then v else none := by
  simp only [putX] at h
  cases hb : Nat.blt t N <;> rw [hb] at h <;> cases h
  exact PT.get_set_room _ _ _
theorem putX_other {fr fr' f : XF} {d : Option Tmp} {v : Option Value} (h : putX N fr d v = some fr') : ∃ f', putX N f d v = some f' := by
  unfold putX at h ⊢
  split at h
  · exact ⟨_, rfl⟩
  · rename_i u
    cases hb : Nat.blt u N <;> rw [hb] at h <;> cases h
    exact ⟨_, rfl⟩
theorem traceX_spec : ∀ (l : List Oper) (s : XS) (rs : List XRec) (s' : XS), traceX P R N rd ops l s = some (rs, s') → ∃ σ : Nat → XS, σ 0 = s ∧ σ l.length = s' ∧ rs.length = l.length ∧
    ∀ i o, l[i]? = some o → op1 P R N rd ops (σ i) o = some (.on (σ (i + 1))) ∧ rs[i]? = some ⟨o, σ i, σ (i + 1)⟩
  | [], s, rs, s', h => by cases h; exact ⟨fun _ => s, rfl, rfl, rfl, fun i o h => by simp at h⟩
  | x :: l, s, rs, s', h => by
    unfold traceX trc1 at h
    split at h
    · rename_i s1 hq
      unfold trcK at h
      split at h
      · rename_i l1 t hq2
        cases h
        obtain ⟨σ, h1, h2, h3, h4⟩ := traceX_spec l s1 l1 _ hq2
        refine ⟨fun i => match i with | 0 => s | i + 1 => σ i, rfl, h2, by simp [h3], fun i o ho => ?_⟩
        cases i with
        | zero =>
          simp at ho
          subst ho
          simp only [h1]
          exact ⟨hq, rfl⟩
        | succ i => simpa using h4 i o (by simpa using ho)
      · cases h
    · cases h
theorem edges_of {o : Oper} {e : Nat} : e ∈ edgesOf o ↔ ∃ x ∈ o.after, Region.binds .any x = true ∧ x.on = e := by
  unfold edgesOf
  simp only [List.mem_map, List.mem_filter, Array.mem_toList_iff]
  exact ⟨fun ⟨x, ⟨h1, h2⟩, h3⟩ => ⟨x, h1, h2, h3⟩, fun ⟨x, h1, h2, h3⟩ => ⟨x, ⟨h1, h2⟩, h3⟩⟩
theorem lexFrom_spec : ∀ (fuel k : Nat) (listed : Array Bool), listed.size = ops.size → (∀ j, j < ops.size → listed[j]? = some (decide (j < k))) → fuel + k = ops.size → Region.lexFrom .any ops fuel k listed = true →
    ∀ i o, k ≤ i → ops[i]? = some o → (∀ e ∈ edgesOf o, e < i) ∧ ∀ j oj, ops[j]? = some oj → i < j → i ∈ edgesOf oj ∨ o.apart ops oj = true
  | 0, k, listed, hs, hl, hf, h, i, o, hi, ho => by
    have := (Array.getElem?_eq_some_iff.1 ho).1
    omega
  | fuel + 1, k, listed, hs, hl, hf, h, i, o, hi, ho => by
    unfold Region.lexFrom at h
    simp only [Bool.and_eq_true] at h
    obtain ⟨⟨h1, h2⟩, h3⟩ := h
    by_cases hik : i = k
    · subst hik
      obtain ⟨hr0, o', ho', hr⟩ := mem_ready.1 (by simpa using h1)
      rw [ho] at ho'
      cases ho'
      refine ⟨fun e he => ?_, fun j oj hj hij => ?_⟩
      · obtain ⟨x, q1, q2, rfl⟩ := edges_of.1 he
        have := hr x q1 q2
        rw [Array.getD_eq_getD_getElem?] at this
        rcases Nat.lt_or_ge x.on ops.size with q | q
        · rw [hl _ q] at this
          simpa using this
        · rw [Array.getElem?_eq_none (by omega)] at this
          simp at this
      · by_cases hm : i ∈ edgesOf oj
        · exact .inl hm
        · refine .inr (Region.free_spec ho h2 j oj hj (by omega) ?_ fun e he hb heq => hm (edges_of.2 ⟨e, he, hb, heq⟩))
          have hjs := (Array.getElem?_eq_some_iff.1 hj).1
          rw [Array.getD_eq_getD_getElem?, hl _ hjs]
          simp
          omega
    · refine lexFrom_spec fuel (k + 1) _ (by simpa using hs) (fun j hj => ?_) (by omega) h3 i o (by omega) ho
      by_cases hjk : k = j
      · subst hjk
        rw [Array.getElem?_setIfInBounds_self_of_lt (by omega)]
        simp
      · rw [Array.getElem?_setIfInBounds_ne hjk, hl j hj]
        congr 1
        rw [decide_eq_decide]
        omega
end

/-- what a trace and its checks tell -/
structure Reg (P : Program) (R : XK) (N : Nat) (rd : Option Nat) (ops : Array Oper) (σ : Nat → XS) (rs : List XRec) : Prop where
  step : ∀ i o, ops[i]? = some o → op1 P R N rd ops (σ i) o = some (.on (σ (i + 1))) ∧ rs[i]? = some ⟨o, σ i, σ (i + 1)⟩
  ext : ∀ i, i < ops.size → Ext (σ i).W (σ (i + 1)).W
  lex : ∀ i o, ops[i]? = some o → ∀ e ∈ edgesOf o, e < i
  apart : ∀ i j oi oj, ops[i]? = some oi → ops[j]? = some oj → i < j → i ∈ edgesOf oj ∨ oi.apart ops oj = true
  cond : ∀ i o, ops[i]? = some o → wantX ops (σ i).fr o = some true → hides (masks ops) i rs 0 = [] ∨ calmK P ⟨o, σ i, σ (i + 1)⟩ i (hides (masks ops) i rs 0) (umods (masks ops) i rs 0) (some true) = true
  ds : ∀ i, i ≤ ops.size → (σ i).ds = (σ 0).ds
  len : rs.length = ops.size
section
variable {P : Program} {R : XK} {N : Nat} {rd : Option Nat} {ops : Array Oper} {rs : List XRec}
theorem okFrom_spec {ms : List Nat} : ∀ (l : List XRec) (i0 d : Nat) (r : XRec), okFrom P ops ms rs l i0 = true → l[d]? = some r → calmK P r (i0 + d) (hides ms (i0 + d) rs 0) (umods ms (i0 + d) rs 0) (wantX ops r.s.fr r.o) = true
  | [], i0, d, r, h, hr => by simp at hr
  | x :: l, i0, 0, r, h, hr => by
    simp at hr
    subst hr
    unfold okFrom at h
    simp only [Bool.and_eq_true] at h
    exact h.1
  | x :: l, i0, d + 1, r, h, hr => by
    unfold okFrom at h
    simp only [Bool.and_eq_true] at h
    have := okFrom_spec l (i0 + 1) d r h.2 (by simpa using hr)
    rwa [show i0 + 1 + d = i0 + (d + 1) by omega] at this
theorem quiet_hides {ms : List Nat} {i : Nat} : ∀ {l : List XRec} {j : Nat}, quietL l = true → hides ms i l j = []
  | [], j, h => rfl
  | x :: l, j, h => by
    unfold quietL at h
    simp only [List.all_cons, Bool.and_eq_true] at h
    unfold hides
    have e : modsOf x = [] := by simpa using h.1
    have ih := quiet_hides (ms := ms) (i := i) (l := l) (j := j + 1) h.2
    cases (Nat.beq i j || ordB ms i j) <;> simp [ih, e]
theorem defers_spec : ∀ (l : List XRec) (n d : Nat) (r : XRec), defersStay l n = true → l[d]? = some r → r.s'.ds.length = n
  | [], n, d, r, h, hr => by simp at hr
  | x :: l, n, 0, r, h, hr => by
    simp at hr
    subst hr
    unfold defersStay at h
    simp only [Bool.and_eq_true] at h
    exact Nat.eq_of_beq_eq_true h.1
  | x :: l, n, d + 1, r, h, hr => by
    unfold defersStay at h
    simp only [Bool.and_eq_true] at h
    exact defers_spec l n d r h.2 (by simpa using hr)
theorem reg_of (hR : RExt R) {s s' : XS} (h : traceX P R N rd ops ops.toList s = some (rs, s')) (hk : okD P ops s.ds.length rs = true) : ∃ σ, σ 0 = s ∧ σ ops.size = s' ∧ Reg P R N rd ops σ rs := by
  obtain ⟨σ, h1, h2, h3, h4⟩ := traceX_spec _ _ _ _ h
  have h4 : ∀ i o, ops[i]? = some o → op1 P R N rd ops (σ i) o = some (.on (σ (i + 1))) ∧ rs[i]? = some ⟨o, σ i, σ (i + 1)⟩ := fun i o ho => h4 i o (by simpa using ho)
  unfold okD at hk
  simp only [Bool.and_eq_true, Bool.or_eq_true] at hk
  obtain ⟨⟨k1, k2⟩, k3⟩ := hk
  unfold Region.lexB at k1
  simp only [Bool.and_eq_true] at k1
  have lx := lexFrom_spec ops.size 0 _ (by simp) (fun j hj => by simp [hj]) (by omega) k1.2
  refine ⟨σ, h1, by simpa using h2, ⟨h4, fun i hi => ?_, fun i o ho => (lx i o (Nat.zero_le _) ho).1, fun i j oi oj hi hj hij => (lx i oi (Nat.zero_le _) hi).2 j oj hj hij, fun i o ho hw => ?_, fun i hi => ?_, by simpa using h3⟩⟩
  · exact op1_ext hR (h4 i _ (Array.getElem?_eq_getElem hi)).1
  · rcases k3 with k3 | k3
    · exact .inl (quiet_hides k3)
    · right
      have := okFrom_spec rs 0 i _ k3 (h4 i o ho).2
      simp only [Nat.zero_add, hw] at this
      exact this
  · induction i with
    | zero => rfl
    | succ i ih =>
      have ih := ih (by omega)
      obtain ⟨g1, g2⟩ := h4 i _ (Array.getElem?_eq_getElem (show i < ops.size by omega))
      obtain ⟨v, _, g3⟩ := op1_put g1
      have g4 := defers_spec _ _ _ _ k2 g2
      rw [g3 (by rw [ih, h1]; exact g4), ih]
end
end Go.Proofs.YthlkgmdkabelpaaGreatDoor.X
