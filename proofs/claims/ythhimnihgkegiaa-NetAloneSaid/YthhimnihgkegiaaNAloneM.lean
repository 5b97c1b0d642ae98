/-
  What NetAlone needs of the plain model: a copy put into its place, and a filter; the two nets after their messages. No program in sight; no condition.
-/
import Derived.Test.YthhimnihgkegiaaNScript
namespace Go.Proofs.Ythhimnihgkegiaa
open Go Go.RowKit
set_option linter.unusedVariables false

theorem insP_first (p : Pc) : ∀ l : List Pc, (∀ y ∈ l, ltB p y = true) → insP p l = p :: l
  | [], _ => rfl
  | x :: l, h => by simp only [insP, h x (by simp), if_true]
theorem filter_insP (f : Pc → Bool) (p : Pc) : ∀ l : List Pc, Srt l → (insP p l).filter f = if f p then insP p (l.filter f) else l.filter f
  | [], _ => by
    simp only [insP, List.filter_nil, List.filter_cons]
  | x :: l, h => by
    unfold Srt at h
    rw [List.pairwise_cons] at h
    obtain ⟨h1, h2⟩ := h
    have ih := filter_insP f p l h2
    cases hpx : ltB p x with
    | true =>
      have hall : ∀ y ∈ (x :: l).filter f, ltB p y = true := fun y hy => by
        rcases List.mem_cons.1 (List.mem_filter.1 hy).1 with rfl | hy
        · exact hpx
        · exact lt_trans' hpx (h1 y hy)
      rw [insP, if_pos hpx, insP_first p _ hall]
      simp only [List.filter_cons]
    | false =>
      rw [insP, if_neg (by rw [hpx]; simp), List.filter_cons, List.filter_cons, ih]
      cases hx : f x with
      | false => simp
      | true =>
        cases hp : f p with
        | false => simp
        | true =>
          simp only [if_true]
          conv => rhs; rw [insP, if_neg (by rw [hpx]; simp)]
def isX (p : Pc) : Bool := decide (p.to_ = 0)
theorem filter_addC (fr : Int) (tx : List UInt8) (a : Int) (sn : Nat) (l : List Pc) (h : Srt l) (hs : ∀ p ∈ l, p.sn < sn) : ∀ k, (addC fr 0 tx a sn k l).filter isX = addC fr 0 tx a sn k (l.filter isX)
  | 0 => rfl
  | k + 1 => by
    rw [addC, filter_insP _ _ _ (addC_srt fr 0 tx a sn l h hs k), if_pos (by simp [isX, cop]), filter_addC fr tx a sn l h hs k]; rfl

/-- the two nets before the message -/
structure AlBefore (sc : List Tr) (k : Nat) (s t : NS) : Prop where
  other : ∀ p ∈ s.w, p.to_ = 1
  script : s.script = sc
  nodes : s.nodes = 2
  sent : s.sent = k
  fine : s.Fine k
  t : t = ⟨2, sc, [], k⟩
theorem AlBefore.step {sc : List Tr} {k : Nat} {s t : NS} (h : AlBefore sc k s t) (now : Int) (tx : List UInt8) : AlBefore sc (k + 1) (s.send now k 1 tx) (t.send 0 0 5 []) where
  other := by
    intro p hp
    unfold NS.send at hp
    simp only at hp
    split at hp
    · exact h.other p hp
    · rcases List.mem_append.1 ((addC_perm _ _ _ _ _ _ _).mem_iff.1 hp) with hp | hp
      · exact h.other p hp
      · obtain ⟨j, _, rfl⟩ := List.mem_map.1 hp; rfl
  script := h.script
  nodes := h.nodes
  sent := by show s.sent + 1 = k + 1; rw [h.sent]
  fine := h.fine.send _ _ _ _
  t := by
    have hd : t.drops 5 = true := by rw [h.t]; simp [NS.drops]
    unfold NS.send
    rw [if_pos hd, h.t]
/-- the two nets behind the message -/
structure AlAfter (n : Nat) (x : List UInt8) (s t : NS) : Prop where
  filt : s.w.filter isX = t.w
  all : ∀ p ∈ t.w, p.fr = 7 ∧ p.to_ = 0 ∧ p.tx = x
  fs : s.Fine 31
  ft : t.Fine 31
  len : s.w.length ≤ n
theorem AlBefore.tr {sc : List Tr} {k : Nat} {s t : NS} (h : AlBefore sc k s t) : s.tr = t.tr := by
  rw [h.t]; unfold NS.tr; rw [h.script, h.sent]
theorem AlBefore.drops {sc : List Tr} {k : Nat} {s t : NS} (h : AlBefore sc k s t) (x : Int) : s.drops x = t.drops x := by
  unfold NS.drops; rw [h.tr, h.nodes, h.t]
theorem AlBefore.after {sc : List Tr} {k : Nat} {s t : NS} (h : AlBefore sc k s t) (hok : s.Ok) (hk : k ≤ 30) (hsc : sc.length ≤ 1048576) (hd : ∀ t ∈ sc, t.delay ≤ 1000000000) (now : Int) (x : List UInt8) : AlAfter 300 x (s.send now 7 0 x) (t.send now 7 0 x) := by
  have hfilt : s.w.filter isX = [] := by
    rw [List.filter_eq_nil_iff]
    intro p hp
    have := h.other p hp
    simp [isX, this]
  have htf : t.Fine k := by rw [h.t]; exact ⟨by simp, Nat.le_refl _, hsc, hd⟩
  have hf1 := (h.fine.send now 7 0 x).mono (show k + 1 ≤ 31 by omega)
  refine ⟨?_, ?_, hf1, (htf.send now 7 0 x).mono (by omega), by have := hf1.len; omega⟩
  · unfold NS.send
    simp only
    rw [← h.drops, ← h.tr]
    have ht1 : t.w = [] := by rw [h.t]
    have ht2 : t.sent = s.sent := by rw [h.t, h.sent]
    split
    · rw [hfilt, ht1]
    · rw [filter_addC _ _ _ _ _ hok.srt hok.sn, hfilt, ht1, ht2]
  · intro p hp
    have ht1 : t.w = [] := by rw [h.t]
    unfold NS.send at hp
    simp only at hp
    split at hp
    · rw [ht1] at hp; cases hp
    · rcases List.mem_append.1 ((addC_perm _ _ _ _ _ _ _).mem_iff.1 hp) with hp | hp
      · rw [ht1] at hp; cases hp
      · obtain ⟨j, _, rfl⟩ := List.mem_map.1 hp; exact ⟨rfl, rfl, rfl⟩
theorem AlAfter.empty {n : Nat} {x : List UInt8} {s t : NS} (h : AlAfter n x s t) (h0 : s.w = []) : t.w = [] := by
  rw [← h.filt, h0]; rfl
theorem AlAfter.skip {n : Nat} {x : List UInt8} {s t : NS} (h : AlAfter (n + 1) x s t) (p : Pc) (l : List Pc) (hw : s.w = p :: l) (hp : p.to_ ≠ 0) : AlAfter n x s.next t := by
  have e : s.next.w = l := by unfold NS.next; rw [hw]; rfl
  refine ⟨?_, h.all, h.fs.next, h.ft, ?_⟩
  · rw [e, ← h.filt, hw, List.filter_cons, if_neg (by simp [isX, hp])]
  · have := h.len; rw [hw] at this; rw [e]; simpa using this
theorem AlAfter.take {n : Nat} {x : List UInt8} {s t : NS} (h : AlAfter (n + 1) x s t) (p : Pc) (l : List Pc) (hw : s.w = p :: l) (hp : p.to_ = 0) :
    AlAfter n x s.next t.next ∧ p.fr = 7 ∧ p.tx = x ∧ ∃ l2, t.w = p :: l2 := by
  have e : s.next.w = l := by unfold NS.next; rw [hw]; rfl
  have ht : t.w = p :: l.filter isX := by rw [← h.filt, hw, List.filter_cons, if_pos (by simp [isX, hp])]
  have e2 : t.next.w = l.filter isX := by unfold NS.next; rw [ht]; rfl
  have hm := h.all p (by rw [ht]; simp)
  refine ⟨⟨by rw [e, e2], fun q hq => h.all q (by rw [ht]; rw [e2] at hq; simp [hq]), h.fs.next, h.ft.next, ?_⟩, hm.1, hm.2.2, _, ht⟩
  have := h.len; rw [hw] at this; rw [e]; simpa using this
#print axioms AlBefore.after
end Go.Proofs.Ythhimnihgkegiaa
