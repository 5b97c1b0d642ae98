/-
  The plain model of a net: a heap of copies, a list of copies ordered by their times and numbers, and what a net does with them. No program in sight; no condition.
-/
import Derived.Test.YthhimnihgkegiaaW
namespace Go.Proofs.Ythhimnihgkegiaa
open Go Go.RowKit
set_option linter.unusedVariables false

/-- a copy that waits -/
structure Pc where
  fr : Int
  to_ : Int
  tx : List UInt8
  at_ : Int
  sn : Nat

def ltB (a b : Pc) : Bool := if a.at_ = b.at_ then decide (a.sn < b.sn) else decide (a.at_ < b.at_)
theorem ltB_iff (a b : Pc) : ltB a b = true ↔ a.at_ < b.at_ ∨ (a.at_ = b.at_ ∧ a.sn < b.sn) := by
  unfold ltB; split <;> simp <;> omega
theorem ltB_not (a b : Pc) : ltB a b = false ↔ b.at_ < a.at_ ∨ (a.at_ = b.at_ ∧ b.sn ≤ a.sn) := by
  unfold ltB; split <;> simp <;> omega
theorem le_trans' {a b c : Pc} (h : ltB b a = false) (k : ltB c b = false) : ltB c a = false := by
  rw [ltB_not] at *; omega
theorem le_of_lt' {a b : Pc} (h : ltB a b = true) : ltB b a = false := by
  rw [ltB_iff] at h; rw [ltB_not]; omega
theorem le_refl' (a : Pc) : ltB a a = false := by rw [ltB_not]; omega

/-- the copy at c is not less than the one at p -/
def geA (H : List Pc) (c p : Nat) : Prop := ∀ a b, H[c]? = some a → H[p]? = some b → ltB a b = false
theorem geA_trans {H : List Pc} {a b c : Nat} (h : geA H a b) (k : geA H b c) (hb : b < H.length) : geA H a c := by
  intro x z hx hz
  have hy : H[b]? = some H[b] := List.getElem?_eq_getElem hb
  exact le_trans' (k _ _ hy hz) (h _ _ hx hy)
def sw (i j c : Nat) : Nat := if c = i then j else if c = j then i else c
def swapL (H : List Pc) (i j : Nat) : List Pc := match H[i]?, H[j]? with
  | some a, some b => (H.set i b).set j a
  | _, _ => H
theorem swapL_eq (H : List Pc) (i j : Nat) (hi : i < H.length) (hj : j < H.length) : swapL H i j = (H.set i H[j]).set j H[i] := by
  simp [swapL, List.getElem?_eq_getElem hi, List.getElem?_eq_getElem hj]
theorem length_swapL (H : List Pc) (i j : Nat) : (swapL H i j).length = H.length := by
  unfold swapL; split <;> simp
theorem swapL_perm (H : List Pc) (i j : Nat) : (swapL H i j).Perm H := by
  by_cases hi : i < H.length
  · by_cases hj : j < H.length
    · rw [swapL_eq H i j hi hj]; exact List.set_set_perm hi hj
    · have : H[j]? = none := by simp; omega
      simp [swapL, this, List.getElem?_eq_getElem hi]
  · have : H[i]? = none := by simp; omega
    simp [swapL, this]
theorem get_swapL (H : List Pc) (i j c : Nat) (hi : i < H.length) (hj : j < H.length) : (swapL H i j)[c]? = H[sw i j c]? := by
  rw [swapL_eq H i j hi hj, List.getElem?_set, List.getElem?_set]
  unfold sw
  by_cases h1 : c = i
  · subst h1
    by_cases h2 : c = j
    · subst h2; simp [hj]
    · rw [if_neg (fun e => h2 e.symm), if_pos rfl, if_pos hi, if_pos rfl]; simp [hj]
  · by_cases h2 : c = j
    · subst h2
      rw [if_pos rfl, if_pos (by simpa using hj), if_neg h1, if_pos rfl]; simp [hi]
    · rw [if_neg (fun e => h2 e.symm), if_neg (fun e => h1 e.symm), if_neg h1, if_neg h2]
theorem geA_swap {H : List Pc} {i j : Nat} (hi : i < H.length) (hj : j < H.length) (c p : Nat) (h : geA H (sw i j c) (sw i j p)) : geA (swapL H i j) c p := by
  intro a b ha hb
  rw [get_swapL H i j _ hi hj] at ha hb
  exact h a b ha hb
theorem geA_swap' {H : List Pc} {i j : Nat} (hi : i < H.length) (hj : j < H.length) (c p c' p' : Nat) (hc : sw i j c = c') (hp : sw i j p = p') (h : geA H c' p') : geA (swapL H i j) c p := by
  subst hc; subst hp; exact geA_swap hi hj c p h

/-- the first n copies are a heap -/
def HeapTo (n : Nat) (H : List Pc) : Prop := ∀ c, 0 < c → c < n → geA H c ((c - 1) / 2)

def UpInv (H : List Pc) (k : Nat) : Prop :=
  (∀ c, 0 < c → c < H.length → c ≠ k → geA H c ((c - 1) / 2)) ∧ (∀ c, 0 < c → c < H.length → (c - 1) / 2 = k → 0 < k → geA H c ((k - 1) / 2))
theorem UpInv.start {H : List Pc} (p : Pc) (h : HeapTo H.length H) : UpInv (H ++ [p]) H.length := by
  refine ⟨fun c h0 hc hne => ?_, fun c h0 hc hp _ => ?_⟩
  · have hc : c < H.length := by simp at hc; omega
    intro a b ha hb
    rw [List.getElem?_append_left hc] at ha
    rw [List.getElem?_append_left (by omega)] at hb
    exact h c h0 hc a b ha hb
  · simp at hc; omega
theorem UpInv.done0 {H : List Pc} (h : UpInv H 0) : HeapTo H.length H := fun c h0 hc => h.1 c h0 hc (by omega)
theorem UpInv.done {H : List Pc} {k : Nat} (h : UpInv H k) (hk : 0 < k) (hg : geA H k ((k - 1) / 2)) : HeapTo H.length H := fun c h0 hc => by
  by_cases e : c = k
  · subst e; exact hg
  · exact h.1 c h0 hc e
theorem UpInv.step {H : List Pc} {k : Nat} (h : UpInv H k) (hk : 0 < k) (hl : k < H.length) (a b : Pc) (ha : H[k]? = some a) (hb : H[(k - 1) / 2]? = some b) (hlt : ltB a b = true) : UpInv (swapL H ((k - 1) / 2) k) ((k - 1) / 2) := by
  obtain ⟨i, hi⟩ : ∃ i, i = (k - 1) / 2 := ⟨_, rfl⟩
  rw [← hi] at hb ⊢
  have hik : i < k := by omega
  have hil : i < H.length := by omega
  obtain ⟨h1, h2⟩ := h
  have hge : geA H i k := fun x y hx hy => by
    rw [hb] at hx; rw [ha] at hy
    simp only [Option.some.injEq] at hx hy
    subst hx; subst hy
    exact le_of_lt' hlt
  refine ⟨fun c h0 hc hne => ?_, fun c h0 hc hp hi0 => ?_⟩
  · rw [length_swapL] at hc
    by_cases e1 : c = k
    · subst e1
      refine geA_swap' hil hl _ _ i c ?_ ?_ hge
      · unfold sw; rw [if_neg (by omega), if_pos rfl]
      · unfold sw; rw [if_pos hi.symm]
    · by_cases e2 : (c - 1) / 2 = k
      · refine geA_swap' hil hl _ _ c i ?_ ?_ ?_
        · unfold sw; rw [if_neg (by omega), if_neg e1]
        · unfold sw; rw [if_neg (by omega), if_pos e2]
        · have := h2 c h0 hc e2 hk; rw [← hi] at this; exact this
      · by_cases e3 : (c - 1) / 2 = i
        · refine geA_swap' hil hl _ _ c k ?_ ?_ ?_
          · unfold sw; rw [if_neg hne, if_neg e1]
          · unfold sw; rw [if_pos e3]
          · have := h1 c h0 hc e1; rw [e3] at this; exact geA_trans this hge hil
        · refine geA_swap' hil hl _ _ c _ ?_ ?_ (h1 c h0 hc e1)
          · unfold sw; rw [if_neg hne, if_neg e1]
          · unfold sw; rw [if_neg e3, if_neg e2]
  · rw [length_swapL] at hc
    have hpi : sw i k ((i - 1) / 2) = (i - 1) / 2 := by unfold sw; rw [if_neg (by omega), if_neg (by omega)]
    have hgi : geA H i ((i - 1) / 2) := h1 i hi0 hil (by omega)
    by_cases e1 : c = k
    · subst e1
      refine geA_swap' hil hl _ _ i _ ?_ hpi hgi
      unfold sw; rw [if_neg (by omega), if_pos rfl]
    · refine geA_swap' hil hl _ _ c _ ?_ hpi ?_
      · unfold sw; rw [if_neg (by omega), if_neg e1]
      · have := h1 c h0 hc e1; rw [hp] at this; exact geA_trans this hgi hil

/-- the heap's head is least -/
theorem HeapTo.least {n : Nat} {H : List Pc} (h : HeapTo n H) (hn : n ≤ H.length) : ∀ c, c < n → geA H c 0 := by
  intro c
  induction c using Nat.strongRecOn with
  | _ c ih =>
    intro hc
    by_cases h0 : c = 0
    · subst h0
      intro a b ha hb
      rw [ha] at hb; simp only [Option.some.injEq] at hb; subst hb; exact le_refl' _
    · exact geA_trans (h c (by omega) hc) (ih ((c - 1) / 2) (by omega) (by omega)) (by omega)

def DownInv (n : Nat) (H : List Pc) (k : Nat) : Prop :=
  (∀ c, 0 < c → c < n → (c - 1) / 2 ≠ k → geA H c ((c - 1) / 2)) ∧ (∀ c, 0 < c → c < n → (c - 1) / 2 = k → 0 < k → geA H c ((k - 1) / 2))
theorem DownInv.leaf {n : Nat} {H : List Pc} {k : Nat} (h : DownInv n H k) (hk : n ≤ 2 * k + 1) : HeapTo n H := fun c h0 hc => h.1 c h0 hc (by omega)
theorem DownInv.done {n : Nat} {H : List Pc} {k j : Nat} (h : DownInv n H k) (hj : j < n) (hn : n ≤ H.length) (hm : ∀ c, 0 < c → c < n → (c - 1) / 2 = k → geA H c j) (hg : geA H j k) : HeapTo n H := fun c h0 hc => by
  by_cases e : (c - 1) / 2 = k
  · rw [e]; exact geA_trans (hm c h0 hc e) hg (by omega)
  · exact h.1 c h0 hc e
theorem DownInv.step {n : Nat} {H : List Pc} {k j : Nat} (h : DownInv n H k) (hn : n ≤ H.length) (hj : j < n) (h0j : 0 < j) (hpj : (j - 1) / 2 = k)
    (hm : ∀ c, 0 < c → c < n → (c - 1) / 2 = k → geA H c j) (a b : Pc) (ha : H[j]? = some a) (hb : H[k]? = some b) (hlt : ltB a b = true) : DownInv n (swapL H k j) j := by
  have hkj : k < j := by omega
  have hkl : k < H.length := by omega
  have hjl : j < H.length := by omega
  obtain ⟨h1, h2⟩ := h
  have hge : geA H k j := fun x y hx hy => by
    rw [hb] at hx; rw [ha] at hy
    simp only [Option.some.injEq] at hx hy
    subst hx; subst hy
    exact le_of_lt' hlt
  refine ⟨fun c h0 hc hne => ?_, fun c h0 hc hp hj0 => ?_⟩
  · by_cases e1 : c = k
    · subst e1
      refine geA_swap' hkl hjl _ _ j _ ?_ ?_ (h2 j h0j hj hpj h0)
      · unfold sw; rw [if_pos rfl]
      · unfold sw; rw [if_neg (by omega), if_neg (by omega)]
    · by_cases e2 : (c - 1) / 2 = k
      · by_cases e3 : c = j
        · subst e3
          refine geA_swap' hkl hjl _ _ k c ?_ ?_ hge
          · unfold sw; rw [if_neg e1, if_pos rfl]
          · unfold sw; rw [if_pos e2]
        · refine geA_swap' hkl hjl _ _ c j ?_ ?_ (hm c h0 hc e2)
          · unfold sw; rw [if_neg e1, if_neg e3]
          · unfold sw; rw [if_pos e2]
      · have e3 : c ≠ j := fun e => e2 (by rw [e]; exact hpj)
        refine geA_swap' hkl hjl _ _ c _ ?_ ?_ (h1 c h0 hc e2)
        · unfold sw; rw [if_neg e1, if_neg e3]
        · unfold sw; rw [if_neg e2, if_neg hne]
  · refine geA_swap' hkl hjl _ _ c j ?_ ?_ ?_
    · unfold sw; rw [if_neg (by omega), if_neg (by omega)]
    · unfold sw; rw [if_pos hpj]
    · have := h1 c h0 hc (by omega); rw [hp] at this; exact this
/-- after the first and the last copy were exchanged -/
theorem DownInv.start {n : Nat} {H : List Pc} (h : HeapTo (n + 1) H) (hl : H.length = n + 1) : DownInv n (swapL H 0 n) 0 := by
  refine ⟨fun c h0 hc hne => ?_, fun c h0 hc hp h => absurd h (Nat.lt_irrefl 0)⟩
  refine geA_swap' (by omega) (by omega) _ _ c _ ?_ ?_ (h c h0 (by omega))
  · unfold sw; rw [if_neg (by omega), if_neg (by omega)]
  · unfold sw; rw [if_neg hne, if_neg (by omega)]
theorem HeapTo.take {n : Nat} {H : List Pc} (h : HeapTo n H) (hn : n ≤ H.length) : HeapTo (H.take n).length (H.take n) := by
  intro c h0 hc a b ha hb
  simp only [List.length_take] at hc
  rw [List.getElem?_take, if_pos (by omega)] at ha hb
  exact h c h0 (by omega) a b ha hb

/-- the order of copies -/
def Srt (l : List Pc) : Prop := l.Pairwise fun a b => ltB a b = true
def insP (p : Pc) : List Pc → List Pc
  | [] => [p]
  | x :: l => if ltB p x then p :: x :: l else x :: insP p l
theorem insP_perm (p : Pc) : ∀ l, (insP p l).Perm (p :: l)
  | [] => List.Perm.refl _
  | x :: l => by
    unfold insP; split
    · exact List.Perm.refl _
    · exact ((insP_perm p l).cons x).trans (List.Perm.swap p x l)
theorem lt_trans' {a b c : Pc} (h : ltB a b = true) (k : ltB b c = true) : ltB a c = true := by
  rw [ltB_iff] at *; omega
theorem Srt.ins {p : Pc} : ∀ {l : List Pc}, Srt l → (∀ x ∈ l, ltB p x = true ∨ ltB x p = true) → Srt (insP p l)
  | [], _, _ => by simp [insP, Srt]
  | x :: l, h, hx => by
    unfold Srt at h
    rw [List.pairwise_cons] at h
    unfold insP; split
    · rename_i hp
      unfold Srt
      rw [List.pairwise_cons, List.pairwise_cons]
      refine ⟨fun y hy => ?_, h⟩
      rcases List.mem_cons.1 hy with rfl | hy
      · exact hp
      · exact lt_trans' hp (h.1 y hy)
    · rename_i hp
      unfold Srt
      rw [List.pairwise_cons]
      refine ⟨fun y hy => ?_, Srt.ins h.2 fun y hy => hx y (List.mem_cons_of_mem _ hy)⟩
      rcases List.mem_cons.1 ((insP_perm p l).mem_iff.1 hy) with rfl | hy
      · exact (hx x (by simp)).resolve_left hp
      · exact h.1 y hy
/-- the least copy of an ordered list is its head -/
theorem Srt.head {x : Pc} {l H : List Pc} (h : Srt (x :: l)) (hp : H.Perm (x :: l)) (y : Pc) (hy : y ∈ H) (hm : ∀ z ∈ H, ltB z y = false) : y = x := by
  unfold Srt at h
  rw [List.pairwise_cons] at h
  rcases List.mem_cons.1 (hp.mem_iff.1 hy) with e | e
  · exact e
  · have := h.1 y e
    rw [hm x (hp.mem_iff.2 (by simp))] at this
    cases this

/-- what happens to a message -/
structure Tr where
  lost : Bool
  copies : Int
  delay : Int
structure NS where
  nodes : Int
  script : List Tr
  w : List Pc
  sent : Nat
def NS.tr (s : NS) : Tr := if s.script = [] then ⟨false, 1, 1⟩ else s.script.getD (s.sent % s.script.length) ⟨false, 1, 1⟩
def nCop (c : Int) : Nat := (min (max c 1) 8).toNat
theorem nCop_le (c : Int) : 1 ≤ nCop c ∧ nCop c ≤ 8 := by unfold nCop; omega
def cop (fr to_ : Int) (tx : List UInt8) (a : Int) (sn j : Nat) : Pc := ⟨fr, to_, tx, a + j, sn⟩
/-- k copies, put into their places -/
def addC (fr to_ : Int) (tx : List UInt8) (a : Int) (sn : Nat) : Nat → List Pc → List Pc
  | 0, l => l
  | k + 1, l => insP (cop fr to_ tx a sn k) (addC fr to_ tx a sn k l)
def NS.drops (s : NS) (to_ : Int) : Bool := s.tr.lost || decide (to_ < 0) || decide (s.nodes ≤ to_)
def NS.send (s : NS) (now fr to_ : Int) (tx : List UInt8) : NS :=
  ⟨s.nodes, s.script, if s.drops to_ then s.w else addC fr to_ tx (now + max s.tr.delay 0) s.sent (nCop s.tr.copies) s.w, s.sent + 1⟩
def NS.next (s : NS) : NS := ⟨s.nodes, s.script, s.w.tail, s.sent⟩
structure NS.Ok (s : NS) : Prop where
  srt : Srt s.w
  sn : ∀ p ∈ s.w, p.sn < s.sent
theorem addC_perm (fr to_ : Int) (tx : List UInt8) (a : Int) (sn : Nat) : ∀ (k : Nat) (l : List Pc), (addC fr to_ tx a sn k l).Perm (l ++ (List.range k).map (cop fr to_ tx a sn))
  | 0, l => by simp [addC]
  | k + 1, l => by
    rw [List.range_succ, List.map_append, ← List.append_assoc]
    refine (insP_perm _ _).trans (((addC_perm fr to_ tx a sn k l).cons _).trans ?_)
    exact (List.perm_append_comm (l₁ := [cop fr to_ tx a sn k])).trans (List.Perm.refl _)
theorem addC_srt (fr to_ : Int) (tx : List UInt8) (a : Int) (sn : Nat) (l : List Pc) (h : Srt l) (hs : ∀ p ∈ l, p.sn < sn) : ∀ k, Srt (addC fr to_ tx a sn k l)
  | 0 => h
  | k + 1 => by
    refine (addC_srt fr to_ tx a sn l h hs k).ins fun x hx => ?_
    rcases List.mem_append.1 ((addC_perm fr to_ tx a sn k l).mem_iff.1 hx) with hx | hx
    · have := hs x hx
      simp only [ltB_iff, cop]; omega
    · obtain ⟨j, hj, rfl⟩ := List.mem_map.1 hx
      have := List.mem_range.1 hj
      simp only [ltB_iff, cop]; omega
theorem length_addC (fr to_ : Int) (tx : List UInt8) (a : Int) (sn k : Nat) (l : List Pc) : (addC fr to_ tx a sn k l).length = l.length + k := by
  rw [(addC_perm fr to_ tx a sn k l).length_eq]; simp
theorem NS.Ok.send {s : NS} (h : s.Ok) (now fr to_ : Int) (tx : List UInt8) : (s.send now fr to_ tx).Ok := by
  unfold NS.send
  refine ⟨?_, ?_⟩
  · dsimp only; split
    · exact h.srt
    · exact addC_srt _ _ _ _ _ _ h.srt h.sn _
  · dsimp only; split
    · intro p hp; have := h.sn p hp; omega
    · intro p hp
      rcases List.mem_append.1 ((addC_perm _ _ _ _ _ _ _).mem_iff.1 hp) with hp | hp
      · have := h.sn p hp; omega
      · obtain ⟨j, _, rfl⟩ := List.mem_map.1 hp
        simp [cop]
theorem NS.Ok.next {s : NS} (h : s.Ok) : s.next.Ok := by
  unfold NS.next
  exact ⟨List.Pairwise.sublist (List.tail_sublist _) h.srt, fun p hp => h.sn p (List.mem_of_mem_tail hp)⟩
theorem length_send (s : NS) (now fr to_ : Int) (tx : List UInt8) : (s.send now fr to_ tx).w.length ≤ s.w.length + 8 := by
  unfold NS.send; dsimp only; split
  · omega
  · rw [length_addC]; have := nCop_le s.tr.copies; omega
#print axioms NS.Ok.send
#print axioms DownInv.step
#print axioms UpInv.step
end Go.Proofs.Ythhimnihgkegiaa
