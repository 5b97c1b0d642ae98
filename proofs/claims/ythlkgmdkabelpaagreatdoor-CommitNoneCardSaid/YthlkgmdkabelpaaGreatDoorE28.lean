/-
  A long run in cuts: code piece by piece, the state between two cuts written out. Over any program. No condition.
-/
import Derived.Test.YthlkgmdkabelpaaGreatDoorE24
namespace Go.Proofs.YthlkgmdkabelpaaGreatDoor.X
open Go Go.RowKit
set_option linter.unusedVariables false

def flatSeq : Nat → Code → List Code
  | n + 1, .seq a b => flatSeq n a ++ flatSeq n b
  | _, c => [c]
def pieces : Option Func → List Code
  | some fn => match fn.body with
    | some c => flatSeq 200 c
    | none => []
  | none => []
def runL (R : XK) (N : Nat) : List Code → XS → Option XO
  | [], s => some (.code .norm s)
  | c :: l, s => seqK (runL R N l) (R (.code N none c s))
def putL {α : Type} (t : PT α) : List (Nat × α) → PT α
  | [] => t
  | (n, x) :: l => (putL t l).set n (some x)
/-- a state, written out -/
def lit (F : List (Nat × Value)) (L : List (Nat × XObj)) (next : Nat) : XS := ⟨putL (PT.full 9) F, ⟨putL (PT.full 14) L, next, [], 0⟩, []⟩
def outV (o : Option XO) (ts ns : List Nat) : Option (List (Option Value) × List (Option XObj) × Nat × Bool) := match o with
  | some (.code .norm s) => some (ts.map s.fr.get, ns.map s.W.get, s.W.next, s.ds.isEmpty)
  | _ => none
/-- the end: the results are a true -/
def endsTrue (P : Program) (fn : Option Func) (o : Option XO) : Bool := match o, fn with
  | some (.code e s), some fn => isEnd e && s.ds.isEmpty && (match resX P s.W s.fr fn.results.toList with
    | some [.bool b] => b
    | _ => false)
  | _, _ => false
def wpL (F : Fence) (n : Nat) (P : Program) (Q : Exit → Act → World → Prop) : List Code → Act → World → Prop
  | [], a, w => Q .normal a w
  | c :: l, a, w => c.wpIn F n P (Exit.then (wpL F n P Q l) Q) a w

section
variable {F : Fence} {n : Nat} {P : Program} {Q : Exit → Act → World → Prop} {a : Act} {w : World}
theorem wpL_mono {Q' : Exit → Act → World → Prop} (hq : ∀ e a w, Q e a w → Q' e a w) : ∀ {l : List Code} {a : Act} {w : World}, wpL F n P Q l a w → wpL F n P Q' l a w
  | [], a, w, h => hq _ _ _ h
  | c :: l, a, w, h => wpIn_mono h fun e a' w' k => by
    cases e <;> first | exact hq _ _ _ k | exact wpL_mono hq k
theorem wpL_append : ∀ {l1 l2 : List Code} {a : Act} {w : World}, wpL F n P Q (l1 ++ l2) a w → wpL F n P (Exit.then (wpL F n P Q l2) Q) l1 a w
  | [], l2, a, w, h => h
  | c :: l1, l2, a, w, h => wpIn_mono h fun e a' w' k => by
    cases e <;> first | exact k | exact wpL_append k
theorem wpL_flat : ∀ (k : Nat) (c : Code) {Q : Exit → Act → World → Prop} {a : Act} {w : World}, wpL F n P Q (flatSeq k c) a w → c.wpIn F n P Q a w := by
  have one : ∀ (c : Code) {Q : Exit → Act → World → Prop} {a : Act} {w : World}, wpL F n P Q [c] a w → c.wpIn F n P Q a w := fun c Q a w h =>
    wpIn_mono h fun e a' w' k => by cases e <;> exact k
  intro k
  induction k with
  | zero => intro c Q a w h; cases c <;> exact one _ h
  | succ k ih =>
    intro c Q a w h
    cases c <;> first | exact one _ h | skip
    rename_i x y
    refine wpIn_seq (ih x (wpL_mono (fun e a w q => ?_) (wpL_append h)))
    cases e <;> first | exact q | exact ih y q
end
/-- how things stand at a cut -/
def Ch (P : Program) (N : Nat) (w0 : World) (s : XS) (a : Act) (w : World) : Prop :=
  ∃ ρ, HR P ρ s.W.get w ∧ FR ρ N s.fr a.tmps ∧ DRs ρ s.ds a.defers ∧ (∀ n, s.W.next ≤ n → ρ n = none) ∧ Keeps noBlock w0 w ∧ ∀ b, Img ρ s.W.get b → w0.heap.size ≤ b
section
variable {P : Program} {R : XK} {N : Nat} {m : Nat} {w0 : World}
theorem ch_step {ρ ρ' : Ren} {s s' : XS} {a' : Act} {w w' : World} (hn : ∀ n, s.W.next ≤ n → ρ n = none) (hk : Keeps noBlock w0 w) (hi : ∀ b, Img ρ s.W.get b → w0.heap.size ≤ b) (h : OnR P ρ s.W w N s' ρ' a' w') : Ch P N w0 s' a' w' := by
  obtain ⟨h1, h2, h3, h4⟩ := h
  refine ⟨ρ', h2, h3, h4, fun n hn' => ?_, hk.trans' h1.keeps fun k hk' e => ?_, fun b hb => ?_⟩
  · cases e : ρ' n with
    | none => rfl
    | some q =>
      rcases h1.dom n (by rw [e]; simp) with k | ⟨k1, k2⟩
      · exact absurd (hn n (Nat.le_trans h1.next hn')) k
      · omega
  · have := hi k e; omega
  · rcases h1.img b hb with k | k
    · exact hi b k
    · exact Nat.le_trans hk.size k
theorem code_ch (hC : SimC P R) {c : Code} {s s' : XS} {e : XExit} (h : R (.code N none c s) = some (.code e s')) {a : Act} {w : World} (hc : Ch P N w0 s a w) :
    c.wpIn Fence.wide m P (fun ex a' w' => Ch P N w0 s' a' w' ∧ ∃ ρ, ExR ρ e ex) a w := by
  obtain ⟨ρ, h1, h2, h3, h4, h5, h6⟩ := hc
  refine wpIn_mono (hC _ _ _ _ _ _ h ρ none a w m trivial (fun n k _ => h4 n k) h1 h2 h3) fun ex a' w' hq => ?_
  obtain ⟨ρ', hq, hx⟩ := hq
  exact ⟨ch_step h4 h5 h6 hq, ρ', hx⟩
theorem runL_ch (hC : SimC P R) {Q : Exit → Act → World → Prop} {l2 : List Code} : ∀ {l : List Code} {s s' : XS} {a : Act} {w : World}, runL R N l s = some (.code .norm s') → Ch P N w0 s a w → (∀ a' w', Ch P N w0 s' a' w' → wpL Fence.wide m P Q l2 a' w') →
    wpL Fence.wide m P Q (l ++ l2) a w
  | [], s, s', a, w, h, hc, hk => by cases h; exact hk a w hc
  | c :: l, s, s', a, w, h, hc, hk => by
    unfold runL seqK at h
    split at h
    · rename_i s1 h1
      refine wpIn_mono (code_ch hC h1 hc) fun ex a1 w1 hq => ?_
      obtain ⟨hq, ρ, hx⟩ := hq
      cases ex <;> first | exact hx.elim | skip
      exact runL_ch hC h hq hk
    · rename_i hne
      exact absurd h (hne _)
theorem runL_end (hC : SimC P R) {Q : Exit → Act → World → Prop} : ∀ {l : List Code} {s s' : XS} {e : XExit} {a : Act} {w : World}, runL R N l s = some (.code e s') → isEnd e = true → Ch P N w0 s a w → (∀ a' w', Ch P N w0 s' a' w' → Q .normal a' w' ∧ Q .ret a' w') →
    wpL Fence.wide m P Q l a w
  | [], s, s', e, a, w, h, he, hc, hk => by cases h; exact (hk a w hc).1
  | c :: l, s, s', e, a, w, h, he, hc, hk => by
    unfold runL seqK at h
    split at h
    · rename_i s1 h1
      refine wpIn_mono (code_ch hC h1 hc) fun ex a1 w1 hq => ?_
      obtain ⟨hq, ρ, hx⟩ := hq
      cases ex <;> first | exact hx.elim | skip
      exact runL_end hC h he hq hk
    · rename_i hne
      refine wpIn_mono (code_ch hC h hc) fun ex a1 w1 hq => ?_
      obtain ⟨hq, ρ, hx⟩ := hq
      cases e <;> first | (cases he; done) | skip
      · exact absurd h (hne _)
      · cases ex <;> first | exact hx.elim | skip
        exact (hk a1 w1 hq).2
theorem putL_get {α : Type} {t : PT α} {n : Nat} {x : α} : ∀ {l : List (Nat × α)}, (putL t l).get n = some x → (n, x) ∈ l ∨ t.get n = some x
  | [], h => .inr h
  | (m, y) :: l, h => by
    rcases PT.set_some h with ⟨rfl, q⟩ | ⟨_, q⟩
    · cases q; exact .inl List.mem_cons_self
    · exact (putL_get q).imp (List.mem_cons_of_mem _) id
theorem ch_lit {s : XS} {a : Act} {w : World} {F : List (Nat × Value)} {L : List (Nat × XObj)} (h : Ch P N w0 s a w) (hF : ∀ p ∈ F, s.fr.get p.1 = some p.2) (hL : ∀ p ∈ L, s.W.get p.1 = some p.2) (hds : s.ds.isEmpty = true) : Ch P N w0 (lit F L s.W.next) a w := by
  obtain ⟨ρ, h1, h2, h3, h4, h5, h6⟩ := h
  have hg : ∀ n o, (lit F L s.W.next).W.get n = some o → s.W.get n = some o := fun n o e => by
    have hlt := get_next e
    rw [XW.get_lt hlt] at e
    rcases putL_get e with q | q
    · exact hL _ q
    · rw [PT.get_full] at q; cases q
  have hds : s.ds = [] := by simpa using hds
  refine ⟨ρ, h1.sub hg, ⟨h2.size, fun t v e => ?_⟩, by rw [hds] at h3; exact h3, h4, h5, fun b hb => h6 b (Img.sub hg hb)⟩
  rcases putL_get e with q | q
  · exact h2.rep t v (hF _ q)
  · rw [PT.get_full] at q; cases q
theorem ch_zero {a : Act} {w : World} (hs : a.tmps.size = N) (hd : a.defers = []) : Ch P N w (lit [] [] 0) a w :=
  ⟨fun _ => none, ⟨fun n i o h _ => (by cases h), fun n k i j h _ => (by cases h)⟩, ⟨hs, fun t v e => by rcases putL_get e with q | q <;> first | cases q | (rw [PT.get_full] at q; cases q)⟩, by rw [hd]; exact .nil, fun _ _ => rfl, .refl _ _, fun b ⟨n, i, h, _⟩ => (by cases h)⟩
theorem outV_some {o : Option XO} {F : List (Nat × Value)} {L : List (Nat × XObj)} {next : Nat} (h : outV o (F.map (·.1)) (L.map (·.1)) = some (F.map (fun p => some p.2), L.map (fun p => some p.2), next, true)) :
    ∃ s, o = some (.code .norm s) ∧ (∀ p ∈ F, s.fr.get p.1 = some p.2) ∧ (∀ p ∈ L, s.W.get p.1 = some p.2) ∧ s.W.next = next ∧ s.ds.isEmpty = true := by
  unfold outV at h
  split at h
  · rename_i s
    simp only [Option.some.injEq, Prod.mk.injEq, List.map_map] at h
    exact ⟨s, rfl, List.map_inj_left.1 h.1, List.map_inj_left.1 h.2.1, h.2.2.1, h.2.2.2⟩
  · cases h
/-- a cut -/
theorem cutL (hC : SimC P R) {Q : Exit → Act → World → Prop} {pcs : List Code} {i k : Nat} {S : XS} {F : List (Nat × Value)} {L : List (Nat × XObj)} {next : Nat}
    (h : outV (runL R N ((pcs.drop i).take k) S) (F.map (·.1)) (L.map (·.1)) = some (F.map (fun p => some p.2), L.map (fun p => some p.2), next, true))
    (hk : ∀ a' w', Ch P N w0 (lit F L next) a' w' → wpL Fence.wide m P Q (pcs.drop (i + k)) a' w') {a : Act} {w : World} (hc : Ch P N w0 S a w) : wpL Fence.wide m P Q (pcs.drop i) a w := by
  obtain ⟨s, h1, h2, h3, h4, h5⟩ := outV_some h
  have e : pcs.drop i = (pcs.drop i).take k ++ pcs.drop (i + k) := by rw [← List.drop_drop, List.take_append_drop]
  rw [e]
  refine runL_ch hC h1 hc fun a' w' hc' => hk a' w' ?_
  rw [← h4]
  exact ch_lit hc' h2 h3 h5
/-- the end -/
theorem cutEnd (hC : SimC P R) {fn : Func} {T : Ending → World → Prop} {pcs : List Code} {i : Nat} {S : XS} (h : endsTrue P (some fn) (runL R N (pcs.drop i) S) = true) (hT : ∀ w', Keeps noBlock w0 w' → T (.returned (.bool true)) w')
    {a : Act} {w : World} (hc : Ch P N w0 S a w) : wpL Fence.wide m P (bodyPost P fn T) (pcs.drop i) a w := by
  unfold endsTrue at h
  split at h
  · rename_i e s fn' h1 h2
    cases h2
    simp only [Bool.and_eq_true] at h
    obtain ⟨⟨he, hds⟩, hr⟩ := h
    split at hr
    · rename_i b hr2
      refine runL_end hC h1 he hc fun a' w' hc' => ?_
      obtain ⟨ρ, k1, k2, k3, k4, k5, k6⟩ := hc'
      have hds : s.ds = [] := by simpa using hds
      rw [hds] at k3
      have kd : a'.defers = [] := by cases hdd : a'.defers with | nil => rfl | cons _ _ => rw [hdd] at k3; cases k3
      obtain ⟨u, q1, q2⟩ := results_sim k1 k2 hr2
      have : u = .bool b := q2.of_flat 1 rfl
      subst this
      subst hr
      have fin : a'.defers = [] ∧ ∃ v, (results fn a'.tmps).run P w' = .ok v w' ∧ T (.returned v) w' := ⟨kd, _, q1, hT w' k5⟩
      exact ⟨fin, fin⟩
    · cases hr
  · cases h
theorem callsCut {f : FuncId} {fn : Func} {c : Code} {w : World} {T : Ending → World → Prop} (hf : P.funcs[f]? = some fn) (hb : fn.body = some c)
    (h : ∀ a, Ch P fn.ntmps w (lit [] [] 0) a w → wpL Fence.wide 0 P (bodyPost P fn T) ((pieces (P.funcs[f]?)).drop 0) a w) : Calls P f #[] w T := by
  refine callsIn_wide.1 (callsIn_of_wp (n := 0) hf hb trivial (wpL_flat 200 c ?_) rfl)
  have := h { tmps := #[] ++ Array.replicate (fn.ntmps - (#[] : Array Value).size) undef, defers := [] } (ch_zero (by simp) rfl)
  rw [hf] at this
  simp only [pieces, hb, List.drop_zero] at this
  exact this
end
end Go.Proofs.YthlkgmdkabelpaaGreatDoor.X
