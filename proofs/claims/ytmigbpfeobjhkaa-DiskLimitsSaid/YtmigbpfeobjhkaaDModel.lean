/-
  The plain model of a disk: contents, contents at the last sync, parts of later writes, calls, and how many calls the power still lasts. No program in sight; no condition.
-/
import Derived.Test.YtmigbpfeobjhkaaW
namespace Go.Proofs.Ytmigbpfeobjhkaa
open Go Go.RowKit

structure DS where
  now : List UInt8
  syn : List UInt8
  parts : List (Nat × List UInt8)
  calls : Nat
  lim : Option Nat

def DS.zero : DS := ⟨[], [], [], 0, none⟩

/-- s written to c at off. -/
def putL (c : List UInt8) (off : Nat) (s : List UInt8) : List UInt8 := splice (c ++ List.replicate (off + s.length - c.length) 0) off s

theorem length_putL (c : List UInt8) (off : Nat) (s : List UInt8) : (putL c off s).length = max c.length (off + s.length) := by
  unfold putL
  rw [length_splice]
  · simp; omega
  · simp; omega

/-- the parts of a write -/
def cutF : Nat → Nat → List UInt8 → List (Nat × List UInt8)
  | 0, _, _ => []
  | f + 1, off, s => if s = [] then [] else (off, s.take (min (64 - off % 64) s.length)) :: cutF f (off + min (64 - off % 64) s.length) (s.drop (min (64 - off % 64) s.length))
def cut (off : Nat) (s : List UInt8) : List (Nat × List UInt8) := cutF s.length off s

theorem cutF_fuel : ∀ (f g : Nat) (off : Nat) (s : List UInt8), s.length ≤ f → s.length ≤ g → cutF f off s = cutF g off s := by
  intro f
  induction f with
  | zero =>
    intro g off s h _
    have : s = [] := List.eq_nil_of_length_eq_zero (by omega)
    subst this
    cases g <;> simp [cutF]
  | succ f ih =>
    intro g off s h hg
    cases g with
    | zero =>
      have : s = [] := List.eq_nil_of_length_eq_zero (by omega)
      subst this
      simp [cutF]
    | succ g =>
      by_cases hs : s = []
      · simp [cutF, hs]
      · have hl : 0 < s.length := List.length_pos_iff.2 hs
        simp only [cutF, if_neg hs]
        congr 1
        apply ih
        · simp; omega
        · simp; omega

theorem cut_nil (off : Nat) : cut off [] = [] := rfl
theorem cut_step (off : Nat) (s : List UInt8) (h : s ≠ []) :
    cut off s = (off, s.take (min (64 - off % 64) s.length)) :: cut (off + min (64 - off % 64) s.length) (s.drop (min (64 - off % 64) s.length)) := by
  unfold cut
  obtain ⟨n, hn⟩ : ∃ n, s.length = n + 1 := ⟨s.length - 1, by have := List.length_pos_iff.2 h; omega⟩
  rw [hn]
  simp only [cutF, if_neg h]
  rw [hn]
  congr 1
  apply cutF_fuel
  · simp; omega
  · simp

theorem cut_mem : ∀ (n off : Nat) (s : List UInt8), s.length = n → ∀ p ∈ cut off s, off ≤ p.1 ∧ p.1 + p.2.length ≤ off + s.length := by
  intro n
  induction n using Nat.strongRecOn with
  | _ n ih =>
    intro off s hs p hp
    by_cases h : s = []
    · subst h; simp [cut_nil] at hp
    · have hl : 0 < s.length := List.length_pos_iff.2 h
      rw [cut_step off s h] at hp
      rcases List.mem_cons.1 hp with rfl | hp
      · simp; omega
      · have := ih (s.drop (min (64 - off % 64) s.length)).length (by simp; omega) _ _ rfl p hp
        simp at this ⊢
        omega

theorem length_cut : ∀ (n off : Nat) (s : List UInt8), s.length = n → (cut off s).length ≤ s.length := by
  intro n
  induction n using Nat.strongRecOn with
  | _ n ih =>
    intro off s hs
    by_cases h : s = []
    · subst h; simp [cut_nil]
    · have hl : 0 < s.length := List.length_pos_iff.2 h
      rw [cut_step off s h]
      have := ih (s.drop (min (64 - off % 64) s.length)).length (by simp; omega) (off + min (64 - off % 64) s.length) _ rfl
      simp at this ⊢
      omega

def readL (c : List UInt8) (off n : Int) : List UInt8 := if off < 0 ∨ n < 1 ∨ (c.length : Int) ≤ off then [] else (c.drop off.toNat).take n.toNat

def DS.counted (s : DS) : DS := { s with calls := s.calls + 1, lim := s.lim.map (· - 1) }
def DS.off (s : DS) : Bool := s.lim == some 0
def fits (off : Int) (t : List UInt8) : Bool := decide (0 ≤ off) && decide (off + t.length ≤ 16777216)
def DS.wrote (s : DS) (off : Int) (t : List UInt8) : DS := { s.counted with now := putL s.now off.toNat t, parts := s.parts ++ cut off.toNat t }
def DS.write (s : DS) (off : Int) (t : List UInt8) : DS := if fits off t && !s.off then s.wrote off t else s
def DS.writeR (s : DS) (off : Int) (t : List UInt8) : Int := if fits off t then (if s.off then 70 else 0) else 1
def DS.synced (s : DS) : DS := { s.counted with syn := s.now, parts := [] }
def DS.sync (s : DS) : DS := if s.off then s else s.synced
def DS.syncR (s : DS) : Int := if s.off then 70 else 0
def DS.fail (s : DS) (n : Int) : DS := { s with lim := if n < 0 then none else some n.toNat }
def keepsPart (q : List Int) (k : Nat) : Bool := decide (0 < q.length) && decide (q.getD (k % q.length) 0 % 2 = 1)
def crashC (q : List Int) : Nat → List (Nat × List UInt8) → List UInt8 → List UInt8
  | _, [], c => c
  | k, p :: ps, c => crashC q (k + 1) ps (if keepsPart q k then putL c p.1 p.2 else c)
def DS.crash (s : DS) (q : List Int) : DS := ⟨crashC q 0 s.parts s.syn, crashC q 0 s.parts s.syn, [], 0, none⟩

theorem crashC_snoc (q : List Int) : ∀ (ps : List (Nat × List UInt8)) (k : Nat) (c : List UInt8) (p : Nat × List UInt8),
    crashC q k (ps ++ [p]) c = if keepsPart q (k + ps.length) then putL (crashC q k ps c) p.1 p.2 else crashC q k ps c
  | [], k, c, p => by simp [crashC]
  | x :: ps, k, c, p => by
    simp only [List.cons_append, crashC, List.length_cons]
    rw [crashC_snoc q ps]
    have : k + 1 + ps.length = k + (ps.length + 1) := by omega
    rw [this]
theorem crashC_take (q : List Int) (ps : List (Nat × List UInt8)) (c : List UInt8) (k : Nat) (hk : k < ps.length) :
    crashC q 0 (ps.take (k + 1)) c = if keepsPart q k then putL (crashC q 0 (ps.take k) c) ps[k].1 ps[k].2 else crashC q 0 (ps.take k) c := by
  rw [List.take_succ_eq_append_getElem hk, crashC_snoc]
  have : (ps.take k).length = k := by simp; omega
  rw [this, Nat.zero_add]
theorem crashC_none (ps : List (Nat × List UInt8)) (k : Nat) (c : List UInt8) : crashC [] k ps c = c := by
  induction ps generalizing k c with
  | nil => rfl
  | cons p ps ih => simp [crashC, keepsPart, ih]

/-- what bounds a disk: its contents, its parts, and how many there are -/
structure DS.Fine (s : DS) (n : Nat) : Prop where
  now : s.now.length ≤ 16777216
  syn : s.syn.length ≤ 16777216
  part : ∀ p ∈ s.parts, p.1 + p.2.length ≤ 16777216
  parts : s.parts.length ≤ n
  calls : s.calls ≤ n
  lim : ∀ k, s.lim = some k → k ≤ 1048576

theorem length_crashC (q : List Int) (N : Nat) : ∀ (ps : List (Nat × List UInt8)) (k : Nat) (c : List UInt8), c.length ≤ N → (∀ p ∈ ps, p.1 + p.2.length ≤ N) → (crashC q k ps c).length ≤ N
  | [], _, c, h, _ => h
  | p :: ps, k, c, h, hp => by
    simp only [crashC]
    apply length_crashC q N ps
    · split
      · rw [length_putL]; have := hp p (by simp); omega
      · exact h
    · intro x hx; exact hp x (by simp [hx])

theorem DS.Fine.zero : DS.Fine DS.zero 0 := ⟨by simp [DS.zero], by simp [DS.zero], by simp [DS.zero], by simp [DS.zero], by simp [DS.zero], by simp [DS.zero]⟩
theorem DS.Fine.mono {s : DS} {n m : Nat} (h : s.Fine n) (hm : n ≤ m) : s.Fine m := ⟨h.now, h.syn, h.part, Nat.le_trans h.parts hm, Nat.le_trans h.calls hm, h.lim⟩
theorem DS.Fine.counted {s : DS} {n : Nat} (h : s.Fine n) : s.counted.Fine (n + 1) :=
  ⟨h.now, h.syn, h.part, Nat.le_succ_of_le h.parts, Nat.succ_le_succ h.calls, fun k hk => by
    simp only [DS.counted, Option.map_eq_some_iff] at hk
    obtain ⟨j, hj, rfl⟩ := hk
    have := h.lim j hj; omega⟩
theorem DS.Fine.wrote {s : DS} {n : Nat} (h : s.Fine n) (off : Int) (t : List UInt8) (hf : fits off t = true) : (s.wrote off t).Fine (n + t.length + 1) := by
  simp only [fits, Bool.and_eq_true, decide_eq_true_eq] at hf
  have hc := h.counted
  refine ⟨?_, h.syn, ?_, ?_, ?_, hc.lim⟩
  · simp only [DS.wrote, length_putL]; have := h.now; omega
  · intro p hp
    simp only [DS.wrote, List.mem_append] at hp
    rcases hp with hp | hp
    · exact h.part p hp
    · have := cut_mem _ _ _ rfl p hp; omega
  · simp only [DS.wrote, List.length_append]
    have := length_cut _ off.toNat t rfl
    have := h.parts; omega
  · have := hc.calls; simp only [DS.wrote]; omega
theorem DS.Fine.write {s : DS} {n : Nat} (h : s.Fine n) (off : Int) (t : List UInt8) : (s.write off t).Fine (n + t.length + 1) := by
  unfold DS.write
  split
  · rename_i hf
    simp only [Bool.and_eq_true] at hf
    exact h.wrote off t hf.1
  · exact h.mono (by omega)
theorem DS.Fine.synced {s : DS} {n : Nat} (h : s.Fine n) : s.synced.Fine (n + 1) :=
  ⟨h.now, h.now, by simp [DS.synced], by simp [DS.synced], h.counted.calls, h.counted.lim⟩
theorem DS.Fine.sync {s : DS} {n : Nat} (h : s.Fine n) : s.sync.Fine (n + 1) := by
  unfold DS.sync; split
  · exact h.mono (by omega)
  · exact h.synced
theorem DS.Fine.fail {s : DS} {n : Nat} (h : s.Fine n) (k : Int) (hk : k ≤ 1048576) : (s.fail k).Fine n :=
  ⟨h.now, h.syn, h.part, h.parts, h.calls, fun j hj => by
    simp only [DS.fail] at hj
    split at hj
    · cases hj
    · simp at hj; omega⟩
theorem DS.Fine.crash {s : DS} {n : Nat} (h : s.Fine n) (q : List Int) : (s.crash q).Fine n := by
  have := length_crashC q 16777216 s.parts 0 s.syn h.syn h.part
  exact ⟨this, this, by simp [DS.crash], by simp [DS.crash], by simp [DS.crash], by simp [DS.crash]⟩
theorem DS.Fine.crash0 {s : DS} {n : Nat} (h : s.Fine n) (q : List Int) : (s.crash q).Fine 0 := by
  have := length_crashC q 16777216 s.parts 0 s.syn h.syn h.part
  exact ⟨this, this, by simp [DS.crash], by simp [DS.crash], by simp [DS.crash], by simp [DS.crash]⟩
end Go.Proofs.Ytmigbpfeobjhkaa
