/-
  Disks and desks whose blocks lie between two numbers: the contracts once more, in a form that is easy to carry along. No condition but bounds.
-/
import Derived.Test.YtmigbpfeobjhkaaDSame
namespace Go.Proofs.Ytmigbpfeobjhkaa
open Go Go.RowKit

def from_ (L : Nat) : Nat → Prop := fun k => L ≤ k
def DiskIn (w : World) (b L U : Nat) (s : DS) : Prop := ∃ F, (∀ k, F k → L ≤ k ∧ k < U) ∧ DiskP w b F s
def DeskIn (w : World) (x L U : Nat) (s : DS) : Prop := ∃ F, (∀ k, F k → L ≤ k ∧ k < U) ∧ DeskP w x F s

theorem DiskIn.keep {w w' : World} {b L U M : Nat} {s : DS} (h : DiskIn w b L U s) (hk : Keeps (from_ M) w w') (hm : U ≤ M) : DiskIn w' b L U s := by
  obtain ⟨F, hF, h⟩ := h
  exact ⟨F, hF, h.keep hk fun k e e2 => by have := (hF k e).2; have : M ≤ k := e2; omega⟩
theorem DiskIn.still {w w' : World} {b L U : Nat} {s : DS} (h : DiskIn w b L U s) (hk : Keeps noBlock w w') : DiskIn w' b L U s := by
  obtain ⟨F, hF, h⟩ := h
  exact ⟨F, hF, h.keep hk fun k e e2 => e2⟩
theorem DeskIn.keep {w w' : World} {b L U M : Nat} {s : DS} (h : DeskIn w b L U s) (hk : Keeps (from_ M) w w') (hm : U ≤ M) : DeskIn w' b L U s := by
  obtain ⟨F, hF, h⟩ := h
  exact ⟨F, hF, h.keep hk fun k e e2 => by have := (hF k e).2; have : M ≤ k := e2; omega⟩
theorem DeskIn.still {w w' : World} {b L U : Nat} {s : DS} (h : DeskIn w b L U s) (hk : Keeps noBlock w w') : DeskIn w' b L U s := by
  obtain ⟨F, hF, h⟩ := h
  exact ⟨F, hF, h.keep hk fun k e e2 => e2⟩
theorem Keeps.any {w w' : World} (h : Keeps noBlock w w') (S : Nat → Prop) : Keeps S w w' := h.mono fun _ _ e => e.elim
theorem Keeps.lower {w w' : World} {L M : Nat} (h : Keeps (from_ M) w w') (hl : L ≤ M) : Keeps (from_ L) w w' := h.mono fun _ _ e => Nat.le_trans hl e

def InPost (b L : Nat) (s : DS) (v : Value) (w : World) (e : Ending) (w' : World) : Prop :=
  e = .returned v ∧ DiskIn w' b L w'.heap.size s ∧ Keeps (from_ L) w w'
theorem InPost.of {b L U : Nat} {F : Nat → Prop} {s : DS} {v : Value} {w : World} {e : Ending} {w' : World} (hF : ∀ k, F k → L ≤ k ∧ k < U) (hl : L ≤ w.heap.size) (h : DiskPost b F s v w e w') : InPost b L s v w e w' := by
  obtain ⟨he, hd, hk⟩ := h
  refine ⟨he, ⟨_, fun k e => ⟨?_, hd.lt k e⟩, hd⟩, hk.mono fun k _ e => (hF k e).1⟩
  rcases e with e | e
  · exact (hF k e).1
  · omega

theorem new_in (w : World) : Calls Try.prog 14 #[] w (InPost w.heap.size w.heap.size DS.zero (.pointer (some ⟨w.heap.size, 0, none⟩)) w) :=
  (new_any w).mono fun _ _ h => InPost.of (U := 0) (F := noBlock) (fun _ e => e.elim) (Nat.le_refl _) h
theorem write_in (w : World) (b L U : Nat) (s : DS) (n : Nat) (off : Int) (t : List UInt8) (h : DiskIn w b L U s) (hf : s.Fine n) (hn : n ≤ 1099511627776) (h1 : off ≤ 9223372036854775807) (h2 : t.length ≤ 4611686018427387904) (hl : L ≤ w.heap.size) :
    Calls Try.prog 27 #[.pointer (some ⟨b, 0, none⟩), .int .i64 off, .string (str t)] w (InPost b L (s.write off t) (.int .i64 (s.writeR off t)) w) := by
  obtain ⟨F, hF, h⟩ := h
  exact (write_any w b F s n off t h hf hn h1 h2).mono fun _ _ h => InPost.of hF hl h
theorem sync_in (w : World) (b L U : Nat) (s : DS) (n : Nat) (h : DiskIn w b L U s) (hf : s.Fine n) (hn : n ≤ 1099511627776) (hl : L ≤ w.heap.size) :
    Calls Try.prog 28 #[.pointer (some ⟨b, 0, none⟩)] w (InPost b L s.sync (.int .i64 s.syncR) w) := by
  obtain ⟨F, hF, h⟩ := h
  exact (sync_any w b F s n h hf (by omega)).mono fun _ _ h => InPost.of hF hl h
theorem fail_in (w : World) (b L U : Nat) (s : DS) (n : Int) (h : DiskIn w b L U s) (hl : L ≤ w.heap.size) :
    Calls Try.prog 30 #[.pointer (some ⟨b, 0, none⟩), .int .i64 n] w (InPost b L (s.fail n) (.tuple #[]) w) := by
  obtain ⟨F, hF, h⟩ := h
  exact (fail_any n w b F s h).mono fun _ _ h => InPost.of hF hl h
theorem size_in (w : World) (b L U : Nat) (s : DS) (h : DiskIn w b L U s) :
    Calls Try.prog 17 #[.pointer (some ⟨b, 0, none⟩)] w fun e w' => e = .returned (.int .i64 (s.now.length : Int)) ∧ w = w' := by
  obtain ⟨F, hF, h⟩ := h
  exact size_any w b F s h
theorem calls_in (w : World) (b L U : Nat) (s : DS) (h : DiskIn w b L U s) :
    Calls Try.prog 19 #[.pointer (some ⟨b, 0, none⟩)] w fun e w' => e = .returned (.int .i64 (s.calls : Int)) ∧ w = w' := by
  obtain ⟨F, hF, h⟩ := h
  exact calls_any w b F s h
theorem read_in (w : World) (b L U : Nat) (s : DS) (off m : Int) (h : DiskIn w b L U s) (hl : s.now.length ≤ 16777216) (hm : m ≤ 9223372036854775807) :
    Calls Try.prog 29 #[.pointer (some ⟨b, 0, none⟩), .int .i64 off, .int .i64 m] w fun e w' => e = .returned (.string (str (readL s.now off m))) ∧ Keeps noBlock w w' := by
  obtain ⟨F, hF, h⟩ := h
  exact (read_any w b F s off m h hl hm).mono fun e w' ⟨h1, n, h2⟩ => ⟨h1, by rw [h2]; exact (Keeps.refl _ _).drewN n⟩
def CrashIn (s : DS) (w : World) (e : Ending) (w' : World) : Prop :=
  ∃ b, e = .returned (.pointer (some ⟨b, 0, none⟩)) ∧ DiskIn w' b w.heap.size w'.heap.size s ∧ Keeps noBlock w w'
theorem crash_in (w : World) (b L U : Nat) (s : DS) (n : Nat) (qv : Value) (q : List Int) (h : DiskIn w b L U s) (hf : s.Fine n) (hn : n ≤ 1099511627776) (hq : Ints w qv q) :
    Calls Try.prog 23 #[.pointer (some ⟨b, 0, none⟩), qv] w (CrashIn (s.crash q) w) := by
  obtain ⟨F, hF, h⟩ := h
  refine (crash_any w b F s n qv q h hf hn hq).mono fun e w' ⟨b', he, hd, hk⟩ => ⟨b', he, ⟨_, fun k e => ?_, hd⟩, hk⟩
  rcases e with e | e
  · exact e.elim
  · exact e
theorem Ints.nil (w : World) : Ints w (.slice none 0 0) [] := ⟨none, 0, rfl, Nat.le_refl _, by decide, fun h => absurd h (Nat.lt_irrefl 0), fun _ h => by simp at h⟩
theorem DiskIn.lt {w : World} {b L U : Nat} {s : DS} (h : DiskIn w b L U s) : L ≤ b ∧ b < U := by
  obtain ⟨F, hF, h⟩ := h; exact hF b h.fb
end Go.Proofs.Ytmigbpfeobjhkaa
