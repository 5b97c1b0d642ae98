/-
  More that the laws on disks need: what a desk is made of; writes that stay between two numbers; results when the power does not fail. Conditions as they stand.
-/
import Derived.Test.YtmigbpfeobjhkaaDLawsPlain
namespace Go.Proofs.Ytmigbpfeobjhkaa
open Go Go.RowKit
set_option linter.unusedVariables false

def between (L U : Nat) : Nat → Prop := fun k => L ≤ k ∧ k < U
theorem DiskIn.far {w w' : World} {c L2 U2 L U : Nat} {s : DS} (h : DiskIn w c L2 U2 s) (hk : Keeps (between L U) w w') (hu : U ≤ L2) : DiskIn w' c L2 U2 s := by
  obtain ⟨F, hF, h⟩ := h
  exact ⟨F, hF, h.keep hk fun k e e2 => by have := (hF k e).1; have : k < U := e2.2; omega⟩
theorem DeskIn.far {w w' : World} {x L2 U2 L U : Nat} {s : DS} (h : DeskIn w x L2 U2 s) (hk : Keeps (between L U) w w') (hu : U ≤ L2) : DeskIn w' x L2 U2 s := by
  obtain ⟨F, hF, h⟩ := h
  exact ⟨F, hF, h.keep hk fun k e e2 => by have := (hF k e).1; have : k < U := e2.2; omega⟩
theorem Keeps.up {w w' : World} {L U M : Nat} (h : Keeps (between L U) w w') (hl : M ≤ L) : Keeps (from_ M) w w' := h.mono fun _ _ e => Nat.le_trans hl e.1
theorem write_far (w : World) (b L U : Nat) (s : DS) (n : Nat) (off : Int) (t : List UInt8) (h : DiskIn w b L U s) (hf : s.Fine n) (hn : n ≤ 1099511627776) (h1 : off ≤ 9223372036854775807) (h2 : t.length ≤ 4611686018427387904) (hl : L ≤ w.heap.size) :
    Calls Try.prog 27 #[.pointer (some ⟨b, 0, none⟩), .int .i64 off, .string (str t)] w
      fun e w' => e = .returned (.int .i64 (s.writeR off t)) ∧ DiskIn w' b L w'.heap.size (s.write off t) ∧ Keeps (between L U) w w' := by
  obtain ⟨F, hF, h⟩ := h
  refine (write_any w b F s n off t h hf hn h1 h2).mono fun e w' ⟨he, hd, hk⟩ => ⟨he, ⟨_, fun k e => ⟨?_, hd.lt k e⟩, hd⟩, hk.mono fun k _ e => hF k e⟩
  rcases e with e | e
  · exact (hF k e).1
  · omega

/-- what a desk is made of, with what lies apart -/
theorem DeskIn.open2 {w : World} {x L U : Nat} {s : DS} (h : DeskIn w x L U s) :
    ∃ b m Fd Fm, w.cell? ⟨x, 0, none⟩ = some (.pointer (some ⟨b, 0, none⟩)) ∧ w.cell? ⟨x, 1, none⟩ = some (.pointer (some ⟨m, 0, none⟩)) ∧ DiskP w b Fd s ∧ RefP w m Fm s ∧
      (∀ k, Fd k → L ≤ k ∧ k < U) ∧ (∀ k, Fm k → L ≤ k ∧ k < U) ∧ (∀ k, Fd k → ¬ Fm k) ∧ ¬ Fd x ∧ ¬ Fm x ∧ L ≤ x ∧ x < U := by
  obtain ⟨F, hF, b, m, Fd, Fm, h⟩ := h
  exact ⟨b, m, Fd, Fm, h.cells.1, h.cells.2, h.disk, h.ref, fun k e => hF k (h.fd k e), fun k e => hF k (h.fm k e), h.dis, h.xd, h.xm, hF _ h.fx⟩

theorem writeR_ok (s : DS) (off : Int) (t : List UInt8) (hl : s.lim = none) (hf : fits off t = true) : s.writeR off t = 0 ∧ (s.write off t).lim = none ∧ (s.write off t).calls = s.calls + 1 ∧ (s.write off t).now = putL s.now off.toNat t := by
  simp [DS.writeR, DS.write, hf, DS.off, hl, DS.wrote, DS.counted]
theorem syncR_ok (s : DS) (hl : s.lim = none) : s.syncR = 0 ∧ s.sync.lim = none ∧ s.sync.calls = s.calls + 1 ∧ s.sync.now = s.now := by
  simp [DS.syncR, DS.sync, DS.off, hl, DS.synced, DS.counted]
theorem fits_of (off : Int) (t : List UInt8) (h0 : 0 ≤ off) (h : off + t.length ≤ 16777216) : fits off t = true := by simp [fits]; omega
theorem disk_zero_at (w w' : World) (h : w' = w.alloc (.cells #[.slice none 0 0, .slice none 0 0, .slice none 0 0, .int .i64 0, .int .i64 0, .int .i64 0] 60)) :
    DiskIn w' w.heap.size w.heap.size w'.heap.size DS.zero ∧ Keeps noBlock w w' := by
  subst h
  refine ⟨⟨grow noBlock w _, fun k e => by rcases e with e | e; exact e.elim; exact e, .slice none 0 0, .slice none 0 0, .slice none 0 0, 0, 0, ?_⟩, (Keeps.refl _ _).alloc _⟩
  refine ⟨heap_alloc_at, .inr ⟨Nat.le_refl _, by simp⟩, World.ownsRow_nil _ _ _ _, fun k h => (own_none.1 h).elim, World.ownsRow_nil _ _ _ _, fun k h => (own_none.1 h).elim, World.ownsRow_nil _ _ _ _, fun k h => (own_none.1 h).elim, fun k h => (own_none.1 h).elim, rfl, ?_⟩
  exact grow_lt (fun _ h => h.elim) (by simp)
theorem DiskIn.of_grow {w w' : World} {b : Nat} {s : DS} (h : DiskP w' b (grow noBlock w w') s) : DiskIn w' b w.heap.size w'.heap.size s :=
  ⟨_, fun k e => by rcases e with e | e; exact e.elim; exact e, h⟩
#print axioms write_far
end Go.Proofs.Ytmigbpfeobjhkaa
