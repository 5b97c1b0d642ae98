/-
  Plain facts that the laws on disks need: what a crash keeps. No program in sight; conditions as they stand.
-/
import Derived.Test.YtmigbpfeobjhkaaDPlays
namespace Go.Proofs.Ytmigbpfeobjhkaa
open Go Go.RowKit
set_option linter.unusedVariables false

theorem crash_again (s : DS) (a b : List Int) : (s.crash a).crash b = s.crash a := rfl

theorem Ints.from_ {w w' : World} {v : Value} {q : List Int} (h : Ints w v q) (hk : Keeps (from_ w.heap.size) w w') : Ints w' v q := by
  obtain ⟨o, cap, h1, h2, h3, h4, h5⟩ := h
  refine ⟨o, cap, h1, h2, h3, fun hp => ?_, h5⟩
  obtain ⟨b, off, ho, hc⟩ := h4 hp
  refine ⟨b, off, ho, fun i hi => hk.cell (hc i hi) fun e => ?_⟩
  have hb : b < w.heap.size := World.block_lt_of_cell? w _ (hc i hi)
  have : w.heap.size ≤ b := e
  omega

theorem box_two (w w0 : World) (q0 q1 : Int) (t : TypeId) (h : w0 = w.alloc (.cells #[.int .i64 q0, .int .i64 q1] t)) :
    (∀ w', Keeps (from_ w0.heap.size) w0 w' → w'.cell? ⟨w.heap.size, 0, none⟩ = some (.int .i64 q0) ∧ w'.cell? ⟨w.heap.size, 1, none⟩ = some (.int .i64 q1)) ∧ Keeps noBlock w w0 ∧ w.heap.size < w0.heap.size := by
  have p0 : w0.cell? ⟨w.heap.size, 0, none⟩ = some (.int .i64 q0) := by rw [h, World.cell?_alloc_new]; rfl
  have p1 : w0.cell? ⟨w.heap.size, 1, none⟩ = some (.int .i64 q1) := by rw [h, World.cell?_alloc_new]; rfl
  have z0 : w.heap.size < w0.heap.size := by rw [h]; simp
  refine ⟨fun w' k => ⟨k.cell p0 fun e => ?_, k.cell p1 fun e => ?_⟩, by rw [h]; exact (Keeps.refl _ _).alloc _, z0⟩
  · have : w0.heap.size ≤ w.heap.size := e; omega
  · have : w0.heap.size ≤ w.heap.size := e; omega
theorem read_k (w : World) (b : Nat) (F : Nat → Prop) (s : DS) (off m : Int) (h : DiskP w b F s) (hl : s.now.length ≤ 16777216) (hm : m ≤ 9223372036854775807) :
    Calls Try.prog 29 #[.pointer (some ⟨b, 0, none⟩), .int .i64 off, .int .i64 m] w fun e w' => e = .returned (.string (str (readL s.now off m))) ∧ Keeps noBlock w w' :=
  (read_any w b F s off m h hl hm).mono fun e w' ⟨h1, n, h2⟩ => ⟨h1, by rw [h2]; exact (Keeps.refl _ _).drewN n⟩
theorem rread_k (w : World) (b : Nat) (F : Nat → Prop) (s : DS) (off m : Int) (h : RefP w b F s) (hl : s.now.length ≤ 16777216) (hm : m ≤ 9223372036854775807) :
    Calls Try.prog 31 #[.pointer (some ⟨b, 0, none⟩), .int .i64 off, .int .i64 m] w fun e w' => e = .returned (.string (str (readL s.now off m))) ∧ Keeps noBlock w w' :=
  (rread_any w b F s off m h hl hm).mono fun e w' ⟨h1, n, h2⟩ => ⟨h1, by rw [h2]; exact (Keeps.refl _ _).drewN n⟩

/-- the first n bytes of a crash whose parts lie from n on -/
theorem take_putL (c : List UInt8) (off n : Nat) (s : List UInt8) (hn : n ≤ off) (hc : n ≤ c.length) : (putL c off s).take n = c.take n := by
  unfold putL splice
  rw [List.take_append_of_le_length (by simp; omega), List.take_take, Nat.min_eq_left hn, List.take_append_of_le_length hc]
theorem take_crashC (q : List Int) (n : Nat) : ∀ (ps : List (Nat × List UInt8)) (k : Nat) (c : List UInt8), n ≤ c.length → (∀ p ∈ ps, n ≤ p.1) → n ≤ (crashC q k ps c).length ∧ (crashC q k ps c).take n = c.take n
  | [], _, c, h, _ => ⟨h, rfl⟩
  | p :: ps, k, c, h, hp => by
    simp only [crashC]
    split
    · have h2 := take_crashC q n ps (k + 1) (putL c p.1 p.2) (by rw [length_putL]; omega) (fun x hx => hp x (by simp [hx]))
      exact ⟨h2.1, h2.2.trans (take_putL c p.1 n p.2 (hp p (by simp)) h)⟩
    · exact take_crashC q n ps (k + 1) c h (fun x hx => hp x (by simp [hx]))
theorem readL_take (c : List UInt8) (n : Nat) (h : n ≤ c.length) : readL c 0 n = c.take n := by
  unfold readL
  by_cases h0 : n = 0
  · subst h0; simp
  · rw [if_neg (by omega)]; simp
/-- what was synced survives: the disk after a sync, a write from its end on, and a crash -/
theorem synced_kept (s : DS) (hl : s.lim = none) (off : Int) (t : List UInt8) (ho : (s.now.length : Int) ≤ off) (q : List Int) :
    readL ((s.sync.write off t).crash q).now 0 s.now.length = readL s.now 0 s.now.length := by
  have h0 : s.sync = s.synced := by simp [DS.sync, DS.off, hl]
  rw [readL_take _ _ (Nat.le_refl _), h0]
  have key : ∀ ps : List (Nat × List UInt8), (∀ p ∈ ps, s.now.length ≤ p.1) → readL (crashC q 0 ps s.now) 0 s.now.length = s.now.take s.now.length := fun ps hp => by
    have := take_crashC q s.now.length ps 0 s.now (Nat.le_refl _) hp
    rw [readL_take _ _ this.1, this.2]
  unfold DS.write
  split
  · simp only [DS.wrote, DS.synced, DS.counted, DS.crash, List.nil_append]
    exact key _ fun p hp => by
      have := (cut_mem _ _ _ rfl p hp).1
      omega
  · exact key [] (by simp)

/-- a byte of a crash: synced, written later, or a gap -/
def byteOk (a b : List UInt8) (off : Nat) (c : UInt8) (i : Nat) (v : UInt8) : Prop := (i < a.length ∧ a[i]? = some v) ∨ (off ≤ i ∧ i < off + b.length ∧ v = c) ∨ (a.length ≤ i ∧ v = 0)
def BytesOk (a b : List UInt8) (off : Nat) (c : UInt8) (g : List UInt8) : Prop :=
  a.length ≤ g.length ∧ g.length ≤ max a.length (off + b.length) ∧ ∀ i v, g[i]? = some v → byteOk a b off c i v
theorem putL_get (c : List UInt8) (off : Nat) (s : List UInt8) (i : Nat) (v : UInt8) (h : (putL c off s)[i]? = some v) : (off ≤ i ∧ s[i - off]? = some v) ∨ c[i]? = some v ∨ (c.length ≤ i ∧ v = 0) := by
  unfold putL splice at h
  have hb : ∀ j, (c ++ List.replicate (off + s.length - c.length) 0)[j]? = some v → c[j]? = some v ∨ (c.length ≤ j ∧ v = 0) := fun j hj => by
    rw [List.getElem?_append] at hj
    split at hj
    · exact .inl hj
    · rw [List.getElem?_replicate] at hj
      split at hj
      · exact .inr ⟨by omega, by simpa using hj.symm⟩
      · cases hj
  have hlen : (List.take off (c ++ List.replicate (off + s.length - c.length) 0)).length = off := by simp; omega
  rw [List.getElem?_append] at h
  split at h
  · rename_i h1
    rw [List.getElem?_take] at h
    split at h
    · exact .inr (hb i h)
    · cases h
  · rename_i h1
    rw [hlen] at h h1
    rw [List.getElem?_append] at h
    split at h
    · exact .inl ⟨by omega, h⟩
    · rw [List.getElem?_drop] at h
      have : off + s.length + (i - off - s.length) = i := by omega
      rw [this] at h
      exact .inr (hb i h)
theorem bytes_crash (a b : List UInt8) (off : Nat) (c : UInt8) (q : List Int) : ∀ (ps : List (Nat × List UInt8)) (k : Nat) (g : List UInt8), BytesOk a b off c g →
    (∀ p ∈ ps, off ≤ p.1 ∧ p.1 + p.2.length ≤ off + b.length ∧ ∀ x ∈ p.2, x = c) → BytesOk a b off c (crashC q k ps g)
  | [], _, g, h, _ => h
  | p :: ps, k, g, h, hp => by
    simp only [crashC]
    apply bytes_crash a b off c q ps
    · split
      · obtain ⟨h1, h2, h3⟩ := h
        obtain ⟨p1, p2, p3⟩ := hp p (by simp)
        refine ⟨by rw [length_putL]; omega, by rw [length_putL]; omega, fun i v hi => ?_⟩
        rcases putL_get _ _ _ _ _ hi with ⟨e1, e2⟩ | e | ⟨e1, e2⟩
        · have hlt := (List.getElem?_eq_some_iff.1 e2).1
          exact .inr (.inl ⟨by omega, by omega, p3 v (List.mem_of_getElem? e2)⟩)
        · exact h3 i v e
        · exact .inr (.inr ⟨by omega, e2⟩)
      · exact h
    · intro x hx; exact hp x (by simp [hx])
theorem cut_all (c : UInt8) : ∀ (n off : Nat) (s : List UInt8), s.length = n → (∀ x ∈ s, x = c) → ∀ p ∈ cut off s, ∀ x ∈ p.2, x = c := by
  intro n
  induction n using Nat.strongRecOn with
  | _ n ih =>
    intro off s hs hx p hp
    by_cases h : s = []
    · subst h; simp [cut_nil] at hp
    · have hl : 0 < s.length := List.length_pos_iff.2 h
      rw [cut_step off s h] at hp
      rcases List.mem_cons.1 hp with rfl | hp
      · intro x hx2; exact hx x (List.mem_of_mem_take hx2)
      · exact ih (s.drop (min (64 - off % 64) s.length)).length (by simp; omega) _ _ rfl (fun x hx2 => hx x (List.mem_of_mem_drop hx2)) p hp
theorem putL_nil (a : List UInt8) : putL [] 0 a = a := by
  simp [putL, splice]
/-- the crash of DiskBytes -/
theorem bytes_state (a : List UInt8) (off n : Nat) (c : UInt8) (q : List Int) (ha : a.length ≤ 200) (ho : off ≤ 250) (hn : n ≤ 200) :
    DS.zero.writeR 0 a = 0 ∧ (DS.zero.write 0 a).syncR = 0 ∧ (DS.zero.write 0 a).sync.writeR off (List.replicate n c) = 0 ∧
    BytesOk a (List.replicate n c) off c (((DS.zero.write 0 a).sync.write off (List.replicate n c)).crash q).now := by
  have f1 : fits 0 a = true := by simp [fits]; omega
  have f2 : fits off (List.replicate n c) = true := by simp [fits]; omega
  have w1 : DS.zero.write 0 a = ⟨a, [], cut 0 a, 1, none⟩ := by simp [DS.write, f1, DS.zero, DS.off, DS.wrote, DS.counted, putL_nil]
  rw [w1]
  have w2 : (⟨a, [], cut 0 a, 1, none⟩ : DS).sync = ⟨a, a, [], 2, none⟩ := by simp [DS.sync, DS.off, DS.synced, DS.counted]
  rw [w2]
  refine ⟨by simp [DS.writeR, f1, DS.zero, DS.off], by simp [DS.syncR, DS.off], by simp [DS.writeR, f2, DS.off], ?_⟩
  have w3 : (⟨a, a, [], 2, none⟩ : DS).write off (List.replicate n c) = ⟨putL a off (List.replicate n c), a, cut off (List.replicate n c), 3, none⟩ := by
    simp [DS.write, f2, DS.off, DS.wrote, DS.counted]
  rw [w3]
  refine bytes_crash _ _ _ _ _ _ _ _ ⟨Nat.le_refl _, Nat.le_max_left _ _, fun i v hi => .inl ⟨(List.getElem?_eq_some_iff.1 hi).1, hi⟩⟩ fun p hp => ?_
  have := cut_mem _ _ _ rfl p hp
  exact ⟨this.1, this.2, cut_all c _ off _ rfl (fun x hx => (List.mem_replicate.1 hx).2) p hp⟩
#print axioms bytes_state
#print axioms synced_kept
end Go.Proofs.Ytmigbpfeobjhkaa
