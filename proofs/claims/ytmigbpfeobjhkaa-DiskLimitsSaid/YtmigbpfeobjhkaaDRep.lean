/-
  How a disk and its model lie in memory (DiskP, RefP), and what keeps them. No condition.
-/
import Derived.Test.YtmigbpfeobjhkaaDPut
namespace Go.Proofs.Ytmigbpfeobjhkaa
open Go Go.RowKit

theorem grow_lt {F : Nat → Prop} {w w' : World} (h : ∀ k, F k → k < w.heap.size) (hs : w.heap.size ≤ w'.heap.size) : ∀ k, grow F w w' k → k < w'.heap.size := by
  intro k hk
  rcases hk with hk | hk
  · have := h k hk; omega
  · exact hk.2

theorem Keeps.frozen {S : Nat → Prop} {w w' : World} (h : Keeps S w w') {p : Addr} (hl : p.block < w.heap.size) (hs : ¬ S p.block) (hf : w.frozen? p = false) : w'.frozen? p = false := by
  rw [World.frozen?_of_block (h.block _ hl hs)]; exact hf

/-- parts as cells -/
def pv (p : Nat × List UInt8) : List Value := [.int .i64 (p.1 : Int), .string (str p.2)]
def pvs (l : List (Nat × List UInt8)) : List Value := l.flatMap pv
theorem pvs_append (a b : List (Nat × List UInt8)) : pvs (a ++ b) = pvs a ++ pvs b := by simp [pvs]
theorem length_pvs (l : List (Nat × List UInt8)) : (pvs l).length = l.length * 2 := by
  induction l with
  | nil => rfl
  | cons p l ih => simp [pvs, pv] at ih ⊢; omega
theorem pvs_get (l : List (Nat × List UInt8)) (k : Nat) (h : k < l.length) : (pvs l)[k * 2]? = some (.int .i64 (l[k].1 : Int)) ∧ (pvs l)[k * 2 + 1]? = some (.string (str l[k].2)) := by
  induction l generalizing k with
  | nil => simp at h
  | cons p l ih =>
    cases k with
    | zero => simp [pvs, pv]
    | succ k =>
      have := ih k (by simpa using h)
      have e1 : (k + 1) * 2 = k * 2 + 2 := by omega
      rw [e1]
      simpa [pvs, pv] using this

/-- the power of the program's disk: 'power' and 'left' -/
def Power (lim : Option Nat) (p l : Int) : Prop := match lim with
  | none => p = 0
  | some k => p = 1 ∧ l = k

/-- the program's disk with header block b, within F -/
structure DiskAt (w : World) (b : Nat) (F : Nat → Prop) (s : DS) (nv sv lv : Value) (p l : Int) : Prop where
  head : w.heap[b]? = some (.cells #[nv, sv, lv, .int .i64 (s.calls : Int), .int .i64 p, .int .i64 l] 60 (0, 0))
  fb : F b
  now : w.ownsRow 0 5 1 nv s.now.length (bvs s.now)
  fnow : ∀ k, nv.ownBlock = some k → F k
  syn : w.ownsRow 0 5 1 sv s.syn.length (bvs s.syn)
  fsyn : ∀ k, sv.ownBlock = some k → F k
  parts : w.ownsRow 0 68 2 lv s.parts.length (pvs s.parts)
  fparts : ∀ k, lv.ownBlock = some k → F k
  ne : ∀ k, nv.ownBlock = some k → sv.ownBlock ≠ some k
  pow : Power s.lim p l
  lt : ∀ k, F k → k < w.heap.size

def DiskP (w : World) (b : Nat) (F : Nat → Prop) (s : DS) : Prop := ∃ nv sv lv p l, DiskAt w b F s nv sv lv p l

theorem DiskAt.keep {w w' : World} {b : Nat} {F S : Nat → Prop} {s : DS} {nv sv lv : Value} {p l : Int} (h : DiskAt w b F s nv sv lv p l) (hk : Keeps S w w') (hs : ∀ k, F k → ¬ S k) : DiskAt w' b F s nv sv lv p l where
  head := hk.heap h.head (hs _ h.fb)
  fb := h.fb
  now := hk.owns h.now fun k e => hs _ (h.fnow k e)
  fnow := h.fnow
  syn := hk.owns h.syn fun k e => hs _ (h.fsyn k e)
  fsyn := h.fsyn
  parts := hk.owns h.parts fun k e => hs _ (h.fparts k e)
  fparts := h.fparts
  ne := h.ne
  pow := h.pow
  lt := fun k hF => Nat.lt_of_lt_of_le (h.lt k hF) hk.size
theorem DiskP.keep {w w' : World} {b : Nat} {F S : Nat → Prop} {s : DS} (h : DiskP w b F s) (hk : Keeps S w w') (hs : ∀ k, F k → ¬ S k) : DiskP w' b F s := by
  obtain ⟨nv, sv, lv, p, l, h⟩ := h
  exact ⟨nv, sv, lv, p, l, h.keep hk hs⟩
theorem DiskP.lt {w : World} {b : Nat} {F : Nat → Prop} {s : DS} (h : DiskP w b F s) : ∀ k, F k → k < w.heap.size := by
  obtain ⟨nv, sv, lv, p, l, h⟩ := h; exact h.lt
theorem DiskP.fb {w : World} {b : Nat} {F : Nat → Prop} {s : DS} (h : DiskP w b F s) : F b := by
  obtain ⟨nv, sv, lv, p, l, h⟩ := h; exact h.fb

theorem DiskAt.scal {w w' : World} {b : Nat} {F : Nat → Prop} {s : DS} {nv sv lv : Value} {p l : Int} (h : DiskAt w b F s nv sv lv p l) (hk : Keeps (fun k => k = b) w w') (c' : Nat) (lim' : Option Nat) (p' l' : Int)
    (hh : w'.heap[b]? = some (.cells #[nv, sv, lv, .int .i64 (c' : Int), .int .i64 p', .int .i64 l'] 60 (0, 0))) (hp : Power lim' p' l') : DiskAt w' b (grow F w w') ⟨s.now, s.syn, s.parts, c', lim'⟩ nv sv lv p' l' where
  head := hh
  fb := .inl h.fb
  now := hk.owns h.now fun k e e2 => owns_ne_block h.now h.head (by decide) (e2 ▸ e)
  fnow := fun k e => .inl (h.fnow k e)
  syn := hk.owns h.syn fun k e e2 => owns_ne_block h.syn h.head (by decide) (e2 ▸ e)
  fsyn := fun k e => .inl (h.fsyn k e)
  parts := hk.owns h.parts fun k e e2 => owns_ne_block h.parts h.head (by decide) (e2 ▸ e)
  fparts := fun k e => .inl (h.fparts k e)
  ne := h.ne
  pow := hp
  lt := grow_lt h.lt hk.size

theorem DiskP.widen {w : World} {b : Nat} {F G : Nat → Prop} {s : DS} (h : DiskP w b F s) (hg : ∀ k, F k → G k) (hl : ∀ k, G k → k < w.heap.size) : DiskP w b G s := by
  obtain ⟨nv, sv, lv, p, l, h⟩ := h
  exact ⟨nv, sv, lv, p, l, { h with fb := hg _ h.fb, fnow := fun k e => hg _ (h.fnow k e), fsyn := fun k e => hg _ (h.fsyn k e), fparts := fun k e => hg _ (h.fparts k e), lt := hl }⟩

/-- the model of the law's package: 'Limit' and 'Left' -/
def RPower (lim : Option Nat) (c : Bool) (l : Int) : Prop := match lim with
  | none => c = false
  | some k => c = true ∧ l = k

structure RefAt (w : World) (b : Nat) (F : Nat → Prop) (s : DS) (lv : Value) (c : Bool) (l : Int) : Prop where
  head : w.heap[b]? = some (.cells #[.string (str s.now), .string (str s.syn), lv, .int .i64 (s.calls : Int), .int .i64 l, .bool c] 64 (0, 0))
  fb : F b
  parts : w.ownsRow 0 72 2 lv s.parts.length (pvs s.parts)
  fparts : ∀ k, lv.ownBlock = some k → F k
  pow : RPower s.lim c l
  lt : ∀ k, F k → k < w.heap.size

def RefP (w : World) (b : Nat) (F : Nat → Prop) (s : DS) : Prop := ∃ lv c l, RefAt w b F s lv c l
theorem RefAt.keep {w w' : World} {b : Nat} {F S : Nat → Prop} {s : DS} {lv : Value} {c : Bool} {l : Int} (h : RefAt w b F s lv c l) (hk : Keeps S w w') (hs : ∀ k, F k → ¬ S k) : RefAt w' b F s lv c l where
  head := hk.heap h.head (hs _ h.fb)
  fb := h.fb
  parts := hk.owns h.parts fun k e => hs _ (h.fparts k e)
  fparts := h.fparts
  pow := h.pow
  lt := fun k hF => Nat.lt_of_lt_of_le (h.lt k hF) hk.size
theorem RefP.keep {w w' : World} {b : Nat} {F S : Nat → Prop} {s : DS} (h : RefP w b F s) (hk : Keeps S w w') (hs : ∀ k, F k → ¬ S k) : RefP w' b F s := by
  obtain ⟨lv, c, l, h⟩ := h
  exact ⟨lv, c, l, h.keep hk hs⟩
theorem RefP.lt {w : World} {b : Nat} {F : Nat → Prop} {s : DS} (h : RefP w b F s) : ∀ k, F k → k < w.heap.size := by
  obtain ⟨lv, c, l, h⟩ := h; exact h.lt
theorem RefP.fb {w : World} {b : Nat} {F : Nat → Prop} {s : DS} (h : RefP w b F s) : F b := by
  obtain ⟨lv, c, l, h⟩ := h; exact h.fb

end Go.Proofs.Ytmigbpfeobjhkaa
