/-
  Words on worlds, over any program: 'Keeps S w w'' (only blocks of S, and new ones, differ), what is owned stays owned under it, and laws for copy and for string conversion at an owned slice. No condition.
-/
import Derived.WalkKit
import Derived.WalkSpells
import Derived.WalkLawsBesides
import Derived.Laws.CopyOwn
import Derived.Maps.AppendAt
import Derived.Lib.Hide
namespace Go.Proofs.YthlkgmdkabelpaaGreatDoor
open Go Go.RowKit

/-- A byte as a cell. -/
def bv (x : UInt8) : Value := .int .u8 (x.toNat : Int)
/-- Bytes as cells. -/
def bvs (l : List UInt8) : List Value := l.map bv
theorem length_bvs (l : List UInt8) : (bvs l).length = l.length := by simp [bvs]
/-- A string of bytes. -/
def str (l : List UInt8) : ByteArray := ⟨l.toArray⟩
theorem str_data (s : ByteArray) : str s.data.toList = s := rfl
theorem size_str (l : List UInt8) : (str l).size = l.length := by simp [str, ByteArray.size]
theorem toList_str (l : List UInt8) : (str l).toList = l := ByteArray.toList_mk l
theorem size_data (s : ByteArray) : s.data.toList.length = s.size := Array.length_toList
theorem data_str (l : List UInt8) : (str l).data.toList = l := by simp [str]

/-- Outside S, and below what the heap held, w' is as w. -/
structure Keeps (S : Nat → Prop) (w w' : World) : Prop where
  os : w'.os = w.os
  tape : w'.tape = w.tape
  output : w'.output = w.output
  size : w.heap.size ≤ w'.heap.size
  block : ∀ k, k < w.heap.size → ¬ S k → w'.heap[k]? = w.heap[k]?

def noBlock : Nat → Prop := fun _ => False
/-- S, and the blocks that are new in w'. -/
def grow (S : Nat → Prop) (w w' : World) : Nat → Prop := fun k => S k ∨ (w.heap.size ≤ k ∧ k < w'.heap.size)

theorem Keeps.refl (S : Nat → Prop) (w : World) : Keeps S w w := ⟨rfl, rfl, rfl, Nat.le_refl _, fun _ _ _ => rfl⟩
theorem Keeps.mono {S T : Nat → Prop} {w w' : World} (h : Keeps S w w') (hst : ∀ k, k < w.heap.size → S k → T k) : Keeps T w w' :=
  ⟨h.os, h.tape, h.output, h.size, fun k hk hn => h.block k hk (fun hs => hn (hst k hk hs))⟩
theorem Keeps.trans' {S T : Nat → Prop} {a b c : World} (h : Keeps S a b) (k : Keeps T b c) (ht : ∀ k, k < a.heap.size → T k → S k) : Keeps S a c :=
  ⟨k.os.trans h.os, k.tape.trans h.tape, k.output.trans h.output, Nat.le_trans h.size k.size, fun i hi hn => (k.block i (Nat.lt_of_lt_of_le hi h.size) (fun x => hn (ht i hi x))).trans (h.block i hi hn)⟩
theorem Keeps.trans {S : Nat → Prop} {a b c : World} (h : Keeps S a b) (k : Keeps S b c) : Keeps S a c := h.trans' k (fun _ _ h => h)
theorem Keeps.alloc {S : Nat → Prop} {a w : World} (h : Keeps S a w) (o : Obj) : Keeps S a (w.alloc o) :=
  h.trans ⟨rfl, rfl, rfl, by simp, fun k hk _ => Below.heap_alloc _ _ _ hk⟩
theorem Keeps.drew {S : Nat → Prop} {a w : World} (h : Keeps S a w) : Keeps S a w.drew := ⟨h.os, h.tape, h.output, h.size, h.block⟩
theorem Keeps.setCell {S : Nat → Prop} {a w : World} (h : Keeps S a w) {p : Addr} (hp : p.block < a.heap.size → S p.block) (u : Value) : Keeps S a (w.setCell p u) :=
  ⟨h.os, h.tape, h.output, by simpa [World.setCell] using h.size, fun k hk hn => by
    rw [Below.heap_setCell _ _ _ _ (fun e => by subst e; exact hn (hp hk))]; exact h.block k hk hn⟩
theorem Keeps.grown {S : Nat → Prop} {a w w' : World} {row : Option Nat} (h : Keeps S a w) (hg : w.grownBy w' row) (hr : ∀ k, row = some k → k < a.heap.size → S k) : Keeps S a w' :=
  h.trans' (T := fun k => row = some k) ⟨hg.os, hg.tape, hg.output, hg.size, fun k hk hn => hg.block k hk (fun e => hn e.symm)⟩ (fun k hk e => hr k e hk)
theorem Keeps.below {S : Nat → Prop} {w w' : World} {B : Nat} (h : Keeps S w w') (hB : B ≤ w.heap.size) (hS : ∀ k, k < B → ¬ S k) : Below B w w' :=
  ⟨h.os, h.tape, h.output, h.size, fun k hk => h.block k (Nat.lt_of_lt_of_le hk hB) (hS k hk)⟩
theorem Keeps.cell {S : Nat → Prop} {w w' : World} (h : Keeps S w w') {p : Addr} {v : Value} (hv : w.cell? p = some v) (hs : ¬ S p.block) : w'.cell? p = some v := by
  rw [World.cell?_of_block (h.block _ (World.block_lt_of_cell? w p hv) hs)]; exact hv
theorem Keeps.heap {S : Nat → Prop} {w w' : World} (h : Keeps S w w') {k : Nat} {o : Obj} (hv : w.heap[k]? = some o) (hs : ¬ S k) : w'.heap[k]? = some o := by
  rw [h.block _ (Array.getElem?_eq_some_iff.1 hv).1 hs]; exact hv
theorem lt_of_heap {w : World} {k : Nat} {o : Obj} (h : w.heap[k]? = some o) : k < w.heap.size := (Array.getElem?_eq_some_iff.1 h).1

theorem cell_of_heap {w : World} {b : Nat} {cs : Array Value} {t : TypeId} {f : Nat × Nat} (h : w.heap[b]? = some (.cells cs t f)) (i : Nat) : w.cell? ⟨b, i, none⟩ = cs[i]? := by
  simp [World.cell?, h]
theorem frozen_of_heap {w : World} {b : Nat} {cs : Array Value} {t : TypeId} (h : w.heap[b]? = some (.cells cs t (0, 0))) (i : Nat) : w.frozen? ⟨b, i, none⟩ = false := by
  simp [World.frozen?, h]
theorem heap_set {w : World} {b i : Nat} {cs : Array Value} {t : TypeId} {v : Value} (h : w.heap[b]? = some (.cells cs t (0, 0))) : (w.setCell ⟨b, i, none⟩ v).heap[b]? = some (.cells (cs.setIfInBounds i v) t (0, 0)) :=
  heap_setCell_same w b i cs t v h
theorem heap_alloc_at {w : World} {o : Obj} : (w.alloc o).heap[w.heap.size]? = some o := by
  show (w.heap.push o)[w.heap.size]? = _
  simp

theorem own_slice {g o n c k : Nat} {s : Option Nat} : (Value.slice (some ⟨g, o, s⟩) n c).ownBlock = some k ↔ k = g := by
  simp only [Value.ownBlock, Option.some.injEq]; exact eq_comm
theorem own_none {n c k : Nat} : (Value.slice none n c).ownBlock = some k ↔ False := by simp [Value.ownBlock]

/-- An owned slice under another world in which its block is the same. -/
theorem owns_of_block {w w' : World} {base : Nat} {e : TypeId} {size : Nat} {v : Value} {n : Nat} {xs : List Value} (h : w.ownsRow base e size v n xs) (hb : ∀ k, v.ownBlock = some k → w'.heap[k]? = w.heap[k]?) : w'.ownsRow base e size v n xs := by
  refine ⟨h.1, ?_⟩
  rcases h.2 with hn | ⟨g, cap, cur, rfl, hbg, hg, rest⟩
  · exact .inl hn
  · exact .inr ⟨g, cap, cur, rfl, hbg, by rw [hb g rfl]; exact hg, rest⟩
theorem Keeps.owns {S : Nat → Prop} {w w' : World} {base : Nat} {e : TypeId} {size : Nat} {v : Value} {n : Nat} {xs : List Value} (hk : Keeps S w w') (h : w.ownsRow base e size v n xs) (hs : ∀ k, v.ownBlock = some k → ¬ S k) : w'.ownsRow base e size v n xs :=
  owns_of_block h fun k e => hk.block k (h.lt k e).2 (hs k e)
/-- The value of an owned slice: none, or at the head of its block. -/
theorem owns_form {w : World} {base : Nat} {e : TypeId} {size : Nat} {v : Value} {n : Nat} {xs : List Value} (h : w.ownsRow base e size v n xs) :
    ∃ o cap, v = .slice o n cap ∧ n ≤ cap ∧ cap ≤ maxLen ∧ ((o = none ∧ n = 0 ∧ cap = 0) ∨ ∃ g cur, o = some ⟨g, 0, none⟩ ∧ w.heap[g]? = some (.cells cur e (0, 0)) ∧ cur.size = cap * size ∧ cur.toList.take (n * size) = xs) := by
  rcases h.2 with ⟨rfl, rfl⟩ | ⟨g, cap, cur, rfl, _, hg, h1, h2, h3, h4⟩
  · exact ⟨none, 0, rfl, Nat.le_refl _, by simp [maxLen], .inl ⟨rfl, rfl, rfl⟩⟩
  · exact ⟨_, cap, rfl, h1, h2, .inr ⟨g, cur, rfl, hg, h3, h4⟩⟩
theorem addr_add (g o j : Nat) : (⟨g, o, none⟩ : Addr).add j = ⟨g, o + j, none⟩ := by
  simp only [Addr.add]; split
  · simp
  · rfl
/-- Two owned slices of different element types lie in different blocks. -/
theorem owns_ne {w : World} {e1 e2 s1 s2 n1 n2 b1 b2 : Nat} {v1 v2 : Value} {x1 x2 : List Value} (h1 : w.ownsRow b1 e1 s1 v1 n1 x1) (h2 : w.ownsRow b2 e2 s2 v2 n2 x2) (hne : e1 ≠ e2) {k : Nat} (hk : v1.ownBlock = some k) : v2.ownBlock ≠ some k := by
  intro hk2
  rcases h1.2 with ⟨rfl, _⟩ | ⟨g, cap, cur, rfl, _, hg, _⟩
  · simp [Value.ownBlock] at hk
  · rcases h2.2 with ⟨rfl, _⟩ | ⟨g2, cap2, cur2, rfl, _, hg2, _⟩
    · simp [Value.ownBlock] at hk2
    · simp only [Value.ownBlock, Option.some.injEq] at hk hk2
      subst hk; subst hk2
      rw [hg] at hg2; simp at hg2; exact hne hg2.2
theorem owns_ne_block {w : World} {e1 s1 n1 b1 b : Nat} {v1 : Value} {x1 : List Value} {cs : Array Value} {t : TypeId} {f : Nat × Nat} (h1 : w.ownsRow b1 e1 s1 v1 n1 x1) (h2 : w.heap[b]? = some (.cells cs t f)) (hne : e1 ≠ t) : v1.ownBlock ≠ some b := by
  intro hk2
  rcases h1.2 with ⟨rfl, _⟩ | ⟨g, cap, cur, rfl, _, hg, _⟩
  · simp [Value.ownBlock] at hk2
  · simp only [Value.ownBlock, Option.some.injEq] at hk2
    subst hk2
    rw [hg] at h2; simp at h2; exact hne h2.2.1
theorem owns_cells {w : World} {base e : Nat} {o : Option Addr} {n m cap : Nat} {xs : List Value} (h : w.ownsRow base e 1 (.slice o n cap) m xs) (g : Addr) (hg : o = some g) (j : Nat) (v : Value) (hv : xs[j]? = some v) : w.cell? (g.add j) = some v := by
  subst hg
  rcases h.2 with ⟨h0, _⟩ | ⟨g', cap', cur, h0, hb, hh, r⟩
  · cases h0
  · simp only [Value.slice.injEq, Option.some.injEq] at h0
    obtain ⟨rfl, rfl, rfl⟩ := h0
    exact h.cells (g := g') rfl j v hv

theorem oneCell_bvs (l : List UInt8) : ∀ v ∈ bvs l, v.oneCell' = true := by
  intro v hv
  simp only [bvs, List.mem_map] at hv
  obtain ⟨x, _, rfl⟩ := hv
  rfl
theorem bvs_append (a b : List UInt8) : bvs (a ++ b) = bvs a ++ bvs b := by simp [bvs]
theorem bvs_splice (a : List UInt8) (off : Nat) (b : List UInt8) : bvs (splice a off b) = splice (bvs a) off (bvs b) := by
  simp [bvs, splice, List.map_take, List.map_drop]
theorem bvs_zeros (n : Nat) : (madeCells (Value.int .u8 0).cells n).toList = bvs (List.replicate n 0) := by
  have : (Value.int .u8 0).cells = #[.int .u8 0] := rfl
  rw [this, toList_madeCells_one]
  simp [bvs, bv]

/-- Where 's[off:]' begins: at the row's head if nothing is left. -/
def cutA (o : Option Addr) (cap off : Nat) : Option Addr := if cap = off then o else o.map (fun a => a.add off)
theorem cutA_some {o : Option Addr} {cap off : Nat} {g : Nat} (ho : o = some ⟨g, 0, none⟩) (h : off < cap) : cutA o cap off = some ⟨g, off, none⟩ := by
  subst ho
  unfold cutA
  rw [if_neg (by omega)]
  simp only [Option.map_some, Addr.add]
  split
  · rename_i h0; simp [h0]
  · simp
theorem run_slice_from {P : Program} (t e : TypeId) (hu : P.underlying t = some (.slice e)) (hsz : (P.info? e).map (·.size) = some 1) (o : Option Addr) (n cap off : Nat) (k : IntKind) (h : off ≤ n) (w : World) :
    (Instr.slice t (.slice o n cap) (some (.int k (off : Int))) none none).run P w = .ok (.slice (cutA o cap off) (n - off) (cap - off)) w := by
  cases hq : P.info? e with
  | none => simp [hq] at hsz
  | some i =>
    have hi : i.size = 1 := by simpa [hq] using hsz
    have hle : (off : Int) ≤ n := by omega
    simp [Instr.slice, run_underlying hu, Instr.sliceBounds, Instr.sliceBound, asIntOf, sizeOf, typeInfo, hq, hi, cutA]
    intro hh; omega

theorem run_slice_to {P : Program} (t e : TypeId) (hu : P.underlying t = some (.slice e)) (hsz : (P.info? e).map (·.size) = some 1) (o : Option Addr) (n cap up : Nat) (k : IntKind) (h : up ≤ cap) (w : World) :
    (Instr.slice t (.slice o n cap) none (some (.int k (up : Int))) none).run P w = .ok (.slice o up cap) w := by
  cases hq : P.info? e with
  | none => simp [hq] at hsz
  | some i =>
    have hi : i.size = 1 := by simpa [hq] using hsz
    have hle : (up : Int) ≤ cap := by omega
    have ha : (Option.map (fun x : Addr => x.add 0) o) = o := by cases o <;> simp [Addr.add]
    simp [Instr.slice, run_underlying hu, Instr.sliceBounds, Instr.sliceBound, asIntOf, sizeOf, typeInfo, hq, ha]
    intro hh; omega

theorem extract_str (l : List UInt8) (a b : Nat) : (str l).extract a b = str ((l.drop a).take (b - a)) := ByteArray.extract_mk l a b
theorem run_slice_str_to {P : Program} (t : TypeId) (hu : P.underlying t = some .string) (l : List UInt8) (k : IntKind) (n : Nat) (h : n ≤ l.length) (w : World) :
    (Instr.slice t (.string (str l)) none (some (.int k (n : Int))) none).run P w = .ok (.string (str (l.take n))) w := by
  have hs := size_str l
  have hle : (n : Int) ≤ l.length := by omega
  simp [Instr.slice, run_underlying hu, Instr.sliceBounds, Instr.sliceBound, asIntOf, hs, extract_str]
  intro hh; omega
theorem run_slice_str_from {P : Program} (t : TypeId) (hu : P.underlying t = some .string) (l : List UInt8) (k : IntKind) (n : Nat) (h : n ≤ l.length) (w : World) :
    (Instr.slice t (.string (str l)) (some (.int k (n : Int))) none none).run P w = .ok (.string (str (l.drop n))) w := by
  have hs := size_str l
  have hle : (n : Int) ≤ l.length := by omega
  have ht : List.take (l.length - n) (List.drop n l) = List.drop n l := List.take_of_length_le (by simp)
  simp [Instr.slice, run_underlying hu, Instr.sliceBounds, Instr.sliceBound, asIntOf, hs, extract_str]
  rw [if_pos h, ht]
theorem run_slice_str {P : Program} (t : TypeId) (hu : P.underlying t = some .string) (l : List UInt8) (k k' : IntKind) (m n : Nat) (hm : m ≤ n) (h : n ≤ l.length) (w : World) :
    (Instr.slice t (.string (str l)) (some (.int k (m : Int))) (some (.int k' (n : Int))) none).run P w = .ok (.string (str ((l.drop m).take (n - m)))) w := by
  have hs := size_str l
  have hle : (n : Int) ≤ l.length := by omega
  have hle2 : (m : Int) ≤ n := by omega
  simp [Instr.slice, run_underlying hu, Instr.sliceBounds, Instr.sliceBound, asIntOf, hs, extract_str, h, hm, Sem.run_bind]

theorem str_append (a b : List UInt8) : str a ++ str b = str (a ++ b) := ByteArray.mk_append_mk a b
theorem run_add_str {P : Program} (a b : List UInt8) (h : a.length + b.length ≤ 9223372036854775807) (w : World) : (Op.stringOp .add (str a) (str b)).run P w = .ok (.string (str (a ++ b))) w := by
  rw [run_string_add_sum w (str a) (str b) (by rw [size_str, size_str]; exact h), str_append]

section copy
variable {P : Program}

theorem run_copy_src (w : World) (dT sT ty elem : TypeId) (g off dLen dCap : Nat) (src : Value) (n : Nat) (cur : Array Value) (t : TypeId) (cs : List Value)
    (hu : P.underlying dT = some (.slice elem)) (hs : (P.info? elem).map (·.size) = some 1) (hg : w.heap[g]? = some (.cells cur t (0, 0)))
    (hlen : (Builtin.lenOf src).run P w = .ok n w) (hfirst : (Builtin.firstCells 1 (Nat.min n dLen) src).run P w = .ok cs.toArray w)
    (hn : cs.length = Nat.min n dLen) (hfit : off + cs.length ≤ cur.size) (h1 : ∀ v ∈ cs, v.oneCell' = true) :
    (Builtin.copy_ #[dT, sT] ty #[.slice (some ⟨g, off, none⟩) dLen dCap, src]).run P w =
      .ok (goInt cs.length) (w.setRow g (cur.toList.take off ++ cs ++ cur.toList.drop (off + cs.length)).toArray) := by
  have hst := run_storeCells_at P g off t cs 0 cur w hg (by simpa using hfit) h1
  cases hq : P.info? elem with
  | none => simp [hq] at hs
  | some i =>
    have hi : i.size = 1 := by simpa [hq] using hs
    rw [← hn] at hfirst
    simp [Builtin.copy_, run_underlying hu, hlen, sizeOf, typeInfo, hq, hi, ← hn, hfirst, hst]

theorem run_copy_zero (w : World) (dT sT ty elem : TypeId) (dp : Option Addr) (dLen dCap : Nat) (src : Value) (n : Nat)
    (hu : P.underlying dT = some (.slice elem)) (hs : (P.info? elem).map (·.size) = some 1)
    (hlen : (Builtin.lenOf src).run P w = .ok n w) (hfirst : (Builtin.firstCells 1 0 src).run P w = .ok #[] w) (hn : Nat.min n dLen = 0) :
    (Builtin.copy_ #[dT, sT] ty #[.slice dp dLen dCap, src]).run P w = .ok (goInt 0) w := by
  cases hq : P.info? elem with
  | none => simp [hq] at hs
  | some i =>
    have hi : i.size = 1 := by simpa [hq] using hs
    cases dp with
    | none => simp [Builtin.copy_, run_underlying hu, hlen, sizeOf, typeInfo, hq, hi, hn, hfirst]
    | some d => simp [Builtin.copy_, run_underlying hu, hlen, sizeOf, typeInfo, hq, hi, hn, hfirst, storeCells]

/-- What a copy reads: a string's bytes, or a slice's cells. -/
def CopySrc (w : World) (src : Value) (n : Nat) (cs : List Value) : Prop :=
  (∃ s : ByteArray, src = .string s ∧ n = s.size ∧ ∃ k, cs = (bvs s.data.toList).take k) ∨
  (∃ (sp : Option Addr) (c : Nat), src = .slice sp n c ∧ (0 < cs.length → ∃ ad, sp = some ad ∧ ∀ j v, cs[j]? = some v → w.cell? (ad.add j) = some v))

theorem CopySrc.run {w : World} {src : Value} {n k : Nat} {cs : List Value} (h : CopySrc w src n cs) (hk : cs.length = Nat.min n k) :
    (Builtin.lenOf src).run P w = .ok n w ∧ (Builtin.firstCells 1 cs.length src).run P w = .ok cs.toArray w := by
  rcases h with ⟨s, rfl, rfl, j, rfl⟩ | ⟨sp, c, rfl, h⟩
  · refine ⟨by simp [Builtin.lenOf], ?_⟩
    simp only [Builtin.firstCells, bvs, List.length_take, List.length_map, Array.length_toList, Sem.run_pure]
    congr 1
    apply Array.ext'
    simp only [Array.toList_map, ByteArray.data_extract, Array.toList_extract, List.extract_eq_take_drop, Nat.sub_zero, List.drop_zero, List.map_take]
    change List.take (min j s.data.size) (List.map bv s.data.toList) = List.take j (List.map bv s.data.toList)
    rw [List.take_eq_take_iff]
    simp only [List.length_map, Array.length_toList]
    omega
  · refine ⟨by simp [Builtin.lenOf], ?_⟩
    by_cases h0 : cs.length = 0
    · obtain rfl : cs = [] := List.eq_nil_of_length_eq_zero h0
      cases sp with
      | none => simp [Builtin.firstCells]
      | some a => simp [Builtin.firstCells, loadCells, loadCellsFrom]
    · obtain ⟨ad, rfl, hc⟩ := h (by omega)
      have hl := run_loadCells_list (P := P) w ad cs hc
      simp [Builtin.firstCells, hl]

theorem CopySrc.of_owns {w : World} {base e : Nat} {o : Option Addr} {n c : Nat} {xs : List Value} (h : w.ownsRow base e 1 (.slice o n c) n xs) : CopySrc w (.slice o n c) n xs := by
  refine .inr ⟨o, c, rfl, fun hp => ?_⟩
  have hx := h.1
  simp only [Nat.mul_one] at hx
  rcases h.2 with ⟨h0, rfl⟩ | ⟨g, cap', cur, h0, _⟩
  · omega
  · simp only [Value.slice.injEq] at h0
    obtain ⟨rfl, _⟩ := h0
    exact ⟨_, rfl, fun j v hv => owns_cells h _ rfl j v hv⟩
theorem CopySrc.of_str (w : World) (s : ByteArray) : CopySrc w (.string s) s.size (bvs s.data.toList) :=
  .inl ⟨s, rfl, rfl, s.data.toList.length, by rw [List.take_of_length_le (by simp [bvs])]⟩

theorem take_setmid {α : Type} (L : List α) (N off : Nat) (cs : List α) (h : off + cs.length ≤ N) (hN : N ≤ L.length) :
    (L.take off ++ cs ++ L.drop (off + cs.length)).take N = splice (L.take N) off cs := by
  unfold splice
  apply List.ext_getElem?
  intro j
  simp only [List.getElem?_take, List.getElem?_append, List.getElem?_drop, List.length_take, List.length_append]
  by_cases h1 : j < N
  · rw [if_pos h1]
    by_cases h2 : j < off
    · rw [if_pos (by omega), if_pos (by omega), if_pos h2, if_pos (by omega), if_pos h2, if_pos h1]
    · by_cases h3 : j < off + cs.length
      · rw [if_pos (by omega), if_neg (by omega), if_neg (by omega), if_pos (by omega)]
        congr 1; omega
      · rw [if_neg (by omega), if_neg (by omega), if_neg (by omega), if_pos (by omega)]
        congr 1; omega
  · rw [if_neg h1]
    by_cases h3 : j < min off (min N L.length)
    · omega
    · rw [if_neg (by omega), if_neg (by omega), if_neg (by omega)]

/-- 'copy(c[off:], src)', c an owned slice: as many cells as fit go over. -/
theorem run_copy_into (w : World) (dT sT ty elem : TypeId) (hu : P.underlying dT = some (.slice elem)) (hsz : (P.info? elem).map (·.size) = some 1)
    (dp : Option Addr) (dLen dCap : Nat) (src : Value)
    (base e : Nat) (cv : Value) (N : Nat) (xs : List Value) (hown : w.ownsRow base e 1 cv N xs) (off n : Nat) (cs : List Value) (hn : cs.length = Nat.min n dLen)
    (hsrc : CopySrc w src n cs) (hpos : 0 < cs.length → ∃ g, cv.ownBlock = some g ∧ dp = some ⟨g, off, none⟩)
    (hfit : off + cs.length ≤ N) (h1 : ∀ v ∈ cs, v.oneCell' = true) :
    ∃ w', (Builtin.copy_ #[dT, sT] ty #[.slice dp dLen dCap, src]).run P w = .ok (.int .i64 (cs.length : Int)) w' ∧ w'.ownsRow base e 1 cv N (splice xs off cs) ∧ Keeps (fun k => cv.ownBlock = some k) w w' := by
  obtain ⟨r1, r2⟩ := hsrc.run (P := P) hn
  by_cases h0 : cs.length = 0
  · obtain rfl : cs = [] := List.eq_nil_of_length_eq_zero h0
    have hrun := run_copy_zero (P := P) w dT sT ty elem dp dLen dCap src n hu hsz r1 (by simpa using r2) (by simpa using hn.symm)
    refine ⟨w, hrun, ?_, Keeps.refl _ _⟩
    have : splice xs off [] = xs := by simp [splice]
    rw [this]; exact hown
  · obtain ⟨g, hcv, rfl⟩ := hpos (by omega)
    rcases hown.2 with ⟨rfl, _⟩ | ⟨g', cap, cur, rfl, hb, hg, hnc, hcm, hcs, htake⟩
    · simp [Value.ownBlock] at hcv
    · simp only [Value.ownBlock, Option.some.injEq] at hcv
      subst hcv
      simp only [Nat.mul_one] at hcs htake
      have hrun := run_copy_src (P := P) w dT sT ty elem g' off dLen dCap src n cur e cs hu hsz hg r1 (by rw [← hn]; exact r2) hn (by omega) h1
      refine ⟨_, hrun, ⟨?_, .inr ⟨g', cap, _, rfl, hb, setRow_heap w g' cur _ e _ hg, hnc, hcm, ?_, ?_⟩⟩, ⟨rfl, rfl, rfl, by simp, fun k _ hk => setRow_other w g' k _ (fun e => hk (by simp [Value.ownBlock, e]))⟩⟩
      · have hx := hown.1
        simp only [Nat.mul_one] at hx
        rw [length_splice _ _ _ (by omega)]; simpa using hx
      · simp only [List.size_toArray, List.length_append, List.length_take, List.length_drop, Array.length_toList]
        omega
      · simp only [Nat.mul_one]
        rw [← htake]
        have := take_setmid cur.toList N off cs (by omega) (by simp; omega)
        simpa using this
end copy

/-- 'string(b)' at an owned row of bytes, cut from off to off + l.length. -/
theorem run_string_of {P : Program} (w : World) (src dst e : TypeId) (a : Option Addr) (n cap : Nat) (l : List UInt8) (hs : P.underlying src = some (.slice e)) (he : P.underlying e = some (.int .u8)) (hd : P.underlying dst = some .string)
    (hn : n = l.length) (hc : 0 < l.length → ∃ ad, a = some ad ∧ ∀ j (hj : j < l.length), w.cell? (ad.add j) = some (bv l[j])) :
    (convert src dst (.slice a n cap)).run P w = .ok (.string (str l)) w := by
  subst hn
  by_cases h0 : l.length = 0
  · obtain rfl : l = [] := List.eq_nil_of_length_eq_zero h0
    cases a with
    | none => rw [run_convert_bytes_string w src dst e none _ cap hs he hd]; rfl
    | some ad => exact run_convert_bytes_back w src dst e ad cap [] hs he hd (fun j hj => by simp at hj)
  · obtain ⟨ad, had, hx⟩ := hc (by omega)
    subst had
    clear hc
    exact run_convert_bytes_back w src dst e ad cap l hs he hd hx

#print axioms run_copy_into
#print axioms run_string_of
end Go.Proofs.YthlkgmdkabelpaaGreatDoor
