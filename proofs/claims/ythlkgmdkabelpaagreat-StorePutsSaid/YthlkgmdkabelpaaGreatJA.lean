/-
  Words on worlds, over any program: 'Keeps S w w'' (only blocks of S, and new ones, differ), what is owned stays owned under it, and laws for copy and for string conversion at an owned slice.
  The plain model of SHA-256 over bits: words, the schedule, the rounds, the padding, and the hash as bytes; and a strict form of it that the kernel can reckon. No program in sight; no condition.
  No condition.
-/
import Derived.WalkKit
import Derived.WalkSpells
import Derived.WalkLawsBesides
import Derived.Laws.CopyOwn
import Derived.Maps.AppendAt
import Derived.Lib.Hide
set_option linter.all false
set_option linter.unusedVariables false
set_option linter.unusedSimpArgs false
namespace Go.Proofs.YthlkgmdkabelpaaGreat
open Go Go.RowKit
def bv (x : UInt8) : Value := .int .u8 (x.toNat : Int)
def bvs (l : List UInt8) : List Value := l.map bv
theorem length_bvs (l : List UInt8) : (bvs l).length = l.length := by simp [bvs]
def str (l : List UInt8) : ByteArray := ⟨l.toArray⟩
theorem str_data (s : ByteArray) : str s.data.toList = s := rfl
theorem size_str (l : List UInt8) : (str l).size = l.length := by simp [str, ByteArray.size]
theorem toList_str (l : List UInt8) : (str l).toList = l := ByteArray.toList_mk l
theorem size_data (s : ByteArray) : s.data.toList.length = s.size := Array.length_toList
theorem data_str (l : List UInt8) : (str l).data.toList = l := by simp [str]
structure Keeps (S : Nat → Prop) (w w' : World) : Prop where
  os : w'.os = w.os
  tape : w'.tape = w.tape
  output : w'.output = w.output
  size : w.heap.size ≤ w'.heap.size
  block : ∀ k, k < w.heap.size → ¬ S k → w'.heap[k]? = w.heap[k]?
def noBlock : Nat → Prop := fun _ => False
def grow (S : Nat → Prop) (w w' : World) : Nat → Prop := fun k => S k ∨ (w.heap.size ≤ k ∧ k < w'.heap.size)
theorem Keeps.refl (S : Nat → Prop) (w : World) : Keeps S w w := ⟨rfl, rfl, rfl, Nat.le_refl _, fun _ _ _ => rfl⟩
theorem Keeps.mono {S T : Nat → Prop} {w w' : World} (h : Keeps S w w') (hst : ∀ k, k < w.heap.size → S k → T k) : Keeps T w w' :=
  ⟨h.os, h.tape, h.output, h.size, fun k hk hn => h.block k hk (fun hs => hn (hst k hk hs))⟩
theorem Keeps.trans' {S T : Nat → Prop} {a b c : World} (h : Keeps S a b) (k : Keeps T b c) (ht : ∀ k, k < a.heap.size → T k → S k) : Keeps S a c :=
  ⟨k.os.trans h.os, k.tape.trans h.tape, k.output.trans h.output, Nat.le_trans h.size k.size, fun i hi hn => (k.block i (Nat.lt_of_lt_of_le hi h.size) (fun x => hn (ht i hi x))).trans (h.block i hi hn)⟩
theorem Keeps.trans {S : Nat → Prop} {a b c : World} (h : Keeps S a b) (k : Keeps S b c) : Keeps S a c := h.trans' k (fun _ _ h => h)
theorem Keeps.alloc {S : Nat → Prop} {a w : World} (h : Keeps S a w) (o : Obj) : Keeps S a (w.alloc o) :=
  h.trans ⟨rfl, rfl, rfl, by simp, fun k hk _ => Below.heap_alloc _ _ _ hk⟩
theorem Keeps.drew {S : Nat → Prop} {a w : World} (h : Keeps S a w) : Keeps S a w.drew := ⟨h.os, h.tape, h.output, h.size, h.block⟩
theorem Keeps.setCell {S : Nat → Prop} {a w : World} (h : Keeps S a w) {p : Addr} (hp : p.block < a.heap.size → S p.block) (u : Value) : Keeps S a (w.setCell p u) :=
  ⟨h.os, h.tape, h.output, by simpa [World.setCell] using h.size, fun k hk hn => by
    rw [Below.heap_setCell _ _ _ _ (fun e => by subst e; exact hn (hp hk))]; exact h.block k hk hn⟩
theorem Keeps.grown {S : Nat → Prop} {a w w' : World} {row : Option Nat} (h : Keeps S a w) (hg : w.grownBy w' row) (hr : ∀ k, row = some k → k < a.heap.size → S k) : Keeps S a w' :=
  h.trans' (T := fun k => row = some k) ⟨hg.os, hg.tape, hg.output, hg.size, fun k hk hn => hg.block k hk (fun e => hn e.symm)⟩ (fun k hk e => hr k e hk)
theorem Keeps.below {S : Nat → Prop} {w w' : World} {B : Nat} (h : Keeps S w w') (hB : B ≤ w.heap.size) (hS : ∀ k, k < B → ¬ S k) : Below B w w' :=
  ⟨h.os, h.tape, h.output, h.size, fun k hk => h.block k (Nat.lt_of_lt_of_le hk hB) (hS k hk)⟩
theorem Keeps.cell {S : Nat → Prop} {w w' : World} (h : Keeps S w w') {p : Addr} {v : Value} (hv : w.cell? p = some v) (hs : ¬ S p.block) : w'.cell? p = some v := by
  rw [World.cell?_of_block (h.block _ (World.block_lt_of_cell? w p hv) hs)]; exact hv
theorem Keeps.heap {S : Nat → Prop} {w w' : World} (h : Keeps S w w') {k : Nat} {o : Obj} (hv : w.heap[k]? = some o) (hs : ¬ S k) : w'.heap[k]? = some o := by
  rw [h.block _ (Array.getElem?_eq_some_iff.1 hv).1 hs]; exact hv
theorem lt_of_heap {w : World} {k : Nat} {o : Obj} (h : w.heap[k]? = some o) : k < w.heap.size := (Array.getElem?_eq_some_iff.1 h).1
theorem cell_of_heap {w : World} {b : Nat} {cs : Array Value} {t : TypeId} {f : Nat × Nat} (h : w.heap[b]? = some (.cells cs t f)) (i : Nat) : w.cell? ⟨b, i, none⟩ = cs[i]? := by
  simp [World.cell?, h]
theorem frozen_of_heap {w : World} {b : Nat} {cs : Array Value} {t : TypeId} (h : w.heap[b]? = some (.cells cs t (0, 0))) (i : Nat) : w.frozen? ⟨b, i, none⟩ = false := by
  simp [World.frozen?, h]
theorem heap_set {w : World} {b i : Nat} {cs : Array Value} {t : TypeId} {v : Value} (h : w.heap[b]? = some (.cells cs t (0, 0))) : (w.setCell ⟨b, i, none⟩ v).heap[b]? = some (.cells (cs.setIfInBounds i v) t (0, 0)) :=
  heap_setCell_same w b i cs t v h
theorem heap_alloc_at {w : World} {o : Obj} : (w.alloc o).heap[w.heap.size]? = some o := by
  show (w.heap.push o)[w.heap.size]? = _
  simp
theorem own_slice {g o n c k : Nat} {s : Option Nat} : (Value.slice (some ⟨g, o, s⟩) n c).ownBlock = some k ↔ k = g := by
  simp only [Value.ownBlock, Option.some.injEq]; exact eq_comm
theorem own_none {n c k : Nat} : (Value.slice none n c).ownBlock = some k ↔ False := by simp [Value.ownBlock]
theorem owns_of_block {w w' : World} {base : Nat} {e : TypeId} {size : Nat} {v : Value} {n : Nat} {xs : List Value} (h : w.ownsRow base e size v n xs) (hb : ∀ k, v.ownBlock = some k → w'.heap[k]? = w.heap[k]?) : w'.ownsRow base e size v n xs := by
  refine ⟨h.1, ?_⟩
  rcases h.2 with hn | ⟨g, cap, cur, rfl, hbg, hg, rest⟩
  · exact .inl hn
  · exact .inr ⟨g, cap, cur, rfl, hbg, by rw [hb g rfl]; exact hg, rest⟩
theorem Keeps.owns {S : Nat → Prop} {w w' : World} {base : Nat} {e : TypeId} {size : Nat} {v : Value} {n : Nat} {xs : List Value} (hk : Keeps S w w') (h : w.ownsRow base e size v n xs) (hs : ∀ k, v.ownBlock = some k → ¬ S k) : w'.ownsRow base e size v n xs :=
  owns_of_block h fun k e => hk.block k (h.lt k e).2 (hs k e)
theorem owns_form {w : World} {base : Nat} {e : TypeId} {size : Nat} {v : Value} {n : Nat} {xs : List Value} (h : w.ownsRow base e size v n xs) :
    ∃ o cap, v = .slice o n cap ∧ n ≤ cap ∧ cap ≤ maxLen ∧ ((o = none ∧ n = 0 ∧ cap = 0) ∨ ∃ g cur, o = some ⟨g, 0, none⟩ ∧ w.heap[g]? = some (.cells cur e (0, 0)) ∧ cur.size = cap * size ∧ cur.toList.take (n * size) = xs) := by
  rcases h.2 with ⟨rfl, rfl⟩ | ⟨g, cap, cur, rfl, _, hg, h1, h2, h3, h4⟩
  · exact ⟨none, 0, rfl, Nat.le_refl _, by simp [maxLen], .inl ⟨rfl, rfl, rfl⟩⟩
  · exact ⟨_, cap, rfl, h1, h2, .inr ⟨g, cur, rfl, hg, h3, h4⟩⟩
theorem addr_add (g o j : Nat) : (⟨g, o, none⟩ : Addr).add j = ⟨g, o + j, none⟩ := by
  simp only [Addr.add]; split
  · simp
  · rfl
theorem owns_ne {w : World} {e1 e2 s1 s2 n1 n2 b1 b2 : Nat} {v1 v2 : Value} {x1 x2 : List Value} (h1 : w.ownsRow b1 e1 s1 v1 n1 x1) (h2 : w.ownsRow b2 e2 s2 v2 n2 x2) (hne : e1 ≠ e2) {k : Nat} (hk : v1.ownBlock = some k) : v2.ownBlock ≠ some k := by
  intro hk2
  rcases h1.2 with ⟨rfl, _⟩ | ⟨g, cap, cur, rfl, _, hg, _⟩
  · simp [Value.ownBlock] at hk
  · rcases h2.2 with ⟨rfl, _⟩ | ⟨g2, cap2, cur2, rfl, _, hg2, _⟩
    · simp [Value.ownBlock] at hk2
    · simp only [Value.ownBlock, Option.some.injEq] at hk hk2
      subst hk; subst hk2
      rw [hg] at hg2; simp at hg2; exact hne hg2.2
theorem owns_ne_block {w : World} {e1 s1 n1 b1 b : Nat} {v1 : Value} {x1 : List Value} {cs : Array Value} {t : TypeId} {f : Nat × Nat} (h1 : w.ownsRow b1 e1 s1 v1 n1 x1) (h2 : w.heap[b]? = some (.cells cs t f)) (hne : e1 ≠ t) : v1.ownBlock ≠ some b := by
  intro hk2
  rcases h1.2 with ⟨rfl, _⟩ | ⟨g, cap, cur, rfl, _, hg, _⟩
  · simp [Value.ownBlock] at hk2
  · simp only [Value.ownBlock, Option.some.injEq] at hk2
    subst hk2
    rw [hg] at h2; simp at h2; exact hne h2.2.1
theorem owns_cells {w : World} {base e : Nat} {o : Option Addr} {n m cap : Nat} {xs : List Value} (h : w.ownsRow base e 1 (.slice o n cap) m xs) (g : Addr) (hg : o = some g) (j : Nat) (v : Value) (hv : xs[j]? = some v) : w.cell? (g.add j) = some v := by
  subst hg
  rcases h.2 with ⟨h0, _⟩ | ⟨g', cap', cur, h0, hb, hh, r⟩
  · cases h0
  · simp only [Value.slice.injEq, Option.some.injEq] at h0
    obtain ⟨rfl, rfl, rfl⟩ := h0
    exact h.cells (g := g') rfl j v hv
theorem oneCell_bvs (l : List UInt8) : ∀ v ∈ bvs l, v.oneCell' = true := by
  intro v hv
  simp only [bvs, List.mem_map] at hv
  obtain ⟨x, _, rfl⟩ := hv
  rfl
theorem bvs_append (a b : List UInt8) : bvs (a ++ b) = bvs a ++ bvs b := by simp [bvs]
theorem bvs_splice (a : List UInt8) (off : Nat) (b : List UInt8) : bvs (splice a off b) = splice (bvs a) off (bvs b) := by
  simp [bvs, splice, List.map_take, List.map_drop]
theorem bvs_zeros (n : Nat) : (madeCells (Value.int .u8 0).cells n).toList = bvs (List.replicate n 0) := by
  have : (Value.int .u8 0).cells = #[.int .u8 0] := rfl
  rw [this, toList_madeCells_one]
  simp [bvs, bv]
def cutA (o : Option Addr) (cap off : Nat) : Option Addr := if cap = off then o else o.map (fun a => a.add off)
theorem cutA_some {o : Option Addr} {cap off : Nat} {g : Nat} (ho : o = some ⟨g, 0, none⟩) (h : off < cap) : cutA o cap off = some ⟨g, off, none⟩ := by
  subst ho
  unfold cutA
  rw [if_neg (by omega)]
  simp only [Option.map_some, Addr.add]
  split
  · rename_i h0; simp [h0]
  · simp
theorem run_slice_from {P : Program} (t e : TypeId) (hu : P.underlying t = some (.slice e)) (hsz : (P.info? e).map (·.size) = some 1) (o : Option Addr) (n cap off : Nat) (k : IntKind) (h : off ≤ n) (w : World) :
    (Instr.slice t (.slice o n cap) (some (.int k (off : Int))) none none).run P w = .ok (.slice (cutA o cap off) (n - off) (cap - off)) w := by
  cases hq : P.info? e with
  | none => simp [hq] at hsz
  | some i =>
    have hi : i.size = 1 := by simpa [hq] using hsz
    have hle : (off : Int) ≤ n := by omega
    simp [Instr.slice, run_underlying hu, Instr.sliceBounds, Instr.sliceBound, asIntOf, sizeOf, typeInfo, hq, hi, cutA]
    intro hh; omega
theorem run_slice_to {P : Program} (t e : TypeId) (hu : P.underlying t = some (.slice e)) (hsz : (P.info? e).map (·.size) = some 1) (o : Option Addr) (n cap up : Nat) (k : IntKind) (h : up ≤ cap) (w : World) :
    (Instr.slice t (.slice o n cap) none (some (.int k (up : Int))) none).run P w = .ok (.slice o up cap) w := by
  cases hq : P.info? e with
  | none => simp [hq] at hsz
  | some i =>
    have hi : i.size = 1 := by simpa [hq] using hsz
    have hle : (up : Int) ≤ cap := by omega
    have ha : (Option.map (fun x : Addr => x.add 0) o) = o := by cases o <;> simp [Addr.add]
    simp [Instr.slice, run_underlying hu, Instr.sliceBounds, Instr.sliceBound, asIntOf, sizeOf, typeInfo, hq, ha]
    intro hh; omega
theorem extract_str (l : List UInt8) (a b : Nat) : (str l).extract a b = str ((l.drop a).take (b - a)) := ByteArray.extract_mk l a b
theorem run_slice_str_to {P : Program} (t : TypeId) (hu : P.underlying t = some .string) (l : List UInt8) (k : IntKind) (n : Nat) (h : n ≤ l.length) (w : World) :
    (Instr.slice t (.string (str l)) none (some (.int k (n : Int))) none).run P w = .ok (.string (str (l.take n))) w := by
  have hs := size_str l
  have hle : (n : Int) ≤ l.length := by omega
  simp [Instr.slice, run_underlying hu, Instr.sliceBounds, Instr.sliceBound, asIntOf, hs, extract_str]
  intro hh; omega
theorem run_slice_str_from {P : Program} (t : TypeId) (hu : P.underlying t = some .string) (l : List UInt8) (k : IntKind) (n : Nat) (h : n ≤ l.length) (w : World) :
    (Instr.slice t (.string (str l)) (some (.int k (n : Int))) none none).run P w = .ok (.string (str (l.drop n))) w := by
  have hs := size_str l
  have hle : (n : Int) ≤ l.length := by omega
  have ht : List.take (l.length - n) (List.drop n l) = List.drop n l := List.take_of_length_le (by simp)
  simp [Instr.slice, run_underlying hu, Instr.sliceBounds, Instr.sliceBound, asIntOf, hs, extract_str]
  rw [if_pos h, ht]
theorem run_slice_str {P : Program} (t : TypeId) (hu : P.underlying t = some .string) (l : List UInt8) (k k' : IntKind) (m n : Nat) (hm : m ≤ n) (h : n ≤ l.length) (w : World) :
    (Instr.slice t (.string (str l)) (some (.int k (m : Int))) (some (.int k' (n : Int))) none).run P w = .ok (.string (str ((l.drop m).take (n - m)))) w := by
  have hs := size_str l
  have hle : (n : Int) ≤ l.length := by omega
  have hle2 : (m : Int) ≤ n := by omega
  simp [Instr.slice, run_underlying hu, Instr.sliceBounds, Instr.sliceBound, asIntOf, hs, extract_str, h, hm, Sem.run_bind]
theorem str_append (a b : List UInt8) : str a ++ str b = str (a ++ b) := ByteArray.mk_append_mk a b
theorem run_add_str {P : Program} (a b : List UInt8) (h : a.length + b.length ≤ 9223372036854775807) (w : World) : (Op.stringOp .add (str a) (str b)).run P w = .ok (.string (str (a ++ b))) w := by
  rw [run_string_add_sum w (str a) (str b) (by rw [size_str, size_str]; exact h), str_append]
section copy
variable {P : Program}
theorem run_copy_src (w : World) (dT sT ty elem : TypeId) (g off dLen dCap : Nat) (src : Value) (n : Nat) (cur : Array Value) (t : TypeId) (cs : List Value)
    (hu : P.underlying dT = some (.slice elem)) (hs : (P.info? elem).map (·.size) = some 1) (hg : w.heap[g]? = some (.cells cur t (0, 0)))
    (hlen : (Builtin.lenOf src).run P w = .ok n w) (hfirst : (Builtin.firstCells 1 (Nat.min n dLen) src).run P w = .ok cs.toArray w)
    (hn : cs.length = Nat.min n dLen) (hfit : off + cs.length ≤ cur.size) (h1 : ∀ v ∈ cs, v.oneCell' = true) :
    (Builtin.copy_ #[dT, sT] ty #[.slice (some ⟨g, off, none⟩) dLen dCap, src]).run P w =
      .ok (goInt cs.length) (w.setRow g (cur.toList.take off ++ cs ++ cur.toList.drop (off + cs.length)).toArray) := by
  have hst := run_storeCells_at P g off t cs 0 cur w hg (by simpa using hfit) h1
  cases hq : P.info? elem with
  | none => simp [hq] at hs
  | some i =>
    have hi : i.size = 1 := by simpa [hq] using hs
    rw [← hn] at hfirst
    simp [Builtin.copy_, run_underlying hu, hlen, sizeOf, typeInfo, hq, hi, ← hn, hfirst, hst]
theorem run_copy_zero (w : World) (dT sT ty elem : TypeId) (dp : Option Addr) (dLen dCap : Nat) (src : Value) (n : Nat)
    (hu : P.underlying dT = some (.slice elem)) (hs : (P.info? elem).map (·.size) = some 1)
    (hlen : (Builtin.lenOf src).run P w = .ok n w) (hfirst : (Builtin.firstCells 1 0 src).run P w = .ok #[] w) (hn : Nat.min n dLen = 0) :
    (Builtin.copy_ #[dT, sT] ty #[.slice dp dLen dCap, src]).run P w = .ok (goInt 0) w := by
  cases hq : P.info? elem with
  | none => simp [hq] at hs
  | some i =>
    have hi : i.size = 1 := by simpa [hq] using hs
    cases dp with
    | none => simp [Builtin.copy_, run_underlying hu, hlen, sizeOf, typeInfo, hq, hi, hn, hfirst]
    | some d => simp [Builtin.copy_, run_underlying hu, hlen, sizeOf, typeInfo, hq, hi, hn, hfirst, storeCells]
def CopySrc (w : World) (src : Value) (n : Nat) (cs : List Value) : Prop :=
  (∃ s : ByteArray, src = .string s ∧ n = s.size ∧ ∃ k, cs = (bvs s.data.toList).take k) ∨
  (∃ (sp : Option Addr) (c : Nat), src = .slice sp n c ∧ (0 < cs.length → ∃ ad, sp = some ad ∧ ∀ j v, cs[j]? = some v → w.cell? (ad.add j) = some v))
theorem CopySrc.run {w : World} {src : Value} {n k : Nat} {cs : List Value} (h : CopySrc w src n cs) (hk : cs.length = Nat.min n k) :
    (Builtin.lenOf src).run P w = .ok n w ∧ (Builtin.firstCells 1 cs.length src).run P w = .ok cs.toArray w := by
  rcases h with ⟨s, rfl, rfl, j, rfl⟩ | ⟨sp, c, rfl, h⟩
  · refine ⟨by simp [Builtin.lenOf], ?_⟩
    simp only [Builtin.firstCells, bvs, List.length_take, List.length_map, Array.length_toList, Sem.run_pure]
    congr 1
    apply Array.ext'
    simp only [Array.toList_map, ByteArray.data_extract, Array.toList_extract, List.extract_eq_take_drop, Nat.sub_zero, List.drop_zero, List.map_take]
    change List.take (min j s.data.size) (List.map bv s.data.toList) = List.take j (List.map bv s.data.toList)
    rw [List.take_eq_take_iff]
    simp only [List.length_map, Array.length_toList]
    omega
  · refine ⟨by simp [Builtin.lenOf], ?_⟩
    by_cases h0 : cs.length = 0
    · obtain rfl : cs = [] := List.eq_nil_of_length_eq_zero h0
      cases sp with
      | none => simp [Builtin.firstCells]
      | some a => simp [Builtin.firstCells, loadCells, loadCellsFrom]
    · obtain ⟨ad, rfl, hc⟩ := h (by omega)
      have hl := run_loadCells_list (P := P) w ad cs hc
      simp [Builtin.firstCells, hl]
theorem CopySrc.of_owns {w : World} {base e : Nat} {o : Option Addr} {n c : Nat} {xs : List Value} (h : w.ownsRow base e 1 (.slice o n c) n xs) : CopySrc w (.slice o n c) n xs := by
  refine .inr ⟨o, c, rfl, fun hp => ?_⟩
  have hx := h.1
  simp only [Nat.mul_one] at hx
  rcases h.2 with ⟨h0, rfl⟩ | ⟨g, cap', cur, h0, _⟩
  · omega
  · simp only [Value.slice.injEq] at h0
    obtain ⟨rfl, _⟩ := h0
    exact ⟨_, rfl, fun j v hv => owns_cells h _ rfl j v hv⟩
theorem CopySrc.of_str (w : World) (s : ByteArray) : CopySrc w (.string s) s.size (bvs s.data.toList) :=
  .inl ⟨s, rfl, rfl, s.data.toList.length, by rw [List.take_of_length_le (by simp [bvs])]⟩
theorem take_setmid {α : Type} (L : List α) (N off : Nat) (cs : List α) (h : off + cs.length ≤ N) (hN : N ≤ L.length) :
    (L.take off ++ cs ++ L.drop (off + cs.length)).take N = splice (L.take N) off cs := by
  unfold splice
  apply List.ext_getElem?
  intro j
  simp only [List.getElem?_take, List.getElem?_append, List.getElem?_drop, List.length_take, List.length_append]
  by_cases h1 : j < N
  · rw [if_pos h1]
    by_cases h2 : j < off
    · rw [if_pos (by omega), if_pos (by omega), if_pos h2, if_pos (by omega), if_pos h2, if_pos h1]
    · by_cases h3 : j < off + cs.length
      · rw [if_pos (by omega), if_neg (by omega), if_neg (by omega), if_pos (by omega)]
        congr 1; omega
      · rw [if_neg (by omega), if_neg (by omega), if_neg (by omega), if_pos (by omega)]
        congr 1; omega
  · rw [if_neg h1]
    by_cases h3 : j < min off (min N L.length)
    · omega
    · rw [if_neg (by omega), if_neg (by omega), if_neg (by omega)]
theorem run_copy_into (w : World) (dT sT ty elem : TypeId) (hu : P.underlying dT = some (.slice elem)) (hsz : (P.info? elem).map (·.size) = some 1)
    (dp : Option Addr) (dLen dCap : Nat) (src : Value)
    (base e : Nat) (cv : Value) (N : Nat) (xs : List Value) (hown : w.ownsRow base e 1 cv N xs) (off n : Nat) (cs : List Value) (hn : cs.length = Nat.min n dLen)
    (hsrc : CopySrc w src n cs) (hpos : 0 < cs.length → ∃ g, cv.ownBlock = some g ∧ dp = some ⟨g, off, none⟩)
    (hfit : off + cs.length ≤ N) (h1 : ∀ v ∈ cs, v.oneCell' = true) :
    ∃ w', (Builtin.copy_ #[dT, sT] ty #[.slice dp dLen dCap, src]).run P w = .ok (.int .i64 (cs.length : Int)) w' ∧ w'.ownsRow base e 1 cv N (splice xs off cs) ∧ Keeps (fun k => cv.ownBlock = some k) w w' := by
  obtain ⟨r1, r2⟩ := hsrc.run (P := P) hn
  by_cases h0 : cs.length = 0
  · obtain rfl : cs = [] := List.eq_nil_of_length_eq_zero h0
    have hrun := run_copy_zero (P := P) w dT sT ty elem dp dLen dCap src n hu hsz r1 (by simpa using r2) (by simpa using hn.symm)
    refine ⟨w, hrun, ?_, Keeps.refl _ _⟩
    have : splice xs off [] = xs := by simp [splice]
    rw [this]; exact hown
  · obtain ⟨g, hcv, rfl⟩ := hpos (by omega)
    rcases hown.2 with ⟨rfl, _⟩ | ⟨g', cap, cur, rfl, hb, hg, hnc, hcm, hcs, htake⟩
    · simp [Value.ownBlock] at hcv
    · simp only [Value.ownBlock, Option.some.injEq] at hcv
      subst hcv
      simp only [Nat.mul_one] at hcs htake
      have hrun := run_copy_src (P := P) w dT sT ty elem g' off dLen dCap src n cur e cs hu hsz hg r1 (by rw [← hn]; exact r2) hn (by omega) h1
      refine ⟨_, hrun, ⟨?_, .inr ⟨g', cap, _, rfl, hb, setRow_heap w g' cur _ e _ hg, hnc, hcm, ?_, ?_⟩⟩, ⟨rfl, rfl, rfl, by simp, fun k _ hk => setRow_other w g' k _ (fun e => hk (by simp [Value.ownBlock, e]))⟩⟩
      · have hx := hown.1
        simp only [Nat.mul_one] at hx
        rw [length_splice _ _ _ (by omega)]; simpa using hx
      · simp only [List.size_toArray, List.length_append, List.length_take, List.length_drop, Array.length_toList]
        omega
      · simp only [Nat.mul_one]
        rw [← htake]
        have := take_setmid cur.toList N off cs (by omega) (by simp; omega)
        simpa using this
end copy
theorem run_string_of {P : Program} (w : World) (src dst e : TypeId) (a : Option Addr) (n cap : Nat) (l : List UInt8) (hs : P.underlying src = some (.slice e)) (he : P.underlying e = some (.int .u8)) (hd : P.underlying dst = some .string)
    (hn : n = l.length) (hc : 0 < l.length → ∃ ad, a = some ad ∧ ∀ j (hj : j < l.length), w.cell? (ad.add j) = some (bv l[j])) :
    (convert src dst (.slice a n cap)).run P w = .ok (.string (str l)) w := by
  subst hn
  by_cases h0 : l.length = 0
  · obtain rfl : l = [] := List.eq_nil_of_length_eq_zero h0
    cases a with
    | none => rw [run_convert_bytes_string w src dst e none _ cap hs he hd]; rfl
    | some ad => exact run_convert_bytes_back w src dst e ad cap [] hs he hd (fun j hj => by simp at hj)
  · obtain ⟨ad, had, hx⟩ := hc (by omega)
    subst had
    clear hc
    exact run_convert_bytes_back w src dst e ad cap l hs he hd hx
end Go.Proofs.YthlkgmdkabelpaaGreat
namespace Go.Proofs.YthlkgmdkabelpaaGreat
open Go Go.RowKit
abbrev W32 := BitVec 32
def rotr (x : W32) (n : Nat) : W32 := (x >>> n) ||| (x <<< (32 - n))
def sg0 (x : W32) : W32 := rotr x 7 ^^^ rotr x 18 ^^^ x >>> 3
def sg1 (y : W32) : W32 := rotr y 17 ^^^ rotr y 19 ^^^ y >>> 10
def bs0 (x : W32) : W32 := rotr x 2 ^^^ rotr x 13 ^^^ rotr x 22
def bs1 (x : W32) : W32 := rotr x 6 ^^^ rotr x 11 ^^^ rotr x 25
def chF (e f g : W32) : W32 := (e &&& f) ^^^ ((~~~ e) &&& g)
def maF (a b c : W32) : W32 := ((a &&& b) ^^^ (a &&& c)) ^^^ (b &&& c)
def kc : List W32 := [
  0x428a2f98, 0x71374491, 0xb5c0fbcf, 0xe9b5dba5, 0x3956c25b, 0x59f111f1, 0x923f82a4, 0xab1c5ed5,
  0xd807aa98, 0x12835b01, 0x243185be, 0x550c7dc3, 0x72be5d74, 0x80deb1fe, 0x9bdc06a7, 0xc19bf174,
  0xe49b69c1, 0xefbe4786, 0x0fc19dc6, 0x240ca1cc, 0x2de92c6f, 0x4a7484aa, 0x5cb0a9dc, 0x76f988da,
  0x983e5152, 0xa831c66d, 0xb00327c8, 0xbf597fc7, 0xc6e00bf3, 0xd5a79147, 0x06ca6351, 0x14292967,
  0x27b70a85, 0x2e1b2138, 0x4d2c6dfc, 0x53380d13, 0x650a7354, 0x766a0abb, 0x81c2c92e, 0x92722c85,
  0xa2bfe8a1, 0xa81a664b, 0xc24b8b70, 0xc76c51a3, 0xd192e819, 0xd6990624, 0xf40e3585, 0x106aa070,
  0x19a4c116, 0x1e376c08, 0x2748774c, 0x34b0bcb5, 0x391c0cb3, 0x4ed8aa4a, 0x5b9cca4f, 0x682e6ff3,
  0x748f82ee, 0x78a5636f, 0x84c87814, 0x8cc70208, 0x90befffa, 0xa4506ceb, 0xbef9a3f7, 0xc67178f2]
def iv : List W32 := [0x6a09e667, 0xbb67ae85, 0x3c6ef372, 0xa54ff53a, 0x510e527f, 0x9b05688c, 0x1f83d9ab, 0x5be0cd19]
def wAt (l : List W32) (i : Nat) : W32 := l.getD i 0
def b32 (x : UInt8) : W32 := BitVec.ofNat 32 x.toNat
def word4 (a b c d : UInt8) : W32 := ((b32 a <<< 24 ||| b32 b <<< 16) ||| b32 c <<< 8) ||| b32 d
def wordAt (b : List UInt8) (i : Nat) : W32 := word4 (b.getD (4 * i) 0) (b.getD (4 * i + 1) 0) (b.getD (4 * i + 2) 0) (b.getD (4 * i + 3) 0)
def nextW (b : List UInt8) (W : List W32) : W32 :=
  if W.length < 16 then wordAt b W.length
  else wAt W (W.length - 16) + sg0 (wAt W (W.length - 15)) + wAt W (W.length - 7) + sg1 (wAt W (W.length - 2))
def sched (b : List UInt8) : Nat → List W32
  | 0 => []
  | i + 1 => sched b i ++ [nextW b (sched b i)]
theorem sched_length (b : List UInt8) : ∀ i, (sched b i).length = i
  | 0 => rfl
  | i + 1 => by simp [sched, sched_length b i]
theorem sched_get (b : List UInt8) (n : Nat) : ∀ i, i < n → wAt (sched b n) i = nextW b (sched b i) := by
  induction n with
  | zero => intro i h; omega
  | succ n ih =>
    intro i h
    unfold wAt
    show ((sched b n) ++ [nextW b (sched b n)]).getD i 0 = _
    by_cases hi : i = n
    · subst hi
      have hl := sched_length b i
      simp [List.getD, hl]
    · have := ih i (by omega)
      unfold wAt at this
      rw [← this]
      have hl := sched_length b n
      simp only [List.getD_eq_getElem?_getD]
      rw [List.getElem?_append_left (by omega)]
structure S8 where
  a : W32
  b : W32
  c : W32
  d : W32
  e : W32
  f : W32
  g : W32
  h : W32
deriving DecidableEq
def S8.list (s : S8) : List W32 := [s.a, s.b, s.c, s.d, s.e, s.f, s.g, s.h]
def S8.of (l : List W32) : S8 := ⟨wAt l 0, wAt l 1, wAt l 2, wAt l 3, wAt l 4, wAt l 5, wAt l 6, wAt l 7⟩
theorem S8.of_list (s : S8) : S8.of s.list = s := rfl
def rT (s : S8) (k w : W32) : W32 := s.h + bs1 s.e + chF s.e s.f s.g + k + w
def rU (s : S8) : W32 := bs0 s.a + maF s.a s.b s.c
def rnd (s : S8) (k w : W32) : S8 := ⟨rT s k w + rU s, s.a, s.b, s.c, s.d + rT s k w, s.e, s.f, s.g⟩
def rnds (W : List W32) (s : S8) : Nat → S8
  | 0 => s
  | i + 1 => rnd (rnds W s i) (wAt kc i) (wAt W i)
def addS (s t : S8) : S8 := ⟨s.a + t.a, s.b + t.b, s.c + t.c, s.d + t.d, s.e + t.e, s.f + t.f, s.g + t.g, s.h + t.h⟩
def blk (s : S8) (b : List UInt8) : S8 := addS s (rnds (sched b 64) s 64)
def blks (m : List UInt8) : Nat → S8
  | 0 => S8.of iv
  | i + 1 => blk (blks m i) ((m.drop (64 * i)).take 64)
def zerosN (n : Nat) : Nat := (120 - (n + 1) % 64) % 64
def byteAt (n sh : Nat) : UInt8 := UInt8.ofNat (n / 2 ^ sh)
def be64 (n : Nat) : List UInt8 := [byteAt n 56, byteAt n 48, byteAt n 40, byteAt n 32, byteAt n 24, byteAt n 16, byteAt n 8, byteAt n 0]
def padL (l : List UInt8) : List UInt8 := l ++ [0x80] ++ List.replicate (zerosN l.length) 0 ++ be64 (8 * l.length)
theorem padL_length (l : List UInt8) : (padL l).length = l.length + 1 + zerosN l.length + 8 := by simp [padL, be64]; omega
theorem padL_mod (l : List UInt8) : (padL l).length % 64 = 0 := by rw [padL_length]; unfold zerosN; omega
def byteW (x : W32) (sh : Nat) : UInt8 := UInt8.ofNat ((x >>> sh).toNat)
def bytesW (x : W32) : List UInt8 := [byteW x 24, byteW x 16, byteW x 8, byteW x 0]
def sha (l : List UInt8) : List UInt8 := (blks (padL l) ((padL l).length / 64)).list.flatMap bytesW
theorem sha_length (l : List UInt8) : (sha l).length = 32 := by simp [sha, S8.list, bytesW]
def hexd (n : Nat) : UInt8 := UInt8.ofNat (if n < 10 then 48 + n else 87 + n)
def textL (l : List UInt8) : List UInt8 := l.flatMap fun x => [hexd (x.toNat / 16), hexd (x.toNat % 16)]
theorem textL_length (l : List UInt8) : (textL l).length = 2 * l.length := by
  induction l with
  | nil => rfl
  | cons x l ih => simp only [textL, List.flatMap_cons, List.length_append] at ih ⊢; simp [ih]; omega
/-! ## A strict form -/
def fN {α : Type} (n : Nat) (k : Nat → α) : α := match n with
  | 0 => k 0
  | m + 1 => k (m + 1)
theorem fN_eq {α : Type} (n : Nat) (k : Nat → α) : fN n k = k n := by cases n <;> rfl
def fW {α : Type} (x : W32) (k : W32 → α) : α := fN x.toNat fun n => k (BitVec.ofNat 32 n)
theorem fW_eq {α : Type} (x : W32) (k : W32 → α) : fW x k = k x := by unfold fW; rw [fN_eq]; simp
def schedF {α : Type} (b : List UInt8) : Nat → List W32 → (List W32 → α) → α
  | 0, W, k => k W
  | i + 1, W, k => fW (nextW b W) fun x => schedF b i (W ++ [x]) k
theorem schedF_eq {α : Type} (b : List UInt8) (k : List W32 → α) : ∀ (i j : Nat), schedF b i (sched b j) k = k (sched b (j + i))
  | 0, _ => rfl
  | i + 1, j => by
    unfold schedF
    rw [fW_eq]
    have := schedF_eq b k i (j + 1)
    rw [show sched b (j + 1) = sched b j ++ [nextW b (sched b j)] from rfl] at this
    rw [this]
    congr 2
    omega
def rndsF {α : Type} (W : List W32) : Nat → Nat → S8 → (S8 → α) → α
  | 0, _, s, k => k s
  | n + 1, i, s, k => fW (rT s (wAt kc i) (wAt W i)) fun t => fW (t + rU s) fun x => fW (s.d + t) fun y => rndsF W n (i + 1) ⟨x, s.a, s.b, s.c, y, s.e, s.f, s.g⟩ k
theorem rndsF_eq {α : Type} (W : List W32) (s : S8) (k : S8 → α) : ∀ (n i : Nat), rndsF W n i (rnds W s i) k = k (rnds W s (i + n))
  | 0, _ => rfl
  | n + 1, i => by
    unfold rndsF
    rw [fW_eq, fW_eq, fW_eq]
    have := rndsF_eq W s k n (i + 1)
    rw [show rnds W s (i + 1) = rnd (rnds W s i) (wAt kc i) (wAt W i) from rfl] at this
    unfold rnd at this
    rw [this]
    congr 2
    omega
def fS {α : Type} (s : S8) (k : S8 → α) : α := fW s.a fun a => fW s.b fun b => fW s.c fun c => fW s.d fun d => fW s.e fun e => fW s.f fun f => fW s.g fun g => fW s.h fun h => k ⟨a, b, c, d, e, f, g, h⟩
theorem fS_eq {α : Type} (s : S8) (k : S8 → α) : fS s k = k s := by unfold fS; simp only [fW_eq]
def blkF {α : Type} (s : S8) (b : List UInt8) (k : S8 → α) : α := schedF b 64 [] fun W => rndsF W 64 0 s fun t => fS (addS s t) k
theorem blkF_eq {α : Type} (s : S8) (b : List UInt8) (k : S8 → α) : blkF s b k = k (blk s b) := by
  unfold blkF
  have h1 := schedF_eq b (fun W => rndsF W 64 0 s fun t => fS (addS s t) k) 64 0
  rw [show sched b 0 = [] from rfl] at h1
  rw [h1]
  have h2 := rndsF_eq (sched b (0 + 64)) s (fun t => fS (addS s t) k) 64 0
  rw [show rnds (sched b (0 + 64)) s 0 = s from rfl] at h2
  rw [h2, fS_eq]
  rfl
theorem sha_empty : textL (sha []) = [101, 51, 98, 48, 99, 52, 52, 50, 57, 56, 102, 99, 49, 99, 49, 52, 57, 97, 102, 98, 102, 52, 99, 56, 57, 57, 54, 102, 98, 57, 50, 52, 50, 55, 97, 101, 52, 49, 101, 52, 54, 52, 57, 98, 57, 51, 52, 99, 97, 52, 57, 53, 57, 57, 49, 98, 55, 56, 53, 50, 98, 56, 53, 53] := by
  have h : ∀ (P : S8 → Bool) (m : List UInt8), blkF (S8.of iv) ((m.drop (64 * 0)).take 64) P = P (blks m 1) := fun P m => by rw [blkF_eq]; rfl
  have e := h (fun s => textL (s.list.flatMap bytesW) == [101, 51, 98, 48, 99, 52, 52, 50, 57, 56, 102, 99, 49, 99, 49, 52, 57, 97, 102, 98, 102, 52, 99, 56, 57, 57, 54, 102, 98, 57, 50, 52, 50, 55, 97, 101, 52, 49, 101, 52, 54, 52, 57, 98, 57, 51, 52, 99, 97, 52, 57, 53, 57, 57, 49, 98, 55, 56, 53, 50, 98, 56, 53, 53]) (padL [])
  have l : (padL []).length / 64 = 1 := by decide +kernel
  unfold sha
  rw [l]
  rw [show blkF (S8.of iv) (((padL []).drop (64 * 0)).take 64) (fun s => textL (s.list.flatMap bytesW) == [101, 51, 98, 48, 99, 52, 52, 50, 57, 56, 102, 99, 49, 99, 49, 52, 57, 97, 102, 98, 102, 52, 99, 56, 57, 57, 54, 102, 98, 57, 50, 52, 50, 55, 97, 101, 52, 49, 101, 52, 54, 52, 57, 98, 57, 51, 52, 99, 97, 52, 57, 53, 57, 57, 49, 98, 55, 56, 53, 50, 98, 56, 53, 53]) = true from by decide +kernel] at e
  exact eq_of_beq e.symm
theorem sha_abc : textL (sha [97, 98, 99]) = [98, 97, 55, 56, 49, 54, 98, 102, 56, 102, 48, 49, 99, 102, 101, 97, 52, 49, 52, 49, 52, 48, 100, 101, 53, 100, 97, 101, 50, 50, 50, 51, 98, 48, 48, 51, 54, 49, 97, 51, 57, 54, 49, 55, 55, 97, 57, 99, 98, 52, 49, 48, 102, 102, 54, 49, 102, 50, 48, 48, 49, 53, 97, 100] := by
  have h : ∀ (P : S8 → Bool) (m : List UInt8), blkF (S8.of iv) ((m.drop (64 * 0)).take 64) P = P (blks m 1) := fun P m => by rw [blkF_eq]; rfl
  have e := h (fun s => textL (s.list.flatMap bytesW) == [98, 97, 55, 56, 49, 54, 98, 102, 56, 102, 48, 49, 99, 102, 101, 97, 52, 49, 52, 49, 52, 48, 100, 101, 53, 100, 97, 101, 50, 50, 50, 51, 98, 48, 48, 51, 54, 49, 97, 51, 57, 54, 49, 55, 55, 97, 57, 99, 98, 52, 49, 48, 102, 102, 54, 49, 102, 50, 48, 48, 49, 53, 97, 100]) (padL [97, 98, 99])
  have l : (padL [97, 98, 99]).length / 64 = 1 := by decide +kernel
  unfold sha
  rw [l]
  rw [show blkF (S8.of iv) (((padL [97, 98, 99]).drop (64 * 0)).take 64) (fun s => textL (s.list.flatMap bytesW) == [98, 97, 55, 56, 49, 54, 98, 102, 56, 102, 48, 49, 99, 102, 101, 97, 52, 49, 52, 49, 52, 48, 100, 101, 53, 100, 97, 101, 50, 50, 50, 51, 98, 48, 48, 51, 54, 49, 97, 51, 57, 54, 49, 55, 55, 97, 57, 99, 98, 52, 49, 48, 102, 102, 54, 49, 102, 50, 48, 48, 49, 53, 97, 100]) = true from by decide +kernel] at e
  exact eq_of_beq e.symm
end Go.Proofs.YthlkgmdkabelpaaGreat
