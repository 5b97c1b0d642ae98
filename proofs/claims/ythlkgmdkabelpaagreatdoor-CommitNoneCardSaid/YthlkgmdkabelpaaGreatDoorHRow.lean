/-
  A row of bytes that grows by append: what lies in it, whatever part beyond it is marked; laws for append of bytes, for append of zeros, and for the conversion of a string. Over any program. Conditions: lengths within Go's own limits.
-/
import Derived.Test.YthlkgmdkabelpaaGreatDoorHBits
import Derived.Deep.AppendSrc
import Derived.Deep.Upon
import Derived.Lib.ConvBytes
import Derived.Lib.AppendZerosOnto
import Derived.Deep.MidRow
import Derived.OwnWalkIn
import Derived.Deep.WholeRow
namespace Go.Proofs.YthlkgmdkabelpaaGreatDoor
open Go Go.RowKit
set_option linter.unusedVariables false

/-- v is a slice at the head of block g: its bytes are l, and what is beyond them, up to its capacity, may be written. -/
def Row8 (w : World) (B : Nat) (v : Value) (l : List UInt8) : Prop :=
  ∃ g cap, v = .slice (some ⟨g, 0, none⟩) l.length cap ∧ B ≤ g ∧ g < w.heap.size ∧ l.length ≤ cap ∧ w.there g 0 cap ∧ w.rangeAt g 0 (bvs l)
theorem cell_keep {S : Nat → Prop} {w w' : World} (hk : Keeps S w w') {g : Nat} (hl : g < w.heap.size) (hs : ¬ S g) (j : Nat) : w'.cell? ⟨g, j, none⟩ = w.cell? ⟨g, j, none⟩ :=
  World.cell?_of_block (hk.block g hl hs)
theorem Row8.keep {S : Nat → Prop} {w w' : World} {B : Nat} {v : Value} {l : List UInt8} (h : Row8 w B v l) (hk : Keeps S w w') (hs : ∀ k, B ≤ k → k < w.heap.size → ¬ S k) : Row8 w' B v l := by
  obtain ⟨g, cap, hv, hB, hg, hc, ht, hr⟩ := h
  have hns := hs g hB hg
  refine ⟨g, cap, hv, hB, Nat.lt_of_lt_of_le hg hk.size, hc, fun j hj => ?_, fun j x hx => ?_⟩
  · rw [cell_keep hk hg hns, World.frozen?_of_block (hk.block g hg hns)]; exact ht j hj
  · rw [cell_keep hk hg hns]; exact hr j x hx
theorem Row8.block {w : World} {B : Nat} {v : Value} {l : List UInt8} (h : Row8 w B v l) : ∀ k, v.ownBlock = some k → B ≤ k ∧ k < w.heap.size := by
  obtain ⟨g, cap, rfl, hB, hg, _⟩ := h
  intro k hk
  rw [own_slice] at hk
  subst hk
  exact ⟨hB, hg⟩
theorem Keeps.setCells {S : Nat → Prop} {a w : World} (h : Keeps S a w) (b o : Nat) (vs : List Value) (hb : b < a.heap.size → S b) : Keeps S a (w.setCells b o vs) := by
  have ht : ∀ (vs : List Value) (o : Nat) (w : World), (w.setCells b o vs).tape = w.tape ∧ w.heap.size ≤ (w.setCells b o vs).heap.size := by
    intro vs
    induction vs with
    | nil => exact fun o w => ⟨rfl, Nat.le_refl _⟩
    | cons v vs ih =>
      intro o w
      rw [World.setCells]
      exact ⟨(ih _ _).1, Nat.le_trans (by simp [World.setCell]) (ih _ _).2⟩
  refine h.trans' (T := fun k => k = b) ⟨World.os_setCells w b o vs, (ht vs o w).1, World.output_setCells w b o vs, (ht vs o w).2, fun k hk hn => World.heap_setCells_other w b o vs hk hn⟩ (fun k h1 e => ?_)
  rw [e] at h1 ⊢
  exact hb h1

section
variable {P : Program} (w : World)
theorem rangeAt_append {w : World} {g : Nat} {a b : List Value} (ha : w.rangeAt g 0 a) (hb : w.rangeAt g a.length b) : w.rangeAt g 0 (a ++ b) := by
  intro j x hx
  by_cases h : j < a.length
  · rw [List.getElem?_append_left h] at hx; exact ha j x hx
  · rw [List.getElem?_append_right (by omega)] at hx
    have := hb _ x hx
    rwa [show a.length + (j - a.length) = 0 + j by omega] at this
theorem rangeAt_new (w : World) (cs : List Value) (C : Array Value) (t : TypeId) (h : C.toList.take cs.length = cs) : (w.alloc (.cells C t)).rangeAt w.heap.size 0 cs := by
  intro j x hx
  have hj : j < cs.length := (List.getElem?_eq_some_iff.1 hx).1
  rw [Nat.zero_add, cell_of_heap heap_alloc_at, ← Array.getElem?_toList]
  rw [← h, List.getElem?_take, if_pos hj] at hx
  exact hx
theorem there_new (w : World) (C : Array Value) (t : TypeId) (n : Nat) (h : n ≤ C.size) : (w.alloc (.cells C t)).there w.heap.size 0 n := by
  intro j hj
  rw [Nat.zero_add, cell_of_heap heap_alloc_at, frozen_of_heap heap_alloc_at]
  exact ⟨by simp; omega, rfl⟩

/-- append(v, x...) -/
theorem run_append_row8 (t tx ty e : TypeId) (i : TypeInfo) (z : Value) (ht : P.underlying t = some (.slice e)) (hi : P.info? e = some i) (hz : i.zero = some z) (hs1 : i.size = 1) (hb1 : i.bytes = 1) (hzc : z.cells.size = 1)
    (B : Nat) (v : Value) (l : List UInt8) (h : Row8 w B v l) (hBw : B ≤ w.heap.size) (x : Value) (m : List UInt8) (hx : Src P 1 tx x m.length (bvs m) w) (hlen : l.length + m.length ≤ 1125899906842624 / 8) :
    ∃ v' w', (Builtin.append_ #[t, tx] ty #[v, x]).run P w = .ok v' w' ∧ Row8 w' B v' (l ++ m) ∧ Keeps (fun k => v.ownBlock = some k) w w' := by
  obtain ⟨g, cap, rfl, hB, hg, hc, hth, hr⟩ := h
  have hbl := length_bvs l
  have hbm := length_bvs m
  by_cases hroom : l.length + m.length ≤ cap
  · have hrun := run_append_room_src w t tx ty e i ht hi g 0 l.length cap x m.length (bvs m) (by rw [hs1]; exact hx) hroom (fun j hj => by
      rw [hs1, Nat.zero_add, Nat.mul_one]
      have := (hth (l.length + j) (by omega)).1
      rwa [Nat.zero_add] at this) (fun j hj => by
      rw [hs1, Nat.zero_add, Nat.mul_one]
      have := (hth (l.length + j) (by omega)).2
      rwa [Nat.zero_add] at this)
    rw [hs1, Nat.zero_add, Nat.mul_one] at hrun
    refine ⟨_, _, hrun, ⟨g, cap, by rw [List.length_append], hB, ?_, by rw [List.length_append]; exact hroom, World.there_setCells hth _ _ _, ?_⟩, (Keeps.refl _ w).setCells _ _ _ (fun _ => by rw [own_slice])⟩
    · exact Nat.lt_of_lt_of_le hg ((Keeps.refl (fun k => k = g) w).setCells g l.length (bvs m) (fun _ => rfl)).size
    · rw [bvs_append]
      refine rangeAt_append (World.rangeAt_setCells_apart hr _ _ _ (by omega)) ?_
      rw [hbl]
      exact World.rangeAt_setCells_same w g l.length (bvs m) (fun j hj => by
        have := hth (l.length + j) (by omega)
        rwa [Nat.zero_add] at this)
  · have hold : (Builtin.firstCells i.size l.length (.slice (some ⟨g, 0, none⟩) l.length cap)).run P w.drew = .ok (bvs l).toArray w.drew :=
      run_firstCells_some w.drew i.size l.length ⟨g, 0, none⟩ l.length cap (bvs l) (by rw [hs1, Nat.mul_one, hbl]) (fun j u hu => by
        have := hr j u hu
        rw [Nat.zero_add] at this
        rw [addr_add, Nat.zero_add]
        exact this)
    have hrun := run_append_grow_src w t tx ty e i z ht hi hz (some ⟨g, 0, none⟩) l.length cap (bvs l) hold x m.length (bvs m) (by rw [hs1]; exact hx) (by omega) (by omega)
      (growslice_fits (by omega) (by rw [hb1]; omega))
    have hge := grownCap_ge w (l.length + m.length) cap e
    have hsz : ((bvs l ++ bvs m).toArray ++ Builtin.zeroCells z.cells (grownCap w (l.length + m.length) cap e - (l.length + m.length))).size = grownCap w (l.length + m.length) cap e := by
      simp only [Array.size_append, List.size_toArray, List.length_append, size_zeroCells, hzc, hbl, hbm]
      omega
    refine ⟨_, _, hrun, ⟨w.heap.size, _, by rw [List.length_append], hBw, by simp, by rw [List.length_append]; exact hge, ?_, ?_⟩, ((Keeps.refl _ w).drew).alloc _⟩
    · exact there_new w.drew _ _ _ (by rw [hsz]; exact Nat.le_refl _)
    · rw [bvs_append]
      refine rangeAt_new w.drew _ _ _ ?_
      rw [Array.toList_append]
      exact List.take_left

/-- append(v, make([]byte, n)...) -/
theorem run_append_zeros8 (t tx ty e : TypeId) (i : TypeInfo) (k k' : IntKind) (ht : P.underlying t = some (.slice e)) (htx : P.underlying tx = some (.int k)) (hi : P.info? e = some i) (hz : i.zero = some (.int .u8 0)) (hs1 : i.size = 1) (hb1 : i.bytes = 1)
    (B : Nat) (v : Value) (l : List UInt8) (h : Row8 w B v l) (hBw : B ≤ w.heap.size) (n : Nat) (hlen : l.length + n ≤ 1125899906842624 / 8) :
    ∃ v' w', (Builtin.append_ #[t, tx] ty #[v, .int k' (n : Int)]).run P w = .ok v' w' ∧ Row8 w' B v' (l ++ List.replicate n 0) ∧ Keeps (fun k => v.ownBlock = some k) w w' := by
  obtain ⟨g, cap, rfl, hB, hg, hc, hth, hr⟩ := h
  have hbl := length_bvs l
  have hzz : (Builtin.zeroCells (Value.int .u8 0).cells n).toList = bvs (List.replicate n 0) := by
    have := bvs_zeros n
    rw [← this]
    simp [Builtin.zeroCells, madeCells, Value.cells]
  have hzl : (bvs (List.replicate n (0 : UInt8))).length = n := by rw [length_bvs, List.length_replicate]
  have hw : IntKind.i64.wrap (n : Int) = n := IntWalk.i64_in _ (by omega)
  have hneg : ¬ ((n : Int) < 0) := by omega
  have h48i : ¬ (281474976710656 < (n : Int)) := by omega
  by_cases hroom : l.length + n ≤ cap
  · have hst := run_storeCells_cells (P := P) g l.length (bvs (List.replicate n 0)) 0 w (fun j hj => by
      have := (hth (l.length + j) (by omega)).1
      simpa using this) (fun j hj => by
      have := (hth (l.length + j) (by omega)).2
      simpa using this) (oneCell_bvs _)
    simp only [Nat.add_zero] at hst
    have hrun : (Builtin.append_ #[t, tx] ty #[.slice (some ⟨g, 0, none⟩) l.length cap, .int k' (n : Int)]).run P w = .ok (.slice (some ⟨g, 0, none⟩) (l.length + n) cap) (w.setCells g l.length (bvs (List.replicate n 0))) := by
      by_cases h0 : n = 0
      · subst h0
        have hw0 : IntKind.i64.wrap 0 = 0 := by decide
        simp [Builtin.append_, hw0, run_underlying ht, run_underlying htx, sizeOf, typeInfo, zeroValue, hi, hz, asInt, asIntOf, hb1, hc, Addr.add_lit, storeCells, bvs, World.setCells]
      · simp [Builtin.append_, run_underlying ht, run_underlying htx, sizeOf, typeInfo, zeroValue, hi, hz, asInt, asIntOf, hw, hneg, hs1, hb1, h48i, h0, hroom, Addr.add_lit, hzz, hst]
    refine ⟨_, _, hrun, ⟨g, cap, by rw [List.length_append, List.length_replicate], hB, ?_, by rw [List.length_append, List.length_replicate]; exact hroom, World.there_setCells hth _ _ _, ?_⟩, (Keeps.refl _ w).setCells _ _ _ (fun _ => by rw [own_slice])⟩
    · exact Nat.lt_of_lt_of_le hg ((Keeps.refl (fun k => k = g) w).setCells g l.length (bvs (List.replicate n 0)) (fun _ => rfl)).size
    · rw [bvs_append]
      refine rangeAt_append (World.rangeAt_setCells_apart hr _ _ _ (by omega)) ?_
      rw [hbl]
      exact World.rangeAt_setCells_same w g l.length _ (fun j hj => by
        have := hth (l.length + j) (by omega)
        rwa [Nat.zero_add] at this)
  · have hold : (Builtin.firstCells i.size l.length (.slice (some ⟨g, 0, none⟩) l.length cap)).run P w.drew = .ok (bvs l).toArray w.drew :=
      run_firstCells_some w.drew i.size l.length ⟨g, 0, none⟩ l.length cap (bvs l) (by rw [hs1, Nat.mul_one, hbl]) (fun j u hu => by
        have := hr j u hu
        rw [Nat.zero_add] at this
        rw [addr_add, Nat.zero_add]
        exact this)
    have hrun := Lib.run_append_grow_zeros w t tx ty e i (.int .u8 0) k' k ht htx hi hz (some ⟨g, 0, none⟩) l.length cap (bvs l) hold n (by omega) (by omega) (by omega) (by omega) (by rw [hb1]; omega)
      (growslice_fits (by omega) (by rw [hb1]; omega))
    have hge := grownCap_ge w (l.length + n) cap e
    have hsz : ((bvs l).toArray ++ Builtin.zeroCells (Value.int .u8 0).cells n ++ Builtin.zeroCells (Value.int .u8 0).cells (grownCap w (l.length + n) cap e - (l.length + n))).size = grownCap w (l.length + n) cap e := by
      simp only [Array.size_append, List.size_toArray, size_zeroCells, hbl]
      rw [show (Value.int .u8 0).cells.size = 1 from rfl]
      omega
    refine ⟨_, _, hrun, ⟨w.heap.size, _, by rw [List.length_append, List.length_replicate], hBw, by simp, by rw [List.length_append, List.length_replicate]; exact hge, ?_, ?_⟩, ((Keeps.refl _ w).drew).alloc _⟩
    · exact there_new w.drew _ _ _ (by rw [hsz]; exact Nat.le_refl _)
    · rw [bvs_append]
      refine rangeAt_new w.drew _ _ _ ?_
      rw [Array.toList_append, Array.toList_append, hzz]
      exact List.take_left

/-- []byte(s) -/
theorem row8_of_string (e : TypeId) (s : ByteArray) : Row8 (Lib.bytesWorld w e s) w.heap.size (.slice (some ⟨w.heap.size, 0, none⟩) s.size (grownCap w s.size 0 e)) s.data.toList ∧ Keeps noBlock w (Lib.bytesWorld w e s) := by
  have hge := grownCap_ge w s.size 0 e
  have hsz := Lib.bytesWorld_size w e s
  have hnew := Lib.bytesWorld_at_new w e s
  have hcs : (Lib.bytesCells w e s).size = grownCap w s.size 0 e := by
    unfold Lib.bytesCells
    rw [Array.size_append, Array.size_map, Array.size_replicate]
    show s.size + _ = _
    omega
  refine ⟨⟨w.heap.size, _, by rw [size_data], Nat.le_refl _, by omega, by rw [size_data]; exact hge, fun j hj => ⟨?_, ?_⟩, fun j x hx => ?_⟩, ⟨rfl, rfl, rfl, by omega, fun k hk _ => Lib.bytesWorld_at_old w e s k hk⟩⟩
  · rw [Nat.zero_add, cell_of_row _ _ _ _ _ _ hnew]
    rw [Array.getElem?_eq_getElem (by omega)]; rfl
  · rw [Nat.zero_add]
    simp only [World.frozen?, hnew]
    rw [Bool.and_eq_false_iff]
    left
    simp; omega
  · rw [Nat.zero_add, cell_of_row _ _ _ _ _ _ hnew]
    have hj : j < (bvs s.data.toList).length := (List.getElem?_eq_some_iff.1 hx).1
    rw [length_bvs] at hj
    unfold Lib.bytesCells
    rw [Array.getElem?_append_left (by rw [Array.size_map]; simpa using hj), ← hx, ← Array.getElem?_toList, Array.toList_map]
    rfl
end

/-! Laws for the walk inside a fence -/
section
variable {F : Fence} {n : Nat} {P : Program}
theorem wpListIn_append_run (w : World) {ops : Array Oper} {rest : List Oper} {o : Oper} {a : Act} {Q : Exit → Act → World → Prop} (hgd : o.guard = none) (s x : Operand) (t tn : TypeId)
    (ho : o.op = .call { callee := .builtin .append, args := #[s, x], argTypes := #[t, tn] }) (vs vx : Value) (hs : a.eval s = vs) (hx : a.eval x = vx)
    (v' : Value) (w' : World) (hr : (Builtin.append_ #[t, tn] o.type #[vs, vx]).run P w = .ok v' w') (h : wpListIn F n P ops Q rest (a.put o.dst v') w') : wpListIn F n P ops Q (o :: rest) a w := by
  refine wpListIn_plain hgd fun K hK' => ?_
  unfold Oper.wpIn
  refine ⟨?_, ?_⟩
  · simp [Oper.about, ho, resolve, Target.leads, Sem.run_pure]
  · rw [Oper.semAt_plain F _ _ (by rw [ho]; intro c hc'; cases hc')]
    simp [execOp, ho, resolve, invoke, builtin, hs, hx, hr, Result.andThen]
    exact hK' _ _ h
theorem wpListIn_convert_run (w : World) {ops : Array Oper} {rest : List Oper} {o : Oper} {a : Act} {Q : Exit → Act → World → Prop} (hgd : o.guard = none) (t u : TypeId) (x : Operand)
    (ho : o.op = .convert t u x) (vx : Value) (hx : a.eval x = vx)
    (v' : Value) (w' : World) (hr : (convert t u vx).run P w = .ok v' w') (h : wpListIn F n P ops Q rest (a.put o.dst v') w') : wpListIn F n P ops Q (o :: rest) a w := by
  refine wpListIn_plain hgd fun K hK' => ?_
  unfold Oper.wpIn
  refine ⟨?_, ?_⟩
  · simp [Oper.about, ho]
  · rw [Oper.semAt_plain F _ _ (by rw [ho]; intro c hc'; cases hc')]
    simp [execOp, ho, hx, hr, Result.andThen]
    exact hK' _ _ h
theorem wpListIn_store_row {ops : Array Oper} {rest : List Oper} {o : Oper} {a : Act} {w : World} {Q : Exit → Act → World → Prop} (hgd : o.guard = none) (ty : TypeId) (x y : Operand) (ho : o.op = .store ty x y)
    (g : Nat) (cells : Array Value) (hx : a.eval x = .pointer (some ⟨g, 0, none⟩)) (hy : a.eval y = .agg cells)
    (t : TypeId) (old : Array Value) (hg : w.heap[g]? = some (.cells old t (0, 0))) (hi : (P.info? ty).map (·.size) = some cells.size)
    (hold : old.size = cells.size) (h1 : cells.all (·.oneCell') = true)
    (h : wpListIn F n P ops Q rest (a.put o.dst undef) (w.setRow g cells)) : wpListIn F n P ops Q (o :: rest) a w := by
  refine wpListIn_plain hgd fun K hK' => ?_
  unfold Oper.wpIn
  refine ⟨?_, ?_⟩
  · simp [Oper.about, ho]
  · rw [Oper.semAt_plain F _ _ (by rw [ho]; intro c hc'; cases hc')]
    simp only [execOp, ho, hx, hy, Instr.storeAt, Instr.sureAddr, Sem.run_bind, Sem.run_pure, Result.andThen_ok, run_storeVar_row w g t ty old cells hg hi hold h1]
    exact hK' _ _ h
theorem wpListIn_store_new {ops : Array Oper} {rest : List Oper} {o : Oper} {a : Act} {w : World} {Q : Exit → Act → World → Prop} (hgd : o.guard = none) (ty : TypeId) (x y : Operand) (ho : o.op = .store ty x y)
    (old cells : Array Value) (hx : a.eval x = .pointer (some ⟨w.heap.size, 0, none⟩)) (hy : a.eval y = .agg cells)
    (hi : (P.info? ty).map (·.size) = some cells.size) (hold : old.size = cells.size) (h1 : cells.all (·.oneCell') = true)
    (h : wpListIn F n P ops Q rest (a.put o.dst undef) (w.alloc (.cells cells ty))) : wpListIn F n P ops Q (o :: rest) a (w.alloc (.cells old ty)) :=
  wpListIn_store_row hgd ty x y ho w.heap.size cells hx hy ty old heap_alloc_at hi hold h1 (by rw [World.setRow_alloc_new]; exact h)
theorem wpListIn_load_row {ops : Array Oper} {rest : List Oper} {o : Oper} {a : Act} {w : World} {Q : Exit → Act → World → Prop} (hgd : o.guard = none) (ty : TypeId) (x : Operand) (ho : o.op = .load ty x)
    (g : Nat) (hx : a.eval x = .pointer (some ⟨g, 0, none⟩)) (t : TypeId) (cs : Array Value) (fr : Nat × Nat) (d : TypeDesc) (hg : w.heap[g]? = some (.cells cs t fr))
    (hu : P.underlying ty = some d) (hd : (match d with | .struct _ | .array _ _ => true | _ => false) = true) (hi : (P.info? ty).map (·.size) = some cs.size)
    (h : wpListIn F n P ops Q rest (a.put o.dst (.agg cs)) w) : wpListIn F n P ops Q (o :: rest) a w := by
  refine wpListIn_plain hgd fun K hK' => ?_
  unfold Oper.wpIn
  refine ⟨?_, ?_⟩
  · simp [Oper.about, ho]
  · rw [Oper.semAt_plain F _ _ (by rw [ho]; intro c hc'; cases hc')]
    simp only [execOp, ho, hx, Instr.loadAt, Instr.sureAddr, Sem.run_bind, Sem.run_pure, Result.andThen_ok, run_loadVar_row w g t ty cs fr d hg hu hd hi]
    exact hK' _ _ h
end
end Go.Proofs.YthlkgmdkabelpaaGreatDoor
