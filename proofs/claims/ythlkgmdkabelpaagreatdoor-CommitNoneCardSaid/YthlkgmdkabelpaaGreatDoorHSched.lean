/-
  The constants of the rounds, and the schedule of a block: what the program's functions return. No condition but that the block's 64 bytes lie there.
-/
import Derived.Test.YthlkgmdkabelpaaGreatDoorHBits
import Derived.Deep.MidRow
import Derived.Deep.WholeRow
namespace Go.Proofs.YthlkgmdkabelpaaGreatDoor
open Go Go.RowKit
set_option linter.unusedVariables false

/-- words as cells -/
def wvs (l : List W32) : List Value := l.map uv
theorem length_wvs (l : List W32) : (wvs l).length = l.length := by simp [wvs]
theorem oneCell_wvs (l : List W32) : ∀ v ∈ wvs l, v.oneCell' = true := by
  intro v hv
  simp only [wvs, List.mem_map] at hv
  obtain ⟨x, _, rfl⟩ := hv
  rfl
def arr (l : List W32) : Array Value := (wvs l).toArray
theorem size_arr (l : List W32) : (arr l).size = l.length := by simp [arr, wvs]
theorem all_arr (l : List W32) : (arr l).all (·.oneCell') = true := all_oneCell_toArray (oneCell_wvs l)
theorem arr_get (l : List W32) (i : Nat) (h : i < l.length) : (arr l)[i]? = some (.int .u32 (uw (wAt l i))) := by
  simp [arr, wvs, wAt, uv, List.getElem?_map, List.getElem?_eq_getElem h]

section
variable {P : Program}
theorem wpList_build_as {ops : Array Oper} {rest : List Oper} {o : Oper} {a : Act} {w : World} {Q : Exit → Act → World → Prop} (hg : o.guard = none) (t : TypeId) (parts : Array (Nat × Operand)) (ho : o.op = .build t parts)
    (cells : Array Value) (hf : P.built t (parts.map fun (i, x) => (i, a.eval x)).toList = some cells)
    (h : wpList P ops Q rest (a.put o.dst (.agg cells)) w) : wpList P ops Q (o :: rest) a w :=
  wpList_build hg t parts ho (by rw [hf]; rfl) (by rw [hf]; exact h)
/-- a row stored into the block that was made last -/
theorem wpList_store_new {ops : Array Oper} {rest : List Oper} {o : Oper} {a : Act} {w : World} {Q : Exit → Act → World → Prop} (hgd : o.guard = none) (ty : TypeId) (x y : Operand) (ho : o.op = .store ty x y)
    (old cells : Array Value) (hx : a.eval x = .pointer (some ⟨w.heap.size, 0, none⟩)) (hy : a.eval y = .agg cells)
    (hi : (P.info? ty).map (·.size) = some cells.size) (hold : old.size = cells.size) (h1 : cells.all (·.oneCell') = true)
    (h : wpList P ops Q rest (a.put o.dst undef) (w.alloc (.cells cells ty))) : wpList P ops Q (o :: rest) a (w.alloc (.cells old ty)) :=
  wpList_store_row hgd ty x y ho w.heap.size cells hx hy ty old (heap_alloc_last w _) hi hold h1 (by rw [World.setRow_alloc_new]; exact h)
end
theorem heap_alloc_at1 {w : World} {o o' : Obj} : ((w.alloc o).alloc o').heap[w.heap.size + 1]? = some o' := by
  have e := heap_alloc_at (w := w.alloc o) (o := o')
  rw [World.size_alloc] at e
  exact e
theorem heap_alloc_at0 {w : World} {o o' : Obj} : ((w.alloc o).alloc o').heap[w.heap.size]? = some o := by
  rw [Below.heap_alloc _ _ _ (by simp)]; exact heap_alloc_at
theorem zeros64 : (#[Value.int IntKind.u32 0, Value.int IntKind.u32 0, Value.int IntKind.u32 0, Value.int IntKind.u32 0, Value.int IntKind.u32 0, Value.int IntKind.u32 0, Value.int IntKind.u32 0, Value.int IntKind.u32 0, Value.int IntKind.u32 0, Value.int IntKind.u32 0, Value.int IntKind.u32 0, Value.int IntKind.u32 0, Value.int IntKind.u32 0, Value.int IntKind.u32 0, Value.int IntKind.u32 0, Value.int IntKind.u32 0, Value.int IntKind.u32 0, Value.int IntKind.u32 0, Value.int IntKind.u32 0, Value.int IntKind.u32 0, Value.int IntKind.u32 0, Value.int IntKind.u32 0, Value.int IntKind.u32 0, Value.int IntKind.u32 0, Value.int IntKind.u32 0, Value.int IntKind.u32 0, Value.int IntKind.u32 0, Value.int IntKind.u32 0, Value.int IntKind.u32 0, Value.int IntKind.u32 0, Value.int IntKind.u32 0, Value.int IntKind.u32 0, Value.int IntKind.u32 0, Value.int IntKind.u32 0, Value.int IntKind.u32 0, Value.int IntKind.u32 0, Value.int IntKind.u32 0, Value.int IntKind.u32 0, Value.int IntKind.u32 0, Value.int IntKind.u32 0, Value.int IntKind.u32 0, Value.int IntKind.u32 0, Value.int IntKind.u32 0, Value.int IntKind.u32 0, Value.int IntKind.u32 0, Value.int IntKind.u32 0, Value.int IntKind.u32 0, Value.int IntKind.u32 0, Value.int IntKind.u32 0, Value.int IntKind.u32 0, Value.int IntKind.u32 0, Value.int IntKind.u32 0, Value.int IntKind.u32 0, Value.int IntKind.u32 0, Value.int IntKind.u32 0, Value.int IntKind.u32 0, Value.int IntKind.u32 0, Value.int IntKind.u32 0, Value.int IntKind.u32 0, Value.int IntKind.u32 0, Value.int IntKind.u32 0, Value.int IntKind.u32 0, Value.int IntKind.u32 0, Value.int IntKind.u32 0] : Array Value) = arr (List.replicate 64 0) := by kernel_rfl
theorem size64 (l : List W32) (h : l.length = 64) : (Tryz.prog.info? 229).map (·.size) = some (arr l).size := by rw [size_arr, h]; kernel_rfl
theorem size8 (l : List W32) (h : l.length = 8) : (Tryz.prog.info? 179).map (·.size) = some (arr l).size := by rw [size_arr, h]; kernel_rfl

set_option maxRecDepth 100000 in
theorem rounds_any (w : World) : Calls Tryz.prog 129 #[] w fun e w' => e = .returned (.agg (arr kc)) ∧ Keeps noBlock w w' := by
  go_enter Tryz.func129, Tryz.ntmps129
  go_wp2_with (first
    | (refine wpList_build_as rfl _ _ rfl (arr kc) (by kernel_rfl) ?_)
    | (refine wpList_store_new rfl _ _ _ rfl _ (arr kc) rfl rfl (size64 kc rfl) rfl (all_arr kc) ?_))
  refine bodyPost_ret (results_cell_row rfl _ _ w.heap.size _ (arr kc) (0, 0) _ rfl heap_alloc_at Tryz.underlying229 rfl (size64 kc rfl)) rfl ⟨rfl, (Keeps.refl _ _).alloc _⟩
set_option maxRecDepth 100000 in
theorem start_any (w : World) : Calls Tryz.prog 91 #[] w fun e w' => e = .returned (.agg (arr iv)) ∧ Keeps noBlock w w' := by
  go_enter Tryz.func91, Tryz.ntmps91
  go_wp2_with (first
    | (refine wpList_build_as rfl _ _ rfl (arr iv) (by kernel_rfl) ?_)
    | (refine wpList_store_new rfl _ _ _ rfl _ (arr iv) rfl rfl (size8 iv rfl) rfl (all_arr iv) ?_))
  refine bodyPost_ret (results_cell_row rfl _ _ w.heap.size _ (arr iv) (0, 0) _ rfl heap_alloc_at Tryz.underlying179 rfl (size8 iv rfl)) rfl ⟨rfl, (Keeps.refl _ _).alloc _⟩
end Go.Proofs.YthlkgmdkabelpaaGreatDoor
