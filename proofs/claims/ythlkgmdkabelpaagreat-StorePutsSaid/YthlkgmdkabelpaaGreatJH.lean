/-
  DERIVED: THE SHELF's CONTRACTS AT THIS DUMP, IN PLAIN WORDS (tools/lay-plain.mjs out of 'TryzS2.lean', which tools/lay-shelf.mjs wrote): THE SAME DECLARATIONS UNDER THE SAME NAMES: 'import', 'namespace', 'open', 'def', 'theorem' AND NOTHING ELSE: no command of the shelf's: FOR A HAND-IN. Each laying: the table of numbers ('.._ren') and one theorem, a field a fact of the dump's own or the kernel's comparison; each contract: ONE APPLICATION.
  The order by which the store's All sorts: its function walked, at each world.
  The order of hashes; a sort of a row, from what is known of it in every world to the abstract machine.
  The store's All: slices.SortedFunc, given what is known of the sort.
  The store's All walked, given what is known of the sort; its hook.
  The keys of a map that is nil: nothing is yielded.
  All of a store that holds nothing, carried out; the hook of All.
  sanity16, carried out; its hook.
  What is known of the sort of hashes in every world: the shelf's contract at this dump.
  No condition.
-/
import Derived.Shelf.Small.Strs
import Derived.Shelf.SlGeneric
import Derived.Shelf.SlLaysF0
import Derived.Ground.SlsfProg
import Derived.Ground.NamesProg
import Derived.Test.YthlkgmdkabelpaaGreatProg
import Derived.Test.YthlkgmdkabelpaaGreatJG
import Derived.Shelf.SlSortCmp.KitK
import Derived.KernelRfl
import Derived.Shelf.SlSortCmp.NoneTotal
set_option linter.all false
set_option linter.unusedVariables false
set_option linter.unusedSimpArgs false
namespace Go.Proofs
open Go.Shelf
def Tryz.lays106_ren : Go.Shelf.Ren := ⟨fun | 106 => 52 | 213 => 91 | 265 => 114 | n => n, fun | 9 => 9 | 3 => 3 | n => n, fun | n => n⟩
theorem Tryz.lays106 : Go.Proofs.Lays.n106 Tryz.prog Tryz.lays106_ren := {
  mixed := by kernel_rfl
  f106 := Tryz.func52.trans (congrArg some (by kernel_rfl))
  f213 := Tryz.func91.trans (congrArg some (by kernel_rfl))
  f265 := Tryz.func114.trans (congrArg some (by kernel_rfl))
  t3 := Tryz.underlying3
  a3 := Tryz.isAgg3
  z3 := Tryz.sizeOf3
  v3 := Tryz.zeroValue3
  t9 := Tryz.underlying9
  a9 := Tryz.isAgg9
  z9 := Tryz.sizeOf9
  v9 := Tryz.zeroValue9 }
def Tryz.sortHash_ren : Go.Shelf.Ren := ⟨fun | 6 => 89 | 15 => 109 | 14 => 113 | 28 => 129 | 29 => 130 | 20 => 131 | 21 => 132 | 22 => 133 | 23 => 134 | 24 => 135 | 25 => 136 | 26 => 137 | 27 => 138 | 46 => 148 | 47 => 144 | 48 => 145 | 49 => 149 | 50 => 150 | 57 => 154 | n => n, fun | 22 => 48 | 24 => 24 | 25 => 116 | 3 => 3 | 39 => 123 | 0 => 0 | 53 => 117 | 55 => 121 | 4 => 4 | 46 => 201 | 45 => 200 | 50 => 132 | 5 => 5 | 9 => 9 | 66 => 218 | 70 => 222 | 76 => 226 | 77 => 227 | n => n, fun | n => n⟩
theorem Tryz.sortHash : Go.Proofs.SlLaysF0.n6 Tryz.prog Tryz.sortHash_ren := {
  mixed := by kernel_rfl
  f6 := ⟨Tryz.f89.name, by decide, Tryz.func89.trans (congrArg some (by kernel_rfl))⟩
  f14 := ⟨Tryz.f113.name, by decide, Tryz.func113.trans (congrArg some (by kernel_rfl))⟩
  f15 := Tryz.func109.trans (congrArg some (by kernel_rfl))
  f20 := ⟨Tryz.f131.name, by decide, Tryz.func131.trans (congrArg some (by kernel_rfl))⟩
  f21 := ⟨Tryz.f132.name, by decide, Tryz.func132.trans (congrArg some (by kernel_rfl))⟩
  f22 := ⟨Tryz.f133.name, by decide, Tryz.func133.trans (congrArg some (by kernel_rfl))⟩
  f23 := ⟨Tryz.f134.name, by decide, Tryz.func134.trans (congrArg some (by kernel_rfl))⟩
  f24 := ⟨Tryz.f135.name, by decide, Tryz.func135.trans (congrArg some (by kernel_rfl))⟩
  f25 := ⟨Tryz.f136.name, by decide, Tryz.func136.trans (congrArg some (by kernel_rfl))⟩
  f26 := ⟨Tryz.f137.name, by decide, Tryz.func137.trans (congrArg some (by kernel_rfl))⟩
  f27 := ⟨Tryz.f138.name, by decide, Tryz.func138.trans (congrArg some (by kernel_rfl))⟩
  f28 := Tryz.func129.trans (congrArg some (by kernel_rfl))
  f29 := Tryz.func130.trans (congrArg some (by kernel_rfl))
  f46 := ⟨Tryz.f148.name, by decide, Tryz.func148.trans (congrArg some (by kernel_rfl))⟩
  f47 := Tryz.func144.trans (congrArg some (by kernel_rfl))
  f48 := Tryz.func145.trans (congrArg some (by kernel_rfl))
  f49 := ⟨Tryz.f149.name, by decide, Tryz.func149.trans (congrArg some (by kernel_rfl))⟩
  f50 := ⟨Tryz.f150.name, by decide, Tryz.func150.trans (congrArg some (by kernel_rfl))⟩
  f57 := ⟨Tryz.f154.name, by decide, Tryz.func154.trans (congrArg some (by kernel_rfl))⟩
  t0 := Tryz.underlying0
  a0 := Tryz.isAgg0
  z0 := Tryz.sizeOf0
  v0 := Tryz.zeroValue0
  t3 := Tryz.underlying3
  a3 := Tryz.isAgg3
  z3 := Tryz.sizeOf3
  v3 := Tryz.zeroValue3
  t4 := Tryz.underlying4
  a4 := Tryz.isAgg4
  z4 := Tryz.sizeOf4
  v4 := Tryz.zeroValue4
  t5 := Tryz.underlying5
  a5 := Tryz.isAgg5
  z5 := Tryz.sizeOf5
  v5 := Tryz.zeroValue5
  t9 := Tryz.underlying9
  a9 := Tryz.isAgg9
  z9 := Tryz.sizeOf9
  v9 := Tryz.zeroValue9
  t22 := Tryz.underlying48
  a22 := Tryz.isAgg48
  z22 := Tryz.sizeOf48
  v22 := Tryz.zeroValue48
  t25 := Tryz.underlying116
  a25 := Tryz.isAgg116
  z25 := Tryz.sizeOf116
  v25 := Tryz.zeroValue116
  t39 := Tryz.underlying123
  a39 := Tryz.isAgg123
  z39 := Tryz.sizeOf123
  v39 := Tryz.zeroValue123
  t45 := Tryz.underlying200
  a45 := Tryz.isAgg200
  z45 := Tryz.sizeOf200
  v45 := Tryz.zeroValue200
  t46 := Tryz.underlying201
  a46 := Tryz.isAgg201
  z46 := Tryz.sizeOf201
  v46 := Tryz.zeroValue201
  t50 := Tryz.underlying132
  a50 := Tryz.isAgg132
  z50 := Tryz.sizeOf132
  v50 := Tryz.zeroValue132
  t53 := Tryz.underlying117
  a53 := Tryz.isAgg117
  z53 := Tryz.sizeOf117
  v53 := Tryz.zeroValue117
  t55 := Tryz.underlying121
  a55 := Tryz.isAgg121
  z55 := Tryz.sizeOf121
  v55 := Tryz.zeroValue121
  t66 := Tryz.underlying218
  a66 := Tryz.isAgg218
  z66 := Tryz.sizeOf218
  v66 := Tryz.zeroValue218
  t70 := Tryz.underlying222
  a70 := Tryz.isAgg222
  z70 := Tryz.sizeOf222
  v70 := Tryz.zeroValue222
  t76 := Tryz.underlying226
  a76 := Tryz.isAgg226
  z76 := Tryz.sizeOf226
  v76 := Tryz.zeroValue226
  t77 := Tryz.underlying227
  a77 := Tryz.isAgg227
  z77 := Tryz.sizeOf227
  v77 := Tryz.zeroValue227 }
end Go.Proofs
namespace Go.Proofs.YthlkgmdkabelpaaGreat.X
open Go Go.RowKit Go.Shelf Go.Sort Go.Lib
def cfH (x y : HB) : Int := Lib.compareBytes x.1 y.1
set_option maxRecDepth 100000 in
set_option maxHeartbeats 1000000 in
theorem closureAny (x y : HB) (W : World) : Calls Tryz.prog 51 #[.agg (bvs x.1).toArray, .agg (bvs y.1).toArray] W fun e w' => e = .returned (.int .i64 (cfH x y)) ∧ ∃ q os', w' = Sort.grow (W.drewN q) os' := by
  have hS : ∀ W', Calls Tryz.prog 52 #[.string (str x.1), .string (str y.1)] W' fun e w' => e = .returned (.int .i64 (cfH x y)) ∧ w' = W' := fun W' => Any.strings_Compare Tryz.lays106 (str x.1) (str y.1) W'
  have z1 : ((W.alloc (Obj.cells (bvs x.1).toArray 24)).alloc (Obj.cells (bvs y.1).toArray 24)).heap[W.heap.size]? = some (.cells (bvs x.1).toArray 24 (0, 0)) := heap_alloc_at0
  have z2 : ((W.alloc (Obj.cells (bvs x.1).toArray 24)).alloc (Obj.cells (bvs y.1).toArray 24)).heap[W.heap.size + 1]? = some (.cells (bvs y.1).toArray 24 (0, 0)) := heap_alloc_at1
  obtain ⟨w1, hw1⟩ : ∃ w1, w1 = (W.alloc (Obj.cells (bvs x.1).toArray 24)).alloc (Obj.cells (bvs y.1).toArray 24) := ⟨_, rfl⟩
  rw [← hw1] at z1 z2
  have hg : ∀ q os, ∃ os', Sort.grow (w1.drewN q) os = Sort.grow (W.drewN q) os' := fun q os => ⟨_, by rw [hw1, alloc_eq_grow, alloc_eq_grow, Sort.grow_grow]; show Sort.grow (Sort.grow (W.drewN q) _) os = _; rw [Sort.grow_grow]⟩
  have cvt : ∀ (b : Nat) (h : HB), w1.heap[b]? = some (.cells (bvs h.1).toArray 24 (0, 0)) → ∀ n os, (convert 80 9 (.slice (some ⟨b, 0, none⟩) 32 32)).run Tryz.prog (Sort.grow (w1.drewN n) os) = .ok (.string (str h.1)) (Sort.grow (w1.drewN n) os) := by
    intro b h hb n os
    refine run_string_of _ 80 9 5 _ 32 32 h.1 Tryz.underlying80 Tryz.underlying5 Tryz.underlying9 h.2.symm (fun _ => ⟨_, rfl, fun j hj => ?_⟩)
    rw [addr_add, Nat.zero_add]
    have hlt : b < w1.heap.size := (Array.getElem?_eq_some_iff.1 hb).1
    rw [cell?_grow _ _ _ (by exact hlt)]
    show w1.cell? _ = _
    rw [cell_of_heap hb, ← Array.getElem?_toList]
    simp [bvs, hj]
  have c1 := cvt _ _ z1
  have c2 := cvt _ _ z2
  obtain ⟨r, hr⟩ : ∃ r, r = cfH x y := ⟨_, rfl⟩
  rw [← hr] at hS ⊢
  obtain ⟨sx, hsx⟩ : ∃ s, s = str x.1 := ⟨_, rfl⟩
  obtain ⟨sy, hsy⟩ : ∃ s, s = str y.1 := ⟨_, rfl⟩
  rw [← hsx] at hS c1
  rw [← hsy] at hS c2
  obtain ⟨RA, hRA⟩ : ∃ R, R = bvs x.1 := ⟨_, rfl⟩
  obtain ⟨RB, hRB⟩ : ∃ R, R = bvs y.1 := ⟨_, rfl⟩
  rw [← hRA, ← hRB] at hw1
  rw [← hRA, ← hRB]
  have HW1 := Lib.hid hw1; have HG := Lib.hid hg
  have hund := Tryz.underlying24
  clear hw1 z1 z2 hg cvt hr hsx hsy hRA hRB
  go_enter Tryz.func51, Tryz.ntmps51
  go_wp2_with fail
  rw [← HW1.out]
  have hmx := mixed
  go_quiet_grown ((go_at_call 52; exact Calls.grown_of ((hS _).mono fun _ _ h => ⟨h.1, 0, #[], by rw [h.2, Sort.grow_empty]; rfl⟩)))
  go_wp2_with fail
  go_ret
  obtain ⟨os', ho⟩ := HG.out nq osq
  exact ⟨rfl, nq, os', ho⟩
end Go.Proofs.YthlkgmdkabelpaaGreat.X
namespace Go.Proofs.YthlkgmdkabelpaaGreat.X
open Go Go.RowKit Go.Shelf Go.Sort Go.Lib
instance : Inhabited HB := ⟨⟨List.replicate 32 0, rfl⟩⟩
theorem cmp_less : ∀ {a b : List UInt8}, a.length = b.length → (Lib.compareBytes a b < 0 ↔ lessL a b = true)
  | [], [], _ => by simp [Lib.compareBytes, lessL]
  | [], _ :: _, h => by simp at h
  | _ :: _, [], h => by simp at h
  | x :: l, y :: m, h => by
    have ih := cmp_less (a := l) (b := m) (by simpa using h)
    unfold Lib.compareBytes lessL
    by_cases h1 : x.toNat < y.toNat
    · rw [if_pos (show x < y from h1), if_pos h1]; simp
    · rw [if_neg (show ¬ x < y from h1), if_neg h1]
      by_cases h2 : y.toNat < x.toNat
      · rw [if_pos (show y < x from h2), if_pos h2]; simp
      · rw [if_neg (show ¬ y < x from h2), if_neg h2]; exact ih
theorem lt_less (x y : HB) : ltOf cfH x y = lessB x y := by
  unfold ltOf cfH lessB
  have := cmp_less (a := x.1) (b := y.1) (by rw [x.2, y.2])
  cases h : lessL x.1 y.1 <;> simp [h] at this ⊢ <;> exact this
theorem lessS_self : ∀ l : List UInt8, lessL l l = false
  | [] => rfl
  | x :: l => by rw [lessL_eq _ _ _ _ rfl]; exact lessS_self l
theorem lessS_trans : ∀ {a b c : List UInt8}, lessL a b = true → lessL b c = true → lessL a c = true
  | [], _, _, h, _ => by simp [lessL] at h
  | _ :: _, [], _, h, _ => by simp [lessL] at h
  | _ :: _, _ :: _, [], _, h => by simp [lessL] at h
  | x :: l, y :: m, z :: n, h1, h2 => by
    unfold lessL at h1 h2 ⊢
    by_cases a1 : x.toNat < y.toNat
    · by_cases b1 : y.toNat < z.toNat
      · rw [if_pos (by omega)]
      · rw [if_neg b1] at h2
        by_cases b2 : z.toNat < y.toNat
        · rw [if_pos b2] at h2; cases h2
        · rw [if_pos (by omega)]
    · rw [if_neg a1] at h1
      by_cases a2 : y.toNat < x.toNat
      · rw [if_pos a2] at h1; cases h1
      · rw [if_neg a2] at h1
        by_cases b1 : y.toNat < z.toNat
        · rw [if_pos (by omega)]
        · rw [if_neg b1] at h2
          by_cases b2 : z.toNat < y.toNat
          · rw [if_pos b2] at h2; cases h2
          · rw [if_neg b2] at h2
            rw [if_neg (by omega), if_neg (by omega)]
            exact lessS_trans h1 h2
theorem lessS_total : ∀ {a b : List UInt8}, a.length = b.length → lessL a b = false → lessL b a = false → a = b
  | [], [], _, _, _ => rfl
  | [], _ :: _, h, _, _ => by simp at h
  | _ :: _, [], h, _, _ => by simp at h
  | x :: l, y :: m, h, h1, h2 => by
    unfold lessL at h1 h2
    by_cases a1 : x.toNat < y.toNat
    · rw [if_pos a1] at h1; cases h1
    · by_cases a2 : y.toNat < x.toNat
      · rw [if_pos a2] at h2; cases h2
      · rw [if_neg a1, if_neg a2] at h1
        rw [if_neg a2, if_neg a1] at h2
        rw [lessS_total (by simpa using h) h1 h2, show x = y from UInt8.toNat_inj.1 (by omega)]
theorem lessB_total {x y : HB} (h1 : lessB x y = false) (h2 : lessB y x = false) : x = y := Subtype.ext (lessS_total (by rw [x.2, y.2]) h1 h2)
theorem lessB_swo : SWO lessB where
  irrefl x := lessS_self x.1
  trans x y z h1 h2 := lessS_trans h1 h2
  ntrans x y z h1 h2 := by
    cases h : lessB x z with
    | false => rfl
    | true =>
      cases h3 : lessB y x with
      | true => rw [show lessB y z = true from lessS_trans h3 h] at h2; cases h2
      | false => rw [lessB_total h1 h3] at h; rw [h] at h2; cases h2
theorem lt_fun : ltOf cfH = lessB := funext fun x => funext fun y => lt_less x y
theorem cf_swo : SWO (ltOf cfH) := by rw [lt_fun]; exact lessB_swo
def sortH (m : List HB) : List HB := m.mergeSort fun x y => !(lessB y x)
theorem sortH_perm (m : List HB) : (sortH m).Perm m := List.mergeSort_perm _ _
theorem sortH_length (m : List HB) : (sortH m).length = m.length := (sortH_perm m).length_eq
theorem sortH_sorted (m : List HB) : (sortH m).Pairwise fun x y => (!(lessB y x)) = true :=
  List.pairwise_mergeSort (le := fun x y => !(lessB y x)) (fun a b c h1 h2 => by
    simp only [Bool.not_eq_true'] at h1 h2 ⊢
    exact lessB_swo.ntrans _ _ _ h2 h1) (fun a b => by
    cases h : lessB b a with
    | false => simp
    | true =>
      cases h2 : lessB a b with
      | false => simp
      | true => have := lessB_swo.trans _ _ _ h h2; rw [lessB_swo.irrefl] at this; cases this) m
theorem sortH_uniq {a b : List HB} (hp : a.Perm b) (hs : a.Pairwise fun x y => (!(lessB y x)) = true) : a = sortH b :=
  List.Perm.eq_of_pairwise (le := fun x y => (!(lessB y x)) = true) (fun x y _ _ h1 h2 => by
    simp only [Bool.not_eq_true'] at h1 h2
    exact lessB_total h2 h1) hs (sortH_sorted b) (hp.trans (sortH_perm b).symm)
theorem sortH_congr {a b : List HB} (hp : a.Perm b) : sortH a = sortH b := sortH_uniq ((sortH_perm a).trans hp) (sortH_sorted a)
/-! ### the row of a sort -/
def encH (h : HB) : List Value := bvs h.1
theorem flatK_row (m : List HB) : flatK encH 32 m.toArray = (rowHs m).toArray := by
  refine ext_get! (by rw [size_flatK, List.size_toArray, List.size_toArray, rowHs_length]) fun t ht => ?_
  rw [size_flatK, List.size_toArray] at ht
  rw [get_flatK _ _ _ _ (by rw [List.size_toArray]; exact ht)]
  have hi : t / 32 < m.length := by omega
  have h1 := rowHs_at hi
  have hl := rowHs_length m
  have hr : (rowHs m)[t]? = (bvs m[t / 32].1)[t % 32]? := by
    rw [← h1, List.getElem?_take, if_pos (by omega), List.getElem?_drop]
    congr 1
    omega
  rw [show (m.toArray[t / 32]!) = m[t / 32] by simp [hi]]
  unfold encH
  rw [List.getElem!_eq_getElem?_getD, ← hr]
  simp [Array.getElem!_eq_getD, Array.getD, show t < (rowHs m).length by omega]
theorem flat_rowHs (m : List HB) : ∀ v ∈ rowHs m, flatN 7 v = true := fun v hv => by
  unfold rowHs at hv
  obtain ⟨h, _, hh⟩ := List.mem_flatMap.1 hv
  exact List.all_eq_true.1 (flat_bvs h.1) v hh
theorem sortW_keeps {enc : HB → List Value} {k : Nat} {w : World} {blk off n : Nat} {d : Array HB} {os : Array Obj} : Keeps (fun b => b = blk) w (sortWorldK enc k w blk off n d os) :=
  ⟨rfl, rfl, rfl, by
    show w.heap.size ≤ ((w.heap.modify blk _) ++ os).size
    simp, fun j hj hb => by
    show ((w.heap.modify blk _) ++ os)[j]? = _
    rw [Array.getElem?_append, if_pos (by simpa using hj), Array.getElem?_modify, if_neg (fun e => hb e.symm)]⟩
theorem sortW_block {enc : HB → List Value} {k : Nat} {w : World} {blk off n : Nat} {d : Array HB} {os : Array Obj} {c : Array Value} {e : TypeId} {fr : Nat × Nat} (h : w.heap[blk]? = some (.cells c e fr)) :
    (sortWorldK enc k w blk off n d os).heap[blk]? = some (.cells (putCells id off (flatK enc k d) c) e fr) := by
  show ((w.heap.modify blk (onCells (putCells id off (flatK enc k d)))) ++ os)[blk]? = _
  have hlt : blk < w.heap.size := (Array.getElem?_eq_some_iff.1 h).1
  rw [Array.getElem?_append, if_pos (by simpa using hlt), Array.getElem?_modify, if_pos rfl, h]
  rfl
def SortAny (P : Program) (f g : FuncId) : Prop := ∀ (blk off cap : Nat) (d : Array HB) (w : World), HoldsK encH 32 w blk off d → blk < w.heap.size → d.size < 4611686018427387904 →
  Calls P f #[.slice (some ⟨blk, off, none⟩) d.size cap, .func (.func g) #[] #[]] w fun e w' => e = .returned (.tuple #[]) ∧ ∃ n os, w' = sortWorldK encH 32 w blk off n (sortH d.toList).toArray os
theorem sort_call {P : Program} {f g : FuncId} (hS : SortAny P f g) {W : XW} {n : Nat} {m : List HB} {T : TypeId} (hm : m ≠ []) (hml : m.length < 4611686018427387904) (hg : W.get n = some (.cells (rowHs m) T (0, 0))) :
    Local P f [.slice (some ⟨n, 0, none⟩) m.length openCap, .func (.func g) #[] #[]] W fun e W' => e = .ret (.tuple #[]) ∧ W' = W.put n (some (.cells (rowHs (sortH m)) T (0, 0))) := by
  intro ρ args' w mm hfr hH hA
  have hml0 : 0 < m.length := List.length_pos_iff.2 hm
  cases hA with
  | cons _ x _ l' h1 h2 =>
  cases h2 with
  | cons _ y _ l'' h3 h4 =>
  cases h4
  have hy : y = .func (.func g) #[] #[] := h3.of_flat 1 rfl
  subst hy
  obtain ⟨i, cap', hi, hx⟩ : ∃ i cap', ρ n = some i ∧ x = .slice (some ⟨i.b, 0 + i.s, none⟩) m.length cap' := by
    generalize hs : Value.slice (some ⟨n, 0, none⟩) m.length openCap = s at h1
    cases h1 with
    | flat k v h => subst hs; cases k <;> simp [flatN] at h
    | slice n o len cap i h hc => cases hs; cases hc
    | sliceO n o len cap cap' i h hc hl hr hz => cases hs; exact ⟨i, cap', h, rfl⟩
    | sliceE n o cap a i h hc hr => simp only [Value.slice.injEq] at hs; omega
    | sliceZ n o a i h => simp only [Value.slice.injEq] at hs; omega
    | frz cs cs' len b off cap c' e fr hB hl hc h => exact absurd hs (by simp [FZ])
    | frzE a cap => exact absurd hs (by simp [FZ])
    | _ => cases hs
  subst hx
  obtain ⟨ob, hob, hor⟩ := hH.obj n i _ hi hg
  cases hor with
  | cells _ _ _ c' fr' hz hr hk hl hv hf hq hmz =>
  have hrl := rowHs_length m
  have hlen : (rowHs m).length = i.r := hr
  have hflat : ∀ (l : List HB) (j : Nat) (v : Value), (rowHs l)[j]? = some v → flatN 7 v = true := fun l j v e => flat_rowHs l v (List.mem_of_getElem? e)
  have hold : HoldsK encH 32 w i.b (0 + i.s) m.toArray := fun j hj => by
    rw [size_flatK, List.size_toArray] at hj
    have hjl : j < (rowHs m).length := by omega
    obtain ⟨v', q1, q2⟩ := hv j _ (List.getElem?_eq_getElem hjl)
    have q3 := q2.of_flat 7 (hflat m j _ (List.getElem?_eq_getElem hjl))
    subst q3
    refine ⟨?_, ?_⟩
    · rw [cell_of_heap hob, flatK_row, Nat.zero_add, q1]
      simp [Array.getElem!_eq_getD, Array.getD, hjl]
    · cases hfz : w.frozen? ⟨i.b, 0 + i.s + j, none⟩ with
      | false => rfl
      | true =>
        exfalso
        unfold World.frozen? at hfz
        rw [hob] at hfz
        simp only [Bool.and_eq_true, decide_eq_true_eq, Nat.zero_add] at hfz
        have := hf j (by omega) hfz.1 hfz.2
        exact absurd this.2 (by simp)
  have hc := hS i.b (0 + i.s) cap' m.toArray w hold (Array.getElem?_eq_some_iff.1 hob).1 (by rw [List.size_toArray]; exact hml)
  rw [List.size_toArray] at hc
  refine CallsIn.mono (callsIn_wide.2 hc) fun en w' ⟨he, nn, os, hw⟩ => ?_
  subst he
  subst hw
  rw [show m.toArray.toList = m by simp]
  have hb' := sortW_block (enc := encH) (k := 32) (off := 0 + i.s) (n := nn) (d := (sortH m).toArray) (os := os) hob
  have hsl := rowHs_length (sortH m)
  rw [sortH_length] at hsl
  have hor' : OR P ρ i (.cells (rowHs (sortH m)) T (0, 0)) (.cells (putCells id (0 + i.s) (flatK encH 32 (sortH m).toArray) c') T fr') := by
    refine .cells _ _ _ _ _ (by simpa [putCells] using hz) (by omega) hk hl (fun j v e => ?_) hf hq hmz
    have hjl : j < (rowHs (sortH m)).length := (List.getElem?_eq_some_iff.1 e).1
    refine ⟨v, ?_, .flat 7 v (hflat _ j v e)⟩
    rw [flatK_row]
    have hlt : i.s + j < c'.size := by omega
    have hget : (rowHs (sortH m))[j] = v := (List.getElem?_eq_some_iff.1 e).2
    unfold putCells
    rw [Array.getElem?_mapIdx, Array.getElem?_eq_getElem hlt, Option.map_some, if_pos ⟨by omega, by rw [List.size_toArray]; omega⟩, show i.s + j - (0 + i.s) = j by omega]
    simp [Array.getElem!_eq_getD, Array.getD, hjl, hget]
  have hp := hH.put hi (by rw [hg]; simp) _ (sortW_keeps (enc := encH) (k := 32) (off := 0 + i.s) (n := nn) (d := (sortH m).toArray) (os := os)) hb' hor'
  exact ⟨_, _, ⟨rfl, rfl⟩, ρ, hp.2, hp.1, .flat 1 _ rfl⟩
end Go.Proofs.YthlkgmdkabelpaaGreat.X
namespace Go.Proofs.YthlkgmdkabelpaaGreat.X
open Go Go.RowKit
def clV : Value := .func (.func 51) #[] #[]
def SrtS (es : ObL) (e : XEnd) (W' : XW) : Prop := e = .ret (.slice (some ⟨7, 0, none⟩) es.length openCap) ∧ W'.get 0 = some mainO ∧ W'.get 1 = some (mapO es) ∧ W'.get 7 = some (rowO (sortH (keysS es))) ∧ W'.next ≤ 20
theorem sortedLocal (hS : SortAny Tryz.prog 89 51) (es : ObL) (hn : es.length ≤ 1000000) (hne : es ≠ []) :
    Local Tryz.prog 49 [sqV, clV] (wd [(0, some mainO), (1, some (mapO es)), (2, some boxO)] 3 [] 0) (SrtS es) := by
  refine lit_local base0 Tryz.func49 rfl (Nat.le_of_ble_eq_true rfl) ?_
  simp only [frOfL.eq_1, frOfL.eq_2, wd_next, Tryz.ntmps49, Nat.reduceAdd]
  refine xwp_seq (xwp_region (e := ?e1) (s' := ?s1) base0 ?h1 ?q1)
  case h1 =>
    simp (disch := first | decide | omega | (simp only [List.length_cons, List.length_nil, List.length_append, length_bvs, List.length_take, List.length_drop]; omega)) only [go_sem, Nat.reduceAdd, Nat.reduceMul, Nat.reduceSub]
    all_goals with_reducible rfl
  case q1 =>
  refine xwp_seq (xops_region ?_)
  refine xops_step base0 1 (s1 := ?sA) ?hA (xops_call (f := 88) (args := [sqV]) (S := AppS es) (enters_of (by kernel_rfl)) rfl ?hxA ?hlA ?qA)
  case hA =>
    simp (disch := first | decide | omega | (simp only [List.length_cons, List.length_nil, List.length_append, length_bvs, List.length_take, List.length_drop]; omega)) only [go_sem, Nat.reduceAdd, Nat.reduceMul, Nat.reduceSub]
    all_goals with_reducible rfl
  case hxA =>
    simp (disch := first | decide | omega | (simp only [List.length_cons, List.length_nil, List.length_append, length_bvs, List.length_take, List.length_drop]; omega)) only [sqV, clV, go_sem, Nat.reduceAdd, Nat.reduceMul, Nat.reduceSub]
  case hlA => exact collectLocal es hn hne
  case qA =>
  intro e W' ⟨m, h1, h2, h3, h4, h5, h6, h7⟩
  refine ⟨_, _, h3, putX_frm (by decide), ?_⟩
  refine xops_le (chle_get (L := [(0, some mainO), (1, some (mapO es)), (7, some (rowO m))]) (n' := 20) (lg := []) (nl := 0) h7 fun n o e => ?_) ?_
  · have hcases := lk_mem e
    simp only [List.mem_cons, List.not_mem_nil, or_false, Prod.mk.injEq, Option.some.injEq] at hcases
    rcases hcases with ⟨rfl, rfl⟩ | ⟨rfl, rfl⟩ | ⟨rfl, rfl⟩ <;> assumption
  have hm0 : m ≠ [] := fun e => by rw [e] at h2; exact hne (List.length_eq_zero_iff.1 h2.symm)
  have hmk : sortH m = sortH (keysS es) := sortH_congr h1
  refine xops_step base0 1 (s1 := ?sB) ?hB (xops_nil ?qB)
  case hB =>
    simp (disch := first | decide | omega | (simp only [List.length_cons, List.length_nil, List.length_append, length_bvs, List.length_take, List.length_drop]; omega)) only [go_sem, Nat.reduceAdd, Nat.reduceMul, Nat.reduceSub]
    all_goals with_reducible rfl
  case qB =>
  refine xwp_seq (xops_region ?_)
  refine xops_step base0 1 (s1 := ?sC) ?hC ?qC
  case hC =>
    simp (disch := first | decide | omega | (simp only [List.length_cons, List.length_nil, List.length_append, length_bvs, List.length_take, List.length_drop]; omega)) only [go_sem, Nat.reduceAdd, Nat.reduceMul, Nat.reduceSub]
    all_goals with_reducible rfl
  case qC =>
  refine xops_step base0 1 (s1 := ?sD) ?hD (xops_call (f := 89) (args := [.slice (some ⟨7, 0, none⟩) m.length openCap, clV])
    (S := fun e W' => e = .ret (.tuple #[]) ∧ W' = (wd [(0, some mainO), (1, some (mapO es)), (7, some (rowO m))] 20 [] 0).put 7 (some (.cells (rowHs (sortH m)) 24 (0, 0)))) (enters_of (by kernel_rfl)) rfl ?hxD ?hlD ?qD)
  case hD =>
    simp (disch := first | decide | omega | (simp only [List.length_cons, List.length_nil, List.length_append, length_bvs, List.length_take, List.length_drop]; omega)) only [go_sem, Nat.reduceAdd, Nat.reduceMul, Nat.reduceSub]
    all_goals with_reducible rfl
  case hxD =>
    simp (disch := first | decide | omega | (simp only [List.length_cons, List.length_nil, List.length_append, length_bvs, List.length_take, List.length_drop]; omega)) only [sqV, clV, go_sem, Nat.reduceAdd, Nat.reduceMul, Nat.reduceSub]
  case hlD => exact sort_call hS hm0 (by omega) rfl
  case qD =>
  intro e W' ⟨he, hw⟩
  subst hw
  refine ⟨_, _, he, putX_frm (by decide), ?_⟩
  refine xops_le (chle_get (L := [(0, some mainO), (1, some (mapO es)), (7, some (rowO (sortH m)))]) (n' := 20) (lg := []) (nl := 0) (Nat.le_refl _) fun n o e => ?_) ?_
  · have hcases := lk_mem e
    simp only [List.mem_cons, List.not_mem_nil, or_false, Prod.mk.injEq, Option.some.injEq] at hcases
    rcases hcases with ⟨rfl, rfl⟩ | ⟨rfl, rfl⟩ | ⟨rfl, rfl⟩ <;> rfl
  refine xops_nil ?_
  refine xwp_seq (xwp_region (e := ?e2) (s' := ?s2) base0 ?h2 ?q2)
  case h2 =>
    simp (disch := first | decide | omega | (simp only [List.length_cons, List.length_nil, List.length_append, length_bvs, List.length_take, List.length_drop]; omega)) only [go_sem, Nat.reduceAdd, Nat.reduceMul, Nat.reduceSub]
    all_goals with_reducible rfl
  case q2 =>
  refine xwp_ret ?_
  refine ⟨_, ?e3, ?W3, rfl, ?h3, ?q3⟩
  case h3 =>
    simp (disch := first | decide | omega | (simp only [List.length_cons, List.length_nil, List.length_append, length_bvs, List.length_take, List.length_drop]; omega)) only [Tryz.results49, go_sem, Nat.reduceAdd, Nat.reduceMul, Nat.reduceSub]
    all_goals with_reducible rfl
  case q3 =>
  refine ⟨by rw [h2], ?_, ?_, ?_, ?_⟩
  · simp (disch := first | decide | omega | (simp only [List.length_cons, List.length_nil, List.length_append, length_bvs, List.length_take, List.length_drop]; omega)) only [go_sem, Nat.reduceAdd, Nat.reduceMul, Nat.reduceSub]
  · simp (disch := first | decide | omega | (simp only [List.length_cons, List.length_nil, List.length_append, length_bvs, List.length_take, List.length_drop]; omega)) only [go_sem, Nat.reduceAdd, Nat.reduceMul, Nat.reduceSub]
  · simp (disch := first | decide | omega | (simp only [List.length_cons, List.length_nil, List.length_append, length_bvs, List.length_take, List.length_drop]; omega)) only [← hmk, go_sem, Nat.reduceAdd, Nat.reduceMul, Nat.reduceSub]
  · exact Nat.le_refl _
end Go.Proofs.YthlkgmdkabelpaaGreat.X
namespace Go.Proofs.YthlkgmdkabelpaaGreat.X
open Go Go.RowKit
theorem allNe (hS : SortAny Tryz.prog 89 51) (es : ObL) (hn : es.length ≤ 1000000) (hne : es ≠ []) :
    Local Tryz.prog 26 [.pointer (some ⟨0, 0, none⟩)] (wd [(0, some mainO), (1, some (mapO es))] 2 [] 0)
      fun e W' => e = .ret (hsV (sortH (keysS es))) ∧ W'.get 0 = some mainO ∧ W'.get 1 = some (mapO es) := by
  refine lit_local base0 Tryz.func26 rfl (Nat.le_of_ble_eq_true rfl) ?_
  simp only [frOfL.eq_1, frOfL.eq_2, wd_next, Tryz.ntmps26, Nat.reduceAdd]
  refine xwp_seq (xwp_region (e := ?e1) (s' := ?s1) base0 ?h1 ?q1)
  case h1 =>
    simp (disch := first | decide | omega | (simp only [List.length_cons, List.length_nil, List.length_append, length_bvs, List.length_take, List.length_drop]; omega)) only [go_sem, Nat.reduceAdd, Nat.reduceMul, Nat.reduceSub]
    all_goals with_reducible rfl
  case q1 =>
  refine xwp_seq ?_
  refine xwp_seq (xwp_region (e := ?e2) (s' := ?s2) base0 ?h2 ?q2)
  case h2 =>
    simp (disch := first | decide | omega | (simp only [List.length_cons, List.length_nil, List.length_append, length_bvs, List.length_take, List.length_drop]; omega)) only [bin_pnil Tryz.underlying26, go_sem, Nat.reduceAdd, Nat.reduceMul, Nat.reduceSub]
    all_goals with_reducible rfl
  case q2 =>
  refine xwp_cf ?h3 ?q3
  case h3 =>
    simp (disch := first | decide | omega | (simp only [List.length_cons, List.length_nil, List.length_append, length_bvs, List.length_take, List.length_drop]; omega)) only [go_sem, Nat.reduceAdd, Nat.reduceMul, Nat.reduceSub]
    all_goals with_reducible rfl
  case q3 =>
  refine xwp_skip ?_
  refine xwp_seq (xops_region ?_)
  refine xops_step base0 1 (s1 := ?sA) ?hA ?qA
  case hA =>
    simp (disch := first | decide | omega | (simp only [List.length_cons, List.length_nil, List.length_append, length_bvs, List.length_take, List.length_drop]; omega)) only [go_sem, Nat.reduceAdd, Nat.reduceMul, Nat.reduceSub]
    all_goals with_reducible rfl
  case qA =>
  refine xops_step base0 1 (s1 := ?sB) ?hB ?qB
  case hB =>
    simp (disch := first | decide | omega | (simp only [List.length_cons, List.length_nil, List.length_append, length_bvs, List.length_take, List.length_drop]; omega)) only [go_sem, Nat.reduceAdd, Nat.reduceMul, Nat.reduceSub]
    all_goals with_reducible rfl
  case qB =>
  refine xops_step base0 1 (s1 := ?sC) ?hC ?qC
  case hC =>
    simp (disch := first | decide | omega | (simp only [List.length_cons, List.length_nil, List.length_append, length_bvs, List.length_take, List.length_drop]; omega)) only [mainO, go_sem, Nat.reduceAdd, Nat.reduceMul, Nat.reduceSub]
    all_goals with_reducible rfl
  case qC =>
  refine xops_step base0 1 (s1 := ?sD) ?hD (xops_call (f := 50) (args := [.map (some 1)])
    (S := fun e W' => e = .ret sqV ∧ W'.get 0 = some mainO ∧ W'.get 1 = some (mapO es) ∧ W'.get 2 = some boxO ∧ W'.next ≤ 3) (enters_of (by kernel_rfl)) rfl ?hxD ?hlD ?qD)
  case hD =>
    simp (disch := first | decide | omega | (simp only [List.length_cons, List.length_nil, List.length_append, length_bvs, List.length_take, List.length_drop]; omega)) only [mainO, go_sem, Nat.reduceAdd, Nat.reduceMul, Nat.reduceSub]
    all_goals with_reducible rfl
  case hxD =>
    simp (disch := first | decide | omega | (simp only [List.length_cons, List.length_nil, List.length_append, length_bvs, List.length_take, List.length_drop]; omega)) only [go_sem, Nat.reduceAdd, Nat.reduceMul, Nat.reduceSub]
  case hlD => exact keysLocal es
  case qD =>
  intro e W' ⟨h1, h2, h3, h4, h5⟩
  refine ⟨_, _, h1, putX_frm (by decide), ?_⟩
  refine xops_le (chle_get (L := [(0, some mainO), (1, some (mapO es)), (2, some boxO)]) (n' := 3) (lg := []) (nl := 0) h5 fun n o e => ?_) ?_
  · have hcases := lk_mem e
    simp only [List.mem_cons, List.not_mem_nil, or_false, Prod.mk.injEq, Option.some.injEq] at hcases
    rcases hcases with ⟨rfl, rfl⟩ | ⟨rfl, rfl⟩ | ⟨rfl, rfl⟩ <;> assumption
  refine xops_call (f := 49) (args := [sqV, clV]) (S := SrtS es) (enters_of (by kernel_rfl)) rfl ?hxE (sortedLocal hS es hn hne) ?qE
  case hxE =>
    simp (disch := first | decide | omega | (simp only [List.length_cons, List.length_nil, List.length_append, length_bvs, List.length_take, List.length_drop]; omega)) only [sqV, clV, go_sem, Nat.reduceAdd, Nat.reduceMul, Nat.reduceSub]
  case qE =>
  intro e W' ⟨h1, h2, h3, h4, h5⟩
  refine ⟨_, _, h1, putX_frm (by decide), ?_⟩
  refine xops_le (chle_get (L := [(0, some mainO), (1, some (mapO es)), (7, some (rowO (sortH (keysS es))))]) (n' := 20) (lg := []) (nl := 0) h5 fun n o e => ?_) ?_
  · have hcases := lk_mem e
    simp only [List.mem_cons, List.not_mem_nil, or_false, Prod.mk.injEq, Option.some.injEq] at hcases
    rcases hcases with ⟨rfl, rfl⟩ | ⟨rfl, rfl⟩ | ⟨rfl, rfl⟩ <;> assumption
  refine xops_step base0 1 (s1 := ?sF) ?hF (xops_nil ?qF)
  case hF =>
    simp (disch := first | decide | omega | (simp only [List.length_cons, List.length_nil, List.length_append, length_bvs, List.length_take, List.length_drop]; omega)) only [go_sem, Nat.reduceAdd, Nat.reduceMul, Nat.reduceSub]
    all_goals with_reducible rfl
  case qF =>
  have hkl : (sortH (keysS es)).length = es.length := by rw [sortH_length]; exact List.length_map ..
  obtain ⟨m, hm⟩ : ∃ m, m = sortH (keysS es) := ⟨_, rfl⟩
  rw [← hm] at hkl ⊢
  refine xwp_le (freeze_ret (L' := [(0, some mainO), (1, some (mapO es))]) 2 7 (c := rowHs m) (e := 24) (fr := (0, 0)) (len := es.length) (by simp (disch := first | decide | omega) only [lk_hit, lk_miss]; rfl) (by decide) (by decide) (by decide) (by simp (disch := first | decide | omega) only [lk_hit, lk_miss]) (Nat.le_trans hn (by decide)) (fun e => absurd (List.length_eq_zero_iff.1 e) hne) (by simp (disch := decide) [AllLk, lk_hit, lk_miss, lk_nil])) ?_
  refine xwp_ret ?_
  refine ⟨_, ?e4, ?W4, rfl, ?h4, ?q4⟩
  case h4 =>
    simp (disch := first | decide | omega | (simp only [List.length_cons, List.length_nil, List.length_append, length_bvs, List.length_take, List.length_drop]; omega)) only [Tryz.results26, go_sem, Nat.reduceAdd, Nat.reduceMul, Nat.reduceSub]
    all_goals with_reducible rfl
  case q4 =>
  refine ⟨?_, ?_, ?_⟩
  · unfold hsV
    rw [hkl]
    obtain ⟨n, hn'⟩ : ∃ n, es.length = n + 1 := ⟨es.length - 1, by have := List.length_pos_iff.2 hne; omega⟩
    rw [hn']; rfl
  · simp (disch := first | decide | omega | (simp only [List.length_cons, List.length_nil, List.length_append, length_bvs, List.length_take, List.length_drop]; omega)) only [go_sem, Nat.reduceAdd, Nat.reduceMul, Nat.reduceSub]
  · simp (disch := first | decide | omega | (simp only [List.length_cons, List.length_nil, List.length_append, length_bvs, List.length_take, List.length_drop]; omega)) only [go_sem, Nat.reduceAdd, Nat.reduceMul, Nat.reduceSub]
end Go.Proofs.YthlkgmdkabelpaaGreat.X
namespace Go.Proofs.YthlkgmdkabelpaaGreat.X
open Go Go.RowKit
theorem run_range_nil {P : Program} {t kt el : TypeId} (ht : P.underlying t = some (.map kt el)) (w : World) : (Instr.range t (.map none)).run P w = .ok (.pointer (some ⟨w.heap.size, 0, none⟩)) (w.alloc (.mapIter none 0 #[] 0)) := by
  unfold Instr.range
  simp only [Sem.run_bind, run_und ht, Result.andThen_ok, Sem.run_pure]
  rfl
theorem run_next_nil {P : Program} {ty : TypeId} {b : Nat} {w : World} (h : w.heap[b]? = some (.mapIter none 0 #[] 0)) : (Instr.next (.pointer (some ⟨b, 0, none⟩)) false ty).run P w = .ok (.tuple #[.bool false]) w := by
  unfold Instr.next
  simp only [Sem.run_bind, run_getIter h, Result.andThen_ok, Sem.run_pure]
set_option maxRecDepth 100000 in
theorem keysNil (y : Value) (b o : Nat) (w : World) (hc : w.cell? ⟨b, o, none⟩ = some (.map none)) (hb : b < w.heap.size) :
    Calls Tryz.prog 90 #[y, .pointer (some ⟨b, o, none⟩)] w fun e w' => e = .returned (.tuple #[]) ∧ Keeps noBlock w w' := by
  have hr := run_range_nil Tryz.underlying63 w
  obtain ⟨w1, hw1⟩ : ∃ w1, w1 = w.alloc (.mapIter none 0 #[] 0) := ⟨_, rfl⟩
  have z1 : w1.heap[w.heap.size]? = some (.mapIter none 0 #[] 0) := by rw [hw1]; exact heap_alloc_at
  have k1 : Keeps noBlock w w1 := by rw [hw1]; exact (Keeps.refl _ _).alloc _
  rw [← hw1] at hr
  have Z1 := Lib.hid z1; have K1 := Lib.hid k1
  clear hw1 z1 k1
  go_enter Tryz.func90, Tryz.ntmps90
  go_wp2_with fail
  go_loopw [3] (fun _ wr => Keeps noBlock w1 wr) (fun _ _ => 1)
  case atStart => exact Keeps.refl _ _
  case round =>
    have hkr := hrel
    have hnx := run_next_nil (P := Tryz.prog) (ty := 0) (hkr.heap Z1.out (fun e => e))
    have HKR := Lib.hid hkr
    clear hkr
    go_wp2_with fail
    go_end0
    exact ⟨rfl, K1.out.trans HKR.out⟩
def hKn0 (W : XW) : Option XObj → Option (XEnd × XW)
  | some (.cells [.map none] _ _) => some (.ret (.tuple #[]), W)
  | _ => none
def hKn : HF := fun args W => match args with
  | [_, .pointer (some ⟨n, 0, none⟩)] => hKn0 W (W.get n)
  | _ => none
theorem hKn_inv {args : List Value} {W W' : XW} {e : XEnd} (h : hKn args W = some (e, W')) : ∃ y n t fr, args = [y, .pointer (some ⟨n, 0, none⟩)] ∧ W.get n = some (.cells [.map none] t fr) ∧ e = .ret (.tuple #[]) ∧ W' = W := by
  unfold hKn at h
  split at h
  · rename_i y n
    unfold hKn0 at h
    split at h
    · rename_i t fr hg; cases h; exact ⟨y, n, t, fr, rfl, hg, rfl, rfl⟩
    · cases h
  · cases h
theorem okKn : HookOk Tryz.prog 90 hKn := ⟨enters_of (by kernel_rfl), fun args W e W' h => by
    obtain ⟨y, n, t, fr, rfl, hg, rfl, rfl⟩ := hKn_inv h
    exact .refl _, fun args W e W' h ρ args' w m hfr hH hA => by
    obtain ⟨y, n, t, fr, rfl, hg, rfl, rfl⟩ := hKn_inv h
    cases hA with
    | cons _ y' _ l' h1 h2 =>
    cases h2 with
    | cons _ x _ l'' h3 h4 =>
    cases h4
    obtain ⟨i, hi, rfl⟩ := h3.ptrInv
    obtain ⟨ob, hob, hor⟩ := hH.obj n i _ hi hg
    cases hor with
    | cells _ _ _ c' fr' hz hr hk hl hv hf hq hmz =>
    obtain ⟨v', q1, q2⟩ := hv 0 _ rfl
    have q3 := q2.of_flat 1 rfl
    subst q3
    have hc : w.cell? ⟨i.b, 0 + i.s, none⟩ = some (.map none) := by rw [cell_of_heap hob, Nat.zero_add]; exact q1
    refine CallsIn.mono (callsIn_wide.2 (keysNil y' i.b (0 + i.s) w hc (Array.getElem?_eq_some_iff.1 hob).1)) fun en w' ⟨he, hk'⟩ => ?_
    subst he
    exact ⟨ρ, .keep hk', hH.keep hk', .flat 1 _ rfl⟩⟩
theorem base3 : Base Tryz.prog (hooksOf [(90, hKn)] []) := ⟨mixed, hooksOf_sim (.cons _ _ _ okKn .nil) .nil⟩
end Go.Proofs.YthlkgmdkabelpaaGreat.X
namespace Go.Proofs.YthlkgmdkabelpaaGreat.X
open Go Go.RowKit
theorem local_run {P : Program} {H : Hooks} (hB : Base P H) (n : Nat) {f : FuncId} {args : List Value} {W W' : XW} {e : XEnd} (h : xrun P H n (.call f args W) = some (.fin e W')) : Local P f args W fun e2 W2 => e2 = e ∧ W2 = W' := by
  intro ρ args' w m hfr hH hA
  obtain ⟨hC, hF, _⟩ := xrun_sim hB.mixed hB.sim (drawn_sim hB.mixed) n
  obtain ⟨_, k⟩ := hF f args W e W' h
  exact CallsIn.mono (k ρ args' w m (fun n h1 h2 => hfr n h1) hH hA) fun en w' hq => ⟨e, W', ⟨rfl, rfl⟩, hq⟩
def fin0 (t : TypeId) : Option XO → Bool
  | some (.fin (.ret (.slice none 0 0)) W') => match W'.get 0 with
    | some (.cells [.map none] u (0, 0)) => Nat.beq u t
    | _ => false
  | _ => false
theorem fin0_of {t : TypeId} {r : Option XO} (h : fin0 t r = true) : ∃ W', r = some (.fin (.ret (.slice none 0 0)) W') ∧ W'.get 0 = some (.cells [.map none] t (0, 0)) := by
  unfold fin0 at h
  split at h
  · rename_i W'
    split at h
    · rename_i u hg
      exact ⟨W', rfl, by rw [hg, Nat.eq_of_beq_eq_true h]⟩
    · cases h
  · cases h
set_option maxRecDepth 100000 in
theorem all0_run : fin0 65 (xrun Tryz.prog (hooksOf [(90, hKn)] []) 4000 (.call 26 [.pointer (some ⟨0, 0, none⟩)] (wd [(0, some (.cells [.map none] 65 (0, 0)))] 1 [] 0))) = true := by kernel_rfl
theorem all0 : Local Tryz.prog 26 [.pointer (some ⟨0, 0, none⟩)] (wd [(0, some (.cells [.map none] 65 (0, 0)))] 1 [] 0)
    fun e W' => e = .ret (hsV []) ∧ W'.get 0 = some (.cells [.map none] 65 (0, 0)) := by
  obtain ⟨W', h1, h2⟩ := fin0_of all0_run
  exact Local.mono (local_run base3 4000 h1) fun e W2 ⟨q1, q2⟩ => by subst q1; subst q2; exact ⟨rfl, h2⟩
open Classical in
noncomputable def pAllS : PP ObL := fun xs es => if xs = [] ∧ es.length ≤ 1000000 then some (hsV (sortH (keysS es)), es, .rd) else none
theorem pAllS_eq {es : ObL} (hn : es.length ≤ 1000000) : pAllS [] es = some (hsV (sortH (keysS es)), es, .rd) := if_pos ⟨rfl, hn⟩
theorem okAll (hS : SortAny Tryz.prog 89 51) : HookOk Tryz.prog 26 (prH stE pAllS) := by
  have inv : ∀ {xs : List Value} {es es' : ObL} {v : Value} {md : Md}, pAllS xs es = some (v, es', md) → xs = [] ∧ es.length ≤ 1000000 ∧ v = hsV (sortH (keysS es)) ∧ es' = es ∧ md = .rd := fun {xs es es' v md} h => by
    unfold pAllS at h
    split at h
    · rename_i hx; cases h; exact ⟨hx.1, hx.2, rfl, rfl, rfl⟩
    · cases h
  refine pr_ok (enters_of (by kernel_rfl)) (fun xs a v a' md h => ?_) (fun xs a v a' md h => ?_)
  · obtain ⟨rfl, _, rfl, _, _⟩ := inv h
    exact ⟨bares_nil, bare_hsV _⟩
  · obtain ⟨rfl, hn, rfl, rfl, rfl⟩ := inv h
    cases a' with
    | nil => exact Local.mono all0 fun e W' ⟨h1, h2⟩ => ⟨by rw [h1]; simp [keysS, sortH], h2, fun o h => (by cases h)⟩
    | cons x l => exact Local.mono (allNe hS (x :: l) hn (by simp)) fun e W' ⟨h1, h2, h3⟩ => ⟨h1, h2, fun o h => by cases h; exact h3⟩
end Go.Proofs.YthlkgmdkabelpaaGreat.X
namespace Go.Proofs.YthlkgmdkabelpaaGreat.X
open Go Go.RowKit
noncomputable def tab16 : List (FuncId × HF) := [(28, hSha), (27, hSha), (73, hCC)]
theorem tab16_ok : TabOk Tryz.prog tab16 := .cons _ _ _ okSum (.cons _ _ _ okRSum (.cons _ _ _ okCC .nil))
noncomputable def dtab16 (n : Nat) : List (FuncId × HD) := [(46, dRun Tryz.prog (xrun Tryz.prog (hooksOf tab16 []) n) 46)]
theorem dtab16_ok (n : Nat) : TabDOk Tryz.prog (dtab16 n) := by
  have h0 : HSim Tryz.prog (hooksOf tab16 []) := hooksOf_sim tab16_ok .nil
  have hR := xrun_ext (P := Tryz.prog) h0.ext n
  have hC := (xrun_sim mixed h0 (drawn_sim mixed) n).1
  exact .cons _ _ _ (dRun_ok (enters_of (by kernel_rfl)) hR hC) .nil
noncomputable def hooks16 (n : Nat) : Hooks := hooksOf tab16 (dtab16 n)
theorem base16 (n : Nat) : Base Tryz.prog (hooks16 n) := ⟨mixed, hooksOf_sim tab16_ok (dtab16_ok n)⟩
def fin1 : Option XO → Bool
  | some (.fin (.ret (.bool true)) _) => true
  | _ => false
theorem fin1_of {r : Option XO} (h : fin1 r = true) : ∃ W', r = some (.fin (.ret (.bool true)) W') := by
  unfold fin1 at h
  split at h
  · exact ⟨_, rfl⟩
  · cases h
theorem calls_local {P : Program} {f : FuncId} {args args' : List Value} {w : World} {v : Value} {k : Nat} (hk : flatN k v = true) (h : Local P f args (wd [] 0 [] 0) fun e W' => e = .ret v)
    (hA : ∀ ρ : Ren, (∀ b, ρ.fz b = w.heap[b]?) → VRs ρ args args') : Calls P f args'.toArray w fun en w' => en = .returned v ∧ Keeps noBlock w w' := by
  refine callsIn_wide.1 (CallsIn.mono (h ⟨fun _ => none, fun b => w.heap[b]?⟩ args' w 0 (fun n _ => rfl) ⟨fun n i o q _ => (by cases q), fun n m i j q _ _ _ _ => (by cases q), fun b o q => ⟨q, fun ⟨n, i, q1, _⟩ => by cases q1⟩⟩ (hA _ fun _ => rfl)) fun en w' hx => ?_)
  obtain ⟨e, W', rfl, ρ', hs, _, he⟩ := hx
  cases en <;> first | exact he.elim | skip
  rename_i u
  have hu : VR ρ' v u := he
  refine ⟨by rw [hu.of_flat k hk], hs.keeps.mono fun b _ hb => ?_⟩
  obtain ⟨n, i, q1, _⟩ := hb
  cases q1
set_option maxRecDepth 100000 in
theorem san_run : fin1 (xrun Tryz.prog (hooks16 100000) 100000 (.call 7 [] (wd [] 0 [] 0))) = true := by kernel_rfl
theorem sanLocal : Local Tryz.prog 7 [] (wd [] 0 [] 0) fun e W' => e = .ret (.bool true) := by
  obtain ⟨W', h⟩ := fin1_of san_run
  exact Local.mono (local_run (base16 100000) 100000 h) fun e W2 ⟨q, _⟩ => q
def pSan : List Value → Option Value
  | [] => some (.bool true)
  | _ => none
theorem okSan : HookOk Tryz.prog 7 (pureH pSan) := by
  refine pureH_ok (enters_of (by kernel_rfl)) (fun xs v h => ?_) (fun xs v h => ?_)
  · cases xs with
    | nil => cases h; exact ⟨bares_nil, bare_flat 1 rfl⟩
    | cons a l => cases h
  · cases xs with
    | nil => cases h; exact sanLocal
    | cons a l => cases h
end Go.Proofs.YthlkgmdkabelpaaGreat.X
namespace Go.Proofs.YthlkgmdkabelpaaGreat.X
open Go Go.RowKit Go.Shelf Go.Sort Go.Lib
theorem sortAny : SortAny Tryz.prog 89 51 := fun blk off cap d w hH hb hs => by
  have eg : ∀ args w, (callFunc 51 args).run Tryz.prog w = .ok (.enter 51 args) w := Go.Proofs.enters_of Tryz.func51 (by kernel_rfl) rfl
  have h := AnyQ.slices_SortFunc_total Tryz.sortHash 32 Tryz.isAgg24 Tryz.sizeOf24 encH (fun x => by unfold encH; rw [length_bvs, x.2]) (fun x v hv => by
    obtain ⟨b, _, rfl⟩ := List.mem_map.1 hv
    rfl) cfH cf_swo 51 #[] blk off cap d w eg (fun _ _ _ _ x y => closureAny x y _) hH hb hs (fun x y h1 h2 => by
    rw [lt_fun] at h1 h2
    exact lessB_total h1 h2)
  rw [lt_fun] at h
  exact h
end Go.Proofs.YthlkgmdkabelpaaGreat.X
