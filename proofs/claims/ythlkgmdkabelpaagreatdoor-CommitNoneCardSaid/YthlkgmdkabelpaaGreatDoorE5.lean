/-
  The operations that leave the heap alone, or lay one object: each carried out at related operands. Over any program. No condition.
-/
import Derived.Test.YthlkgmdkabelpaaGreatDoorE4
namespace Go.Proofs.YthlkgmdkabelpaaGreatDoor.X
open Go Go.RowKit
set_option linter.unusedVariables false

def Gives (P : Program) (S : Sem Next) (w : World) (u : Value) (w' : World) : Prop := S.run P w = .ok (.value u) w' ∨ (S.run P w = .ok .skip w' ∧ u = undef)
def XOk (P : Program) (ρ : Ren) (W : XW) (w : World) (S : Sem Next) : XR → Prop
  | .val v => ∃ u, Gives P S w u w ∧ ∀ x, v = some x → VR ρ x u
  | .new o k => ρ W.next = none → ∃ u ρ' w', Gives P S w u w' ∧ Step ρ W.get W.next w ρ' (W.push o).get (W.push o).next w' ∧ HR P ρ' (W.push o).get w' ∧ VR ρ' (k W.next) u
  | .mod v W' => Fresh ρ W.next W'.next → ∃ u ρ' w', Gives P S w u w' ∧ Step ρ W.get W.next w ρ' W'.get W'.next w' ∧ HR P ρ' W'.get w' ∧ VR ρ' v u
  | .enter f args => ∃ args' : List Value, S.run P w = (callFunc f args'.toArray).run P w ∧ VRs ρ args args'
  | .pan v => ∃ v', S.run P w = .halt (.panic v') w ∧ VR ρ v v'
  | .defer f args cap => ∃ as' cs' : List Value, S.run P w = .ok (.defer ⟨.fn (.func f) cs'.toArray, as'.toArray⟩) w ∧ VRs ρ args as' ∧ VRs ρ cap cs'
  | .round l args => ∃ i, ∃ args' : List Value, ρ l = some i ∧ S.run P w = (Instr.yield i.b args'.toArray).run P w ∧ VRs ρ args args'

section
variable {P : Program} {ρ : Ren} {W : XW} {w : World} {fr : XF} {e : Operand → Value}
theorem gv {S : Sem Value} {u : Value} {w' : World} (h : S.run P w = .ok u w') : Gives P (do pure (.value (← S))) w u w' := .inl (by rw [Sem.run_bind, h]; rfl)
theorem gu {S : Sem Unit} {w' : World} (h : S.run P w = .ok () w') : Gives P (do S; pure .skip) w undef w' := .inr ⟨by rw [Sem.run_bind, h]; rfl, rfl⟩
theorem xv {S : Sem Value} {v u : Value} (h : S.run P w = .ok u w) (hv : VR ρ v u) : XOk P ρ W w (do pure (.value (← S))) (.val (some v)) := ⟨u, gv h, fun x q => by cases q; exact hv⟩
theorem xvF {S : Sem Value} {r : XR} (h : valF (pureS P S) = some r) : XOk P ρ W w (do pure (.value (← S))) r := by
  cases q : pureS P S with
  | none => rw [q] at h; cases h
  | some v =>
    rw [q] at h
    simp only [valF] at h
    cases q2 : flatV v with
    | false => rw [q2] at h; cases h
    | true => rw [q2] at h; cases h; exact xv (run_pureS q w) (.flat 8 _ q2)
theorem xvO {S : Sem Value} {o : Option Value} {r : XR} (h : valO o = some r) (hS : ∀ v, o = some v → ∃ u, S.run P w = .ok u w ∧ VR ρ v u) : XOk P ρ W w (do pure (.value (← S))) r := by
  cases q : o with
  | none => rw [q] at h; cases h
  | some v =>
    rw [q] at h
    cases h
    obtain ⟨u, h1, h2⟩ := hS v q
    exact xv h1 h2
theorem vr_undef : VR ρ undef undef := .flat 1 _ rfl

/-- a new object, by the run that lays it -/
theorem xnew {S : Sem Value} {o : XObj} {k : Nat → Value} {ob : Obj} {i : RI} {u : Value} (hH : HR P ρ W.get w) (hi : i.b = w.heap.size) (hS : S.run P w = .ok u (w.alloc ob)) (ho : ρ W.next = none → OR P (rset ρ W.next i) i o ob)
    (hv : VR (rset ρ W.next i) (k W.next) u) : XOk P ρ W w (do pure (.value (← S))) (.new o k) := fun hn => by
  obtain ⟨h1, h2⟩ := hH.push hn o ob i hi (ho hn)
  exact ⟨u, _, _, gv hS, h2, h1, hv⟩
theorem new_ptr {n b z k r : Nat} : VR (rset ρ n ⟨b, 0, z, k, r⟩) (.pointer (some ⟨n, 0, none⟩)) (.pointer (some ⟨b, 0, none⟩)) := by
  have := VR.ptr (ρ := rset ρ n ⟨b, 0, z, k, r⟩) n 0 _ (rset_same _ _ _)
  simpa using this
theorem new_slice {n b z k r len cap : Nat} (h : isOpen cap = false) : VR (rset ρ n ⟨b, 0, z, k, r⟩) (.slice (some ⟨n, 0, none⟩) len cap) (.slice (some ⟨b, 0, none⟩) len cap) := by
  have := VR.slice (ρ := rset ρ n ⟨b, 0, z, k, r⟩) n 0 len cap _ (rset_same _ _ _) h
  simpa using this
theorem rowOf {e : TypeId} {c : List Value} {c' : Array Value} {n b k : Nat} (hk : ∀ t, P.info? e = some t → t.size = k) (hn : ρ n = none) (hc : VRs ρ c c'.toList) : OR P (rset ρ n ⟨b, 0, c'.size, k, c.length⟩) ⟨b, 0, c'.size, k, c.length⟩ (.cells c e (0, 0)) (.cells c' e (0, 0)) := by
  have hl := hc.length
  refine OR.new hk ?_
  rw [← hl, List.take_length]
  exact hc.mono (rset_le _ hn)

def sizeIs (P : Program) (e : TypeId) : Nat := (sz P e).getD 0
theorem sizeIs_info {e : TypeId} : ∀ t, P.info? e = some t → t.size = sizeIs P e := fun t h => by simp [sizeIs, sz, h]

theorem sim_box {el : TypeId} {v u : Value} {r : XR} (hH : HR P ρ W.get w) (hv : VR ρ v u) (h : boxX el (some v) = some r) : XOk P ρ W w (do pure (.value (← Instr.box el u))) r := by
  cases h
  exact xnew (i := ⟨w.heap.size, 0, u.cells.size, sizeIs P el, v.cells.toList.length⟩) hH rfl (S := Instr.box el u) (u := .pointer (some ⟨w.heap.size, 0, none⟩)) rfl (fun hn => rowOf sizeIs_info hn hv.cells) new_ptr
theorem sim_alloc {el : TypeId} {r : XR} (hH : HR P ρ W.get w) (h : allocX el (zeroOf P el) = some r) : XOk P ρ W w (do pure (.value (← Instr.alloc el true (.tuple #[])))) r := by
  cases q : zeroOf P el with
  | none => rw [q] at h; cases h
  | some z =>
    rw [q] at h
    cases h
    obtain ⟨_, _, _, hf⟩ := zero_info q
    refine xnew (i := ⟨w.heap.size, 0, z.cells.size, sizeIs P el, z.cells.toList.length⟩) hH rfl (u := .pointer (some ⟨w.heap.size, 0, none⟩)) ?_ (fun hn => rowOf sizeIs_info hn (VR.flat 8 z hf).cells) new_ptr
    unfold Instr.alloc
    rw [Sem.run_bind, run_zero q]
    rfl

/-! ### literals -/
theorem fold_get : ∀ (l : List Value) (o k : Nat) (c : Array Value), ((l.zipIdx k).foldl (fun cs (x, j) => cs.setIfInBounds (o + j) x) c) = setL c (o + k) l
  | [], _, _, _ => rfl
  | v :: l, o, k, c => by
    rw [List.zipIdx_cons, List.foldl_cons, fold_get l o (k + 1), setL]
    rfl
theorem setL_list : ∀ (vs : List Value) (o : Nat) (c : List Value), o + vs.length ≤ c.length → (setL c.toArray o vs).toList = wr c o vs
  | vs, o, c, h => by
    apply List.ext_getElem?
    intro j
    rw [Array.getElem?_toList]
    rcases Nat.lt_or_ge j o with q | q
    · rw [setL_out _ _ _ _ (.inl q)]
      unfold wr
      rw [List.getElem?_append_left (by simp; omega), List.getElem?_take, if_pos q, List.getElem?_toArray]
    · rcases Nat.lt_or_ge j (o + vs.length) with q2 | q2
      · have := setL_in vs o c.toArray (j - o) (by simpa using h) (by omega)
        rw [show o + (j - o) = j by omega] at this
        rw [this]
        unfold wr
        rw [List.getElem?_append_right (by simp; omega), List.getElem?_append_left (by simp; omega)]
        congr 1
        simp
        omega
      · rw [setL_out _ _ _ _ (.inr q2)]
        unfold wr
        rw [List.getElem?_append_right (by simp; omega), List.getElem?_append_right (by simp; omega), List.getElem?_drop, List.getElem?_toArray]
        congr 1
        simp
        omega
theorem wr_rel {c c' vs us : List Value} {o : Nat} (h : VRs ρ c c') (hv : VRs ρ vs us) : VRs ρ (wr c o vs) (wr c' o us) := by
  unfold wr
  rw [hv.length]
  exact (h.take o).append (hv.append (h.drop _))
theorem sim_fill {place : Nat → Option (Nat × Nat)} : ∀ {ps qs : List (Nat × Value)} {c c' cs : List Value}, PRs ρ ps qs → VRs ρ c c' → fillX place c ps = some cs →
    ∃ cs' : List Value, Instr.fill place c'.toArray qs = some cs'.toArray ∧ VRs ρ cs cs'
  | _, _, c, c', cs, .nil, hc, h => by cases h; exact ⟨c', rfl, hc⟩
  | _, _, c, c', cs, .cons i v v' l l' hv hs, hc, h => by
    unfold fillX at h
    cases hp : place i with
    | none => rw [hp] at h; cases h
    | some q =>
      obtain ⟨off, size⟩ := q
      simp only [hp] at h
      cases hq : (Nat.beq v.cells.size size && Nat.ble (off + size) c.length) with
      | false => rw [hq] at h; cases h
      | true =>
        rw [hq] at h
        simp only [cond_true] at h
        simp only [Bool.and_eq_true] at hq
        have h1 := Nat.eq_of_beq_eq_true hq.1
        have h2 := Nat.le_of_ble_eq_true hq.2
        have hvc := hv.cells
        have hl := hvc.length
        rw [Array.length_toList, Array.length_toList] at hl
        have hl2 := hc.length
        obtain ⟨cs', r1, r2⟩ := sim_fill hs (wr_rel (o := off) hc hvc) h
        refine ⟨cs', ?_, r2⟩
        rw [← r1]
        have e := fold_get v'.cells.toList off 0 c'.toArray
        rw [Nat.add_zero] at e
        have e2 := setL_list v'.cells.toList off c' (by rw [Array.length_toList]; omega)
        have e3 : v'.cells.zipIdx.foldl (fun cs (x, j) => cs.setIfInBounds (off + j) x) c'.toArray = (v'.cells.toList.zipIdx 0).foldl (fun cs (x, j) => cs.setIfInBounds (off + j) x) c'.toArray := by
          rw [← Array.foldl_toList, Array.toList_zipIdx]
        have e4 : v'.cells.zipIdx.foldl (fun cs (x, j) => cs.setIfInBounds (off + j) x) c'.toArray = (wr c' off v'.cells.toList).toArray := by
          rw [e3, e]
          exact Array.ext' e2
        rw [Instr.fill]
        simp only [hp]
        rw [if_neg (by simp; omega)]
        exact congrArg (fun x => Instr.fill place x l') e4
theorem places_run : ∀ {l : List Field} {pl : List (Nat × Nat)}, placesX P l = some pl → (l.mapM (fun f => (do pure (f.offset, ← sizeOf f.type) : Sem (Nat × Nat)))).run P w = .ok pl w
  | [], pl, h => by cases h; simp [List.mapM_nil]
  | f :: l, pl, h => by
    unfold placesX at h
    cases hs : sz P f.type with
    | none => simp only [hs] at h; cases h
    | some s =>
      cases hr : placesX P l with
      | none => simp only [hs, hr] at h; cases h
      | some r =>
        simp only [hs, hr, Option.some.injEq] at h
        subst h
        simp only [List.mapM_cons, Sem.run_bind, run_sz hs, Sem.run_pure, Result.andThen_ok, places_run hr]
theorem sim_build {t : TypeId} {ps qs : List (Nat × Value)} {r : XR} (hp : PRs ρ ps qs) (h : bldX P t (some ps) = some r) : XOk P ρ W w (do pure (.value (← Instr.build t qs.toArray))) r := by
  refine xvO h fun v hv => ?_
  cases hz : zeroOf P t with
  | none => rw [hz] at hv; cases hv
  | some z =>
    obtain ⟨_, _, _, hf⟩ := zero_info hz
    have hzc := (VR.flat (ρ := ρ) 8 z hf).cells
    cases hu : P.underlying t with
    | none => rw [hz, hu] at hv; cases hv
    | some d =>
      rw [hz, hu] at hv
      cases d with
      | struct fs =>
        simp only [buildX] at hv
        cases hpl : placesX P fs.toList with
        | none => rw [hpl] at hv; cases hv
        | some pl =>
          rw [hpl] at hv
          simp only [bldS] at hv
          cases hq : fillX (fun (i : Nat) => pl[i]?) z.cells.toList ps with
          | none => rw [hq] at hv; cases hv
          | some cs =>
            rw [hq] at hv
            cases hv
            obtain ⟨cs', r1, r2⟩ := sim_fill hp hzc hq
            refine ⟨.agg cs'.toArray, ?_, .agg _ _ r2⟩
            have hm : (fs.mapM (fun f => (do pure (f.offset, ← sizeOf f.type) : Sem (Nat × Nat)))).run P w = .ok pl.toArray w := by
              have e : fs = fs.toList.toArray := by simp
              rw [e, List.mapM_toArray, map_eq_pure_bind]
              simp only [Sem.run_bind, places_run hpl, Result.andThen_ok, Sem.run_pure]
            have hpe : (fun x => (pl.toArray)[x]?) = (fun (i : Nat) => pl[i]?) := by funext x; rw [List.getElem?_toArray]
            simp only [Instr.build, Sem.run_bind, run_zero hz, Result.andThen_ok, run_und hu, hm]
            rw [hpe]
            simp only [Array.toArray_toList] at r1
            rw [r1]
            rfl
      | array n el =>
        simp only [buildX] at hv
        cases hs : sz P el with
        | none => rw [hs] at hv; cases hv
        | some s =>
          rw [hs] at hv
          simp only [bldA] at hv
          cases hq : fillX (fun i => some (i * s, s)) z.cells.toList ps with
          | none => rw [hq] at hv; cases hv
          | some cs =>
            rw [hq] at hv
            cases hv
            obtain ⟨cs', r1, r2⟩ := sim_fill hp hzc hq
            refine ⟨.agg cs'.toArray, ?_, .agg _ _ r2⟩
            simp only [Instr.build, Sem.run_bind, run_zero hz, Result.andThen_ok, run_und hu, run_sz hs]
            simp only [Array.toArray_toList] at r1
            rw [r1]
            rfl
      | _ => cases hv
theorem rep_length {z : List Value} : ∀ {n : Nat}, (rep z n).length = n * z.length
  | 0 => by simp [rep]
  | n + 1 => by rw [rep, List.length_append, rep_length, Nat.add_mul]; omega
theorem rep_get {z : List Value} : ∀ {n j : Nat}, j < n * z.length → (rep z n)[j]? = z[j % z.length]?
  | 0, j, h => by simp at h
  | n + 1, j, h => by
    rw [rep]
    rcases Nat.lt_or_ge j z.length with q | q
    · rw [List.getElem?_append_left q, Nat.mod_eq_of_lt q]
    · rw [List.getElem?_append_right q, rep_get (by rw [Nat.add_mul] at h; omega)]
      rw [Nat.mod_eq_sub_mod q]
theorem rep_zeros {z : Array Value} {n m : Nat} (hm : m = n * z.size) : ((Array.range m).map (z[· % z.size]!)) = (rep z.toList n).toArray := by
  subst hm
  apply Array.ext'
  apply List.ext_getElem?
  intro j
  rw [Array.getElem?_toList, Array.getElem?_map]
  rcases Nat.lt_or_ge j (n * z.size) with q | q
  · have h0 : 0 < z.size := by
      rcases Nat.eq_zero_or_pos z.size with h | h
      · rw [h] at q; simp at q
      · exact h
    have hm := Nat.mod_lt j h0
    rw [rep_get (by rw [Array.length_toList]; exact q), Array.length_toList, Array.getElem?_toList, Array.getElem?_eq_getElem hm]
    simp [q, hm]
  · rw [List.getElem?_eq_none (by simp [rep_length]; exact q)]
    simp [q]
theorem vrs_rep {z : List Value} (h : VRs ρ z z) : ∀ n, VRs ρ (rep z n) (rep z n)
  | 0 => .nil
  | n + 1 => h.append (vrs_rep h n)
theorem isOpen_small {n : Nat} (h : n ≤ 16777216) : isOpen n = false := by
  unfold isOpen
  cases q : Nat.ble 2305843009213693952 n with
  | false => rfl
  | true => have := Nat.le_of_ble_eq_true q; omega
theorem sim_buildSlice {t : TypeId} {n : Nat} {ps : List (Nat × Operand)} {r : XR} (hH : HR P ρ W.get w) (hE : Ev ρ fr e) (h : bslX P fr n ps (P.underlying t) = some r) :
    XOk P ρ W w (do pure (.value (← Instr.buildSlice t n (ps.map fun (i, x) => (i, e x)).toArray))) r := by
  cases hu : P.underlying t with
  | none => rw [hu] at h; cases h
  | some d =>
    rw [hu] at h
    cases d with
    | slice el =>
      simp only [bslX] at h
      cases hs : sz P el with
      | none => rw [hs] at h; cases h
      | some s =>
        cases hz : zeroOf P el with
        | none => rw [hs, hz] at h; cases h
        | some z =>
          cases hp : evP fr ps with
          | none => rw [hs, hz, hp] at h; cases h
          | some l =>
            rw [hs, hz, hp] at h
            simp only [bsl1] at h
            obtain ⟨i, hi, hiz, hf⟩ := zero_info hz
            obtain ⟨i', hi', his⟩ := sz_info hs
            have hzc := (VR.flat (ρ := ρ) 8 z hf).cells
            cases hq : fillX (fun i => some (i * s, s)) (rep z.cells.toList n) l with
            | none => rw [hq] at h; cases h
            | some cs =>
              rw [hq] at h
              simp only [bsl2] at h
              cases hb : (Nat.ble (n * s) 16777216 && Nat.beq (n * s) (n * z.cells.size) && Nat.ble n 16777216) with
              | false => rw [hb] at h; cases h
              | true =>
                rw [hb] at h
                cases h
                simp only [Bool.and_eq_true] at hb
                have hb1 := Nat.le_of_ble_eq_true hb.1.1
                have hb2 := Nat.eq_of_beq_eq_true hb.1.2
                have hb3 := Nat.le_of_ble_eq_true hb.2
                obtain ⟨cs', r1, r2⟩ := sim_fill (hE.evP hp) (vrs_rep hzc n) hq
                refine xnew (i := ⟨w.heap.size, 0, cs'.toArray.size, sizeIs P el, cs.length⟩) hH rfl (u := .slice (some ⟨w.heap.size, 0, none⟩) n n) ?_ (fun hn => rowOf sizeIs_info hn (by simpa using r2)) (new_slice (isOpen_small hb3))
                simp only [Instr.buildSlice, Sem.run_bind, run_und hu, Result.andThen_ok, run_sz hs]
                rw [if_neg (by omega)]
                by_cases h0 : n * s = 0
                · rw [if_pos h0]
                  have e0 : ∀ z' : Array Value, (Array.range (n * s)).map (z'[· % z'.size]!) = (rep z.cells.toList n).toArray := fun z' => by
                    rw [h0]
                    have : (rep z.cells.toList n) = [] := List.eq_nil_of_length_eq_zero (by rw [rep_length, Array.length_toList]; omega)
                    rw [this]
                    simp
                  simp only [Sem.run_bind, Sem.run_pure, Result.andThen_ok]
                  rw [e0, r1]
                  rfl
                · rw [if_neg h0]
                  simp only [Sem.run_bind, run_zero hz, Sem.run_pure, Result.andThen_ok]
                  rw [rep_zeros hb2, r1]
                  rfl
    | _ => cases h
theorem sim_makeMap {t : TypeId} {r : Option Operand} {x : XR} (hH : HR P ρ W.get w) (hE : Ev ρ fr e) (h : mkmX (reserveX fr r) (P.underlying t) = some x) : XOk P ρ W w (do pure (.value (← Instr.makeMap t (r.map e)))) x := by
  have key : ∀ S : Sem Value, S.run P w = .ok (.map (some w.heap.size)) (w.alloc (.map #[] 0)) → XOk P ρ W w (do pure (.value (← S))) (.new (.map [] 0) fun n => .map (some n)) := fun S hS =>
    xnew (i := ⟨w.heap.size, 0, 0, 0, 0⟩) hH rfl hS (fun hn => .map [] [] 0 .nil) (.map _ _ (rset_same _ _ _))
  cases r with
  | none =>
    cases h
    exact key _ rfl
  | some x =>
    simp only [reserveX] at h
    cases hx : ev fr x with
    | none => rw [hx] at h; cases h
    | some v =>
      rw [hx] at h
      cases v with
      | int k n =>
        cases hu : P.underlying t with
        | none => rw [hu] at h; cases h
        | some d =>
          rw [hu] at h
          cases d with
          | map a b =>
            cases h
            have := (hE x _ hx).int
            refine key _ ?_
            simp only [Option.map_some, Instr.makeMap, this, Sem.run_bind, run_und hu, Result.andThen_ok]
            rfl
          | _ => cases h
      | _ => cases h
theorem sim_makeSlice {t : TypeId} {x y : Operand} {r : XR} (hH : HR P ρ W.get w) (hE : Ev ρ fr e) (h : mksX P (P.underlying t) (ev fr x) (ev fr y) = some r) : XOk P ρ W w (do pure (.value (← Instr.makeSlice t (e x) (e y)))) r := by
  cases hu : P.underlying t with
  | none => rw [hu] at h; cases h
  | some d =>
    rw [hu] at h
    cases d with
    | slice el =>
      cases hx : ev fr x with
      | none => rw [hx] at h; cases h
      | some v =>
        cases hy : ev fr y with
        | none => rw [hx, hy] at h; cases v <;> (try cases h); rename_i k n; cases k <;> cases n <;> cases h
        | some v' =>
          rw [hx, hy] at h
          cases v with
          | int k n =>
            cases v' with
            | int k' n' =>
              cases k <;> (try cases h)
              cases n with
              | negSucc n => cases h
              | ofNat l =>
                cases k' <;> (try cases h)
                cases n' with
                | negSucc n => cases h
                | ofNat c =>
                  simp only [mksX] at h
                  cases hi : P.info? el with
                  | none => rw [hi] at h; cases h
                  | some i =>
                    cases hz : zeroOf P el with
                    | none => rw [hi, hz] at h; cases h
                    | some z =>
                      rw [hi, hz] at h
                      simp only [mks1] at h
                      cases hb : (Nat.ble l c && Nat.ble (i.bytes * c) 1048576 && Nat.ble c 1048576 && Nat.beq i.size z.cells.size) with
                      | false => rw [hb] at h; cases h
                      | true =>
                        rw [hb] at h
                        cases h
                        simp only [Bool.and_eq_true] at hb
                        have h1 := Nat.le_of_ble_eq_true hb.1.1.1
                        have h2 := Nat.le_of_ble_eq_true hb.1.1.2
                        have h3 := Nat.le_of_ble_eq_true hb.1.2
                        have h4 := Nat.eq_of_beq_eq_true hb.2
                        obtain ⟨_, _, _, hf⟩ := zero_info hz
                        have hzc := (VR.flat (ρ := ρ) 8 z hf).cells
                        have ex := (hE x _ hx).int
                        have ey := (hE y _ hy).int
                        have hsz : sz P el = some i.size := by unfold sz; rw [hi]; rfl
                        refine xnew (i := ⟨w.heap.size, 0, (rep z.cells.toList c).toArray.size, sizeIs P el, (rep z.cells.toList c).length⟩) hH rfl (u := .slice (some ⟨w.heap.size, 0, none⟩) l c) ?_
                          (fun hn => rowOf sizeIs_info hn (by simpa using vrs_rep hzc c)) (new_slice (isOpen_small (by omega)))
                        have wrap : ∀ n : Nat, n ≤ 1048576 → IntKind.i64.wrap (n : Int) = (n : Int) := fun n hn => IntWalk.i64_in _ (by omega)
                        have hbc : ((i.bytes : Int) * (c : Int)) = ((i.bytes * c : Nat) : Int) := by simp
                        simp only [Instr.makeSlice, Sem.run_bind, run_und hu, Result.andThen_ok, ex, ey, asInt, asIntOf, Sem.run_pure, run_info hi, Int.ofNat_eq_natCast, wrap l (by omega), wrap c h3, Int.toNat_natCast]
                        rw [if_neg (by
                          simp only [Bool.or_eq_true, decide_eq_true_eq, not_or, Int.not_lt]
                          rw [hbc]
                          omega)]
                        have hroom : (askRoom (c * i.bytes)).run P w = .ok () w := by
                          unfold askRoom
                          split <;> rfl
                        simp only [Sem.run_bind, hroom, Result.andThen_ok, run_sz hsz]
                        by_cases h0 : c * i.size = 0
                        · rw [if_pos h0]
                          have e0 : ∀ z' : Array Value, (Array.range (c * i.size)).map (z'[· % z'.size]!) = (rep z.cells.toList c).toArray := fun z' => by
                            rw [h0]
                            have : (rep z.cells.toList c) = [] := List.eq_nil_of_length_eq_zero (by rw [rep_length, Array.length_toList, ← h4]; omega)
                            rw [this]
                            simp
                          simp only [Sem.run_bind, Sem.run_pure, Result.andThen_ok]
                          rw [e0]
                          rfl
                        · rw [if_neg h0]
                          simp only [Sem.run_bind, run_zero hz, Sem.run_pure, Result.andThen_ok]
                          rw [rep_zeros (by rw [h4])]
                          rfl
            | _ => cases k <;> cases n <;> cases h
          | _ => cases h
    | _ => cases h
end
end Go.Proofs.YthlkgmdkabelpaaGreatDoor.X
