/-
  The operations that leave the heap alone, continued. Over any program. No condition.
-/
import Derived.Test.YthlkgmdkabelpaaGreatDoorE5
namespace Go.Proofs.YthlkgmdkabelpaaGreatDoor.X
open Go Go.RowKit
set_option linter.unusedVariables false

section
variable {P : Program} {ρ : Ren} {W : XW} {w : World} {fr : XF} {e : Operand → Value}
theorem sim_pick {c a b : Operand} {r : XR} (hE : Ev ρ fr e) (h : pickX fr a b (ev fr c) = some r) : XOk P ρ W w (do pure (.value (if ← asBool (e c) then e a else e b))) r := by
  cases hc : ev fr c with
  | none => rw [hc] at h; cases h
  | some v =>
    rw [hc] at h
    cases v with
    | bool t =>
      cases h
      have := (hE c _ hc).bool
      refine ⟨if t then e a else e b, .inl ?_, fun x hx => ?_⟩
      · rw [this]; cases t <;> rfl
      · cases t
        · exact hE b x hx
        · exact hE a x hx
    | _ => cases h
theorem cellsAt (hH : HR P ρ W.get w) {n : Nat} {i : RI} {c : List Value} {t : TypeId} {f : Nat × Nat} (hr : ρ n = some i) (hg : W.get n = some (.cells c t f)) :
    ∃ c' f', w.heap[i.b]? = some (.cells c' t f') ∧ c'.size = i.z ∧ c.length = i.r ∧ (∀ q, P.info? t = some q → q.size = i.k) ∧ i.s + i.r ≤ i.z ∧ Row ρ i.s c c' := by
  obtain ⟨ob, h1, h2⟩ := hH.obj n i _ hr hg
  cases h2 with
  | cells _ _ _ c' f' hz hrr hk hl hv hf hq => exact ⟨c', f', h1, hz, hrr, hk, hl, hv⟩
theorem loadX_sim {t : TypeId} {p q v : Value} (hH : HR P ρ W.get w) (hp : VR ρ p q) (h : loadX P W t p = some v) : ∃ a u, q = .pointer (some a) ∧ (loadVar t a).run P w = .ok u w ∧ VR ρ v u := by
  cases p with
  | pointer a =>
    cases a with
    | none => cases h
    | some a =>
      obtain ⟨n, o, i, rfl, hr, rfl⟩ := hp.ptrSome
      simp only [loadX] at h
      cases hg : W.get n with
      | none => rw [hg] at h; cases h
      | some ob =>
        rw [hg] at h
        cases ob with
        | cells c t' f =>
          obtain ⟨c', f', h1, _, _, _, _, h2⟩ := cellsAt hH hr hg
          obtain ⟨u, r1, r2⟩ := cut_load h1 h2 h
          exact ⟨_, u, rfl, r1, r2⟩
        | _ => cases h
  | _ => cases h
theorem sim_load {t : TypeId} {a : Operand} {r : XR} (hH : HR P ρ W.get w) (hE : Ev ρ fr e) (h : ldX P W t (ev fr a) = some r) : XOk P ρ W w (do pure (.value (← Instr.loadAt t (e a)))) r := by
  cases ha : ev fr a with
  | none => rw [ha] at h; cases h
  | some p =>
    rw [ha] at h
    refine xvO h fun v hv => ?_
    obtain ⟨b, u, h1, h2, h3⟩ := loadX_sim hH (hE a p ha) hv
    refine ⟨u, ?_, h3⟩
    unfold Instr.loadAt
    rw [h1, Sem.run_bind]
    exact h2
theorem sim_extract {t : Operand} {j : Nat} {r : XR} (hE : Ev ρ fr e) (h : extX j (ev fr t) = some r) : XOk P ρ W w (do pure (.value (← Instr.extract (e t) j))) r := by
  cases ha : ev fr t with
  | none => rw [ha] at h; cases h
  | some v =>
    rw [ha] at h
    cases v with
    | tuple vs =>
      obtain ⟨cs, h1, h2⟩ := (hE t _ ha).tupleInv
      refine xvO h fun v hv => ?_
      obtain ⟨u, r1, r2⟩ := h2.get j v hv
      refine ⟨u, ?_, r2⟩
      rw [h1]
      unfold Instr.extract
      simp only [List.getElem?_toArray, r1]
      rfl
    | _ => cases h
theorem sim_iface {t : TypeId} {x : Operand} {r : XR} (hE : Ev ρ fr e) (h : ifaceX t (ev fr x) (P.underlying t) = some r) : XOk P ρ W w (do pure (.value (← Instr.makeInterface t (e x)))) r := by
  cases ha : ev fr x with
  | none => rw [ha] at h; cases P.underlying t <;> cases h
  | some v =>
    cases hu : P.underlying t with
    | none => rw [ha, hu] at h; cases h
    | some d =>
      rw [ha, hu] at h
      have hv := hE x v ha
      cases d <;> first | cases h | skip
      all_goals
        refine xv (u := .iface t (e x)) ?_ (.iface t _ _ hv)
        unfold Instr.makeInterface
        rw [Sem.run_bind, run_und hu]
        rfl
theorem evs_arr {l : Array Operand} {vs : List Value} (hE : Ev ρ fr e) (h : evs fr l.toList = some vs) : VRs ρ vs (l.map e).toList := by rw [Array.toList_map]; exact hE.evs h
theorem sim_makeFunc {f : Fn} {a c : Array Operand} {r : XR} (hE : Ev ρ fr e) (h : mkfX f (evs fr a.toList) (evs fr c.toList) = some r) : XOk P ρ W w (do pure (.value (← Instr.makeFunc f (a.map e) (c.map e)))) r := by
  cases ha : evs fr a.toList with
  | none => rw [ha] at h; cases f <;> cases h
  | some xs =>
    cases hc : evs fr c.toList with
    | none => rw [ha, hc] at h; cases f <;> cases h
    | some cs =>
      rw [ha, hc] at h
      cases f <;> first | cases h | skip
      rename_i g
      have h1 := evs_arr hE ha
      have h2 := evs_arr hE hc
      refine xv (u := .func (.func g) (a.map e) (c.map e)) rfl ?_
      have := VR.func g xs cs _ _ h1 h2
      rw [Array.toArray_toList, Array.toArray_toList] at this
      exact this
theorem sim_nilCheck {x : Operand} {r : XR} {S : Sem Next} (hS : ∀ a, e x = .pointer (some a) → S = pure (.value (e x))) (hE : Ev ρ fr e) (h : nilX (ev fr x) = some r) : XOk P ρ W w S r := by
  cases ha : ev fr x with
  | none => rw [ha] at h; cases h
  | some v =>
    rw [ha] at h
    cases v with
    | pointer p =>
      cases p with
      | none => cases h
      | some a =>
        cases h
        have hv := hE x _ ha
        obtain ⟨n, o, i, rfl, hr, hx⟩ := hv.ptrSome
        rw [hS _ hx]
        exact ⟨e x, .inl rfl, fun y hy => by cases hy; exact hv⟩
    | _ => cases h
theorem sim_field {t : TypeId} {x : Operand} {f : Nat} {r : XR} (hE : Ev ρ fr e) (h : fldX P f (P.underlying t) (ev fr x) = some r) : XOk P ρ W w (do pure (.value (← Instr.field t (e x) f))) r := by
  cases hu : P.underlying t with
  | none => rw [hu] at h; cases h
  | some d =>
    rw [hu] at h
    cases d with
    | struct fs =>
      cases ha : ev fr x with
      | none => rw [ha] at h; cases h
      | some v =>
        rw [ha] at h
        cases v with
        | agg cs =>
          simp only [fldX] at h
          obtain ⟨cs', h1, h2⟩ := (hE x _ ha).aggInv
          cases hf : fs[f]? with
          | none => rw [hf] at h; cases h
          | some fd =>
            rw [hf] at h
            refine xvO h fun v hv => ?_
            obtain ⟨u, r1, r2⟩ := cut_part (w := w) h2 hv
            refine ⟨u, ?_, r2⟩
            unfold Instr.field
            rw [Sem.run_bind, run_und hu, Result.andThen_ok]
            simp only [hf, h1, asAgg, Sem.run_bind, Sem.run_pure, Result.andThen_ok]
            exact r1
        | _ => cases h
    | _ => cases h
theorem sim_fieldAddr {t : TypeId} {x : Operand} {f : Nat} {r : XR} (hE : Ev ρ fr e) (h : fadX P f (P.underlying t) (ev fr x) = some r) : XOk P ρ W w (do pure (.value (← Instr.fieldAt t (e x) f))) r := by
  cases hu : P.underlying t with
  | none => rw [hu] at h; cases h
  | some d =>
    rw [hu] at h
    cases d with
    | struct fs =>
      cases ha : ev fr x with
      | none => rw [ha] at h; cases h
      | some v =>
        rw [ha] at h
        cases v with
        | pointer p =>
          cases p with
          | none => cases h
          | some a =>
            obtain ⟨n, o, i, rfl, hr, hx⟩ := (hE x _ ha).ptrSome
            simp only [fadX] at h
            cases hf : fs[f]? with
            | none => rw [hf] at h; cases h
            | some fd =>
              rw [hf] at h
              simp only [fad1] at h
              cases hs : sz P fd.type with
              | none => rw [hs] at h; cases h
              | some s =>
                rw [hs] at h
                cases s with
                | zero => cases h
                | succ s =>
                  cases h
                  refine xv (u := .pointer (some ⟨i.b, o + fd.offset + i.s, none⟩)) ?_ (.ptr _ _ _ hr)
                  unfold Instr.fieldAt
                  rw [Sem.run_bind, run_und hu, Result.andThen_ok]
                  simp only [hf, hx, Instr.sureAddr, Sem.run_bind, Sem.run_pure, Result.andThen_ok, fieldPlace, run_sz hs]
                  rw [if_neg (by omega)]
                  rw [Sem.run_pure, Result.andThen_ok, addr_add, show o + i.s + fd.offset = o + fd.offset + i.s by omega]
        | _ => cases h
    | _ => cases h
theorem iad_ok {S : Sem Value} {b o i n : Nat} {j : RI} {s : Option Nat} {r : XR} (hr : ρ b = some j) (h : iad1 b o i n s = some r) (hS : ∀ k, s = some k → i < n → S.run P w = .ok (.pointer (some ⟨j.b, o + j.s + i * k, none⟩)) w) :
    XOk P ρ W w (do pure (.value (← S))) r := by
  cases s with
  | none => cases h
  | some k =>
    simp only [iad1] at h
    cases q : Nat.blt i n with
    | false => rw [q] at h; cases h
    | true =>
      rw [q] at h
      cases h
      have hlt : i < n := Nat.le_of_ble_eq_true q
      refine xv (hS k rfl hlt) ?_
      have := VR.ptr b (o + i * k) j hr
      rwa [show o + i * k + j.s = o + j.s + i * k by omega] at this
theorem sim_indexAddr {t : TypeId} {x y : Operand} {r : XR} (hE : Ev ρ fr e) (h : iadX P (P.underlying t) (ev fr x) (ev fr y) = some r) : XOk P ρ W w (do pure (.value (← Instr.indexAt t (e x) (e y)))) r := by
  unfold iadX at h
  split at h
  · rename_i n el b o k m hu hx hy
    obtain ⟨i, hr, hxe⟩ := (hE x _ hx).ptrInv
    have hye := (hE y _ hy).int
    refine iad_ok hr h fun s hs hlt => ?_
    unfold Instr.indexAt
    simp only [hye, hxe, asIntOf, Sem.run_bind, Sem.run_pure, Result.andThen_ok, run_und hu, Instr.sureAddr, run_sz hs, Int.ofNat_eq_natCast]
    rw [if_pos (by omega)]
    simp only [Sem.run_bind, Sem.run_pure, Result.andThen_ok, run_sz hs, Int.toNat_natCast, addr_add]
  · rename_i el b o len cap k m hu hx hy
    have hye := (hE y _ hy).int
    obtain ⟨i, hr, hcase⟩ := (hE x _ hx).sliceInv
    refine iad_ok hr h fun s hs hlt => ?_
    have key : ∃ cap', e x = .slice (some ⟨i.b, o + i.s, none⟩) len cap' := by
      rcases hcase with ⟨_, q⟩ | ⟨_, c, q, _⟩ | ⟨_, q, _⟩ | ⟨_, q, _⟩
      · exact ⟨_, q⟩
      · exact ⟨_, q⟩
      · omega
      · omega
    obtain ⟨cap', hxe⟩ := key
    unfold Instr.indexAt
    simp only [hye, hxe, asIntOf, Sem.run_bind, Sem.run_pure, Result.andThen_ok, run_und hu, Int.ofNat_eq_natCast]
    rw [if_pos (by omega)]
    simp only [Sem.run_bind, Sem.run_pure, Result.andThen_ok, run_sz hs, Int.toNat_natCast, addr_add]
  · cases h
theorem sim_index {t : TypeId} {x y : Operand} {r : XR} (hE : Ev ρ fr e) (h : idxX P (P.underlying t) (ev fr x) (ev fr y) = some r) : XOk P ρ W w (do pure (.value (← Instr.index t (e x) (e y)))) r := by
  unfold idxX at h
  split at h
  · rename_i n el cs k m hu hx hy
    obtain ⟨cs', h1, h2⟩ := (hE x _ hx).aggInv
    have hye := (hE y _ hy).int
    cases hs : sz P el with
    | none => rw [hs] at h; cases h
    | some s =>
      rw [hs] at h
      simp only [idx1] at h
      cases q : Nat.blt m n with
      | false => rw [q] at h; cases h
      | true =>
        rw [q] at h
        have hlt : m < n := Nat.le_of_ble_eq_true q
        refine xvO h fun v hv => ?_
        obtain ⟨u, r1, r2⟩ := cut_part (w := w) h2 hv
        refine ⟨u, ?_, r2⟩
        unfold Instr.index
        simp only [hye, h1, asIntOf, Sem.run_bind, Sem.run_pure, Result.andThen_ok, run_und hu, Int.ofNat_eq_natCast]
        rw [if_pos (by omega)]
        simp only [Sem.run_bind, run_sz hs, Result.andThen_ok, Int.toNat_natCast]
        exact r1
  · rename_i s k m hu hx hy
    have hxe := (hE x _ hx).str
    have hye := (hE y _ hy).int
    cases hq : s.data.toList[m]? with
    | none => rw [hq] at h; cases h
    | some b =>
      rw [hq] at h
      cases h
      have hsb : s[m]? = some b := by
        have hlt : m < s.data.toList.length := (List.getElem?_eq_some_iff.1 hq).1
        rw [Array.length_toList] at hlt
        rw [Array.getElem?_toList] at hq
        rw [getElem?_pos s m hlt]
        rw [getElem?_pos s.data m hlt] at hq
        exact hq
      refine xv (u := .int .u8 b.toNat) ?_ (.flat 1 _ rfl)
      unfold Instr.index
      simp only [hye, hxe, asIntOf, Sem.run_bind, Sem.run_pure, Result.andThen_ok, run_und hu, Int.ofNat_eq_natCast]
      rw [if_pos (by omega), Int.toNat_natCast, hsb]
      rfl
  · cases h
theorem slice_some {a : Addr} {l c : Nat} {x : Value} (h : VR ρ (.slice (some a) l c) x) : ∃ b c', x = .slice (some b) l c' := by
  obtain ⟨n, o, rfl⟩ := h.sliceAddr
  obtain ⟨i, _, h | h | h | h⟩ := h.sliceInv
  · exact ⟨_, _, h.2⟩
  · obtain ⟨_, c, e, _⟩ := h; exact ⟨_, _, e⟩
  · obtain ⟨_, rfl, _, a, e⟩ := h; exact ⟨_, _, e⟩
  · obtain ⟨_, rfl, a, e⟩ := h; exact ⟨_, _, e⟩
theorem func_some {f : Fn} {xs cs : Array Value} {x : Value} (h : VR ρ (.func f xs cs) x) : ∃ f' xs' cs', x = .func f' xs' cs' := by
  cases h with
  | flat k v h => exact ⟨_, _, _, rfl⟩
  | func f xs cs xs' cs' h1 h2 => exact ⟨_, _, _, rfl⟩
  | yield n i h => exact ⟨_, _, _, rfl⟩
theorem eq_run {t : TypeId} {a b x y : Value} {q : Bool} (h : eqX P t a b = some q) (hx : VR ρ a x) (hy : VR ρ b y) : (Op.equal t x y).run P w = .ok q w ∧ ∀ op X Y, (eqGuard op t X Y x y).run P w = .ok () w := by
  have hg : ∀ op X Y, (match x, y with | .nilIface, .nilIface => false | .agg _, .agg _ => false | _, _ => true) = true → (eqGuard op t X Y x y).run P w = .ok () w := fun op X Y hh => by
    unfold eqGuard
    cases op <;> first | rfl | skip
    all_goals (revert hh; cases x <;> cases y <;> first | (intro _; rfl) | (intro hh; cases hh))
  unfold eqX at h
  split at h
  · rename_i hu
    cases h
    obtain ⟨n, o, i, rfl, _, rfl⟩ := hy.ptrSome
    have := hx.of_flat 1 rfl
    subst this
    refine ⟨?_, fun op X Y => hg op X Y rfl⟩
    unfold Op.equal Op.maxDepth
    rw [Op.equalIn, Sem.run_bind, run_und hu]
    rfl
  · rename_i hu
    cases h
    obtain ⟨n, o, i, rfl, _, rfl⟩ := hx.ptrSome
    have := hy.of_flat 1 rfl
    subst this
    refine ⟨?_, fun op X Y => hg op X Y rfl⟩
    unfold Op.equal Op.maxDepth
    rw [Op.equalIn, Sem.run_bind, run_und hu]
    rfl
  · rename_i hu
    cases h
    obtain ⟨v', rfl, _⟩ := hy.ifaceInv
    have := hx.of_flat 1 rfl
    subst this
    refine ⟨?_, fun op X Y => hg op X Y rfl⟩
    unfold Op.equal Op.maxDepth
    rw [Op.equalIn, Sem.run_bind, run_und hu]
    rfl
  · rename_i hu
    cases h
    obtain ⟨v', rfl, _⟩ := hx.ifaceInv
    have := hy.of_flat 1 rfl
    subst this
    refine ⟨?_, fun op X Y => hg op X Y rfl⟩
    unfold Op.equal Op.maxDepth
    rw [Op.equalIn, Sem.run_bind, run_und hu]
    rfl
  · rename_i hu
    cases h
    obtain ⟨_, _, rfl⟩ := slice_some hy
    have := hx.of_flat 1 rfl
    subst this
    refine ⟨?_, fun op X Y => hg op X Y rfl⟩
    unfold Op.equal Op.maxDepth
    rw [Op.equalIn, Sem.run_bind, run_und hu]
    rfl
  · rename_i hu
    cases h
    obtain ⟨_, _, rfl⟩ := slice_some hx
    have := hy.of_flat 1 rfl
    subst this
    refine ⟨?_, fun op X Y => hg op X Y rfl⟩
    unfold Op.equal Op.maxDepth
    rw [Op.equalIn, Sem.run_bind, run_und hu]
    rfl
  · rename_i hu
    cases h
    obtain ⟨i, _, rfl⟩ := hy.mapInv
    have := hx.of_flat 1 rfl
    subst this
    refine ⟨?_, fun op X Y => hg op X Y rfl⟩
    unfold Op.equal Op.maxDepth
    rw [Op.equalIn, Sem.run_bind, run_und hu]
    rfl
  · rename_i hu
    cases h
    obtain ⟨i, _, rfl⟩ := hx.mapInv
    have := hy.of_flat 1 rfl
    subst this
    refine ⟨?_, fun op X Y => hg op X Y rfl⟩
    unfold Op.equal Op.maxDepth
    rw [Op.equalIn, Sem.run_bind, run_und hu]
    rfl
  · rename_i hu
    cases h
    obtain ⟨_, _, _, rfl⟩ := func_some hy
    have := hx.of_flat 1 rfl
    subst this
    refine ⟨?_, fun op X Y => hg op X Y rfl⟩
    unfold Op.equal Op.maxDepth
    rw [Op.equalIn, Sem.run_bind, run_und hu]
    rfl
  · rename_i hu
    cases h
    obtain ⟨_, _, _, rfl⟩ := func_some hx
    have := hy.of_flat 1 rfl
    subst this
    refine ⟨?_, fun op X Y => hg op X Y rfl⟩
    unfold Op.equal Op.maxDepth
    rw [Op.equalIn, Sem.run_bind, run_und hu]
    rfl
  · cases h
def shapeOk : Value → Bool
  | .int _ _ => false
  | .float _ _ => false
  | .complex _ _ _ => false
  | .string _ => false
  | _ => true
theorem binOp_eql {t : TypeId} {x y : Value} {q : Bool} (hx : shapeOk x = true) (h : (Op.equal t x y).run P w = .ok q w) :
    (Go.binOp .eql t x y).run P w = .ok (.bool q) w ∧ (Go.binOp .neq t x y).run P w = .ok (.bool (!q)) w := by
  constructor
  · have : Go.binOp .eql t x y = (do pure (.bool (← Op.equal t x y))) := by
      cases x <;> first | (exact absurd hx Bool.false_ne_true) | (cases y <;> rfl)
    rw [this, Sem.run_bind, h]
    rfl
  · have : Go.binOp .neq t x y = (do pure (.bool (!(← Op.equal t x y)))) := by
      cases x <;> first | (exact absurd hx Bool.false_ne_true) | (cases y <;> rfl)
    rw [this, Sem.run_bind, h]
    rfl
theorem eqX_shape {t : TypeId} {a b x : Value} {q : Bool} (h : eqX P t a b = some q) (hx : VR ρ a x) : shapeOk x = true := by
  unfold eqX at h
  have hf : ∀ {v u : Value}, VR ρ v u → flatN 1 v = true → u = v := fun h e => h.of_flat 1 e
  split at h
  · rw [hf hx rfl]; rfl
  · obtain ⟨n, o, i, rfl, _, rfl⟩ := hx.ptrSome; rfl
  · rw [hf hx rfl]; rfl
  · obtain ⟨v', rfl, _⟩ := hx.ifaceInv; rfl
  · rw [hf hx rfl]; rfl
  · obtain ⟨_, _, rfl⟩ := slice_some hx; rfl
  · rw [hf hx rfl]; rfl
  · obtain ⟨i, _, rfl⟩ := hx.mapInv; rfl
  · rw [hf hx rfl]; rfl
  · obtain ⟨_, _, _, rfl⟩ := func_some hx; rfl
  · cases h
theorem sim_bin {op : BinOp} {t : TypeId} {x y : Operand} {r : XR} (hE : Ev ρ fr e) (h : binX P op t x y (ev fr x) (ev fr y) = some r) :
    XOk P ρ W w (do pure (.value (← (do eqGuard op t x y (e x) (e y); Go.binOp op t (e x) (e y))))) r := by
  unfold binX at h
  split at h
  · rename_i a b hx hy
    have h1 := hE x _ hx
    have h2 := hE y _ hy
    cases hq : (flatV a && flatV b) with
    | true =>
      rw [hq] at h
      simp only [Bool.and_eq_true] at hq
      rw [h1.flatEq hq.1, h2.flatEq hq.2]
      exact xvF h
    | false =>
      rw [hq] at h
      simp only [cond_false] at h
      cases hr : eqX P t a b with
      | none => rw [hr] at h; cases op <;> cases h
      | some q =>
        rw [hr] at h
        obtain ⟨h3, h4⟩ := eq_run (w := w) hr h1 h2
        obtain ⟨h5, h6⟩ := binOp_eql (eqX_shape hr h1) h3
        cases op <;> first | cases h | skip
        · refine xv (u := .bool q) ?_ (.flat 1 _ rfl)
          rw [Sem.run_bind, h4 .eql x y]
          exact h5
        · refine xv (u := .bool (!q)) ?_ (.flat 1 _ rfl)
          rw [Sem.run_bind, h4 .neq x y]
          exact h6
  · cases h
theorem sim_un {op : UnOp} {x : Operand} {r : XR} (hE : Ev ρ fr e) (h : unX P op (ev fr x) = some r) : XOk P ρ W w (do pure (.value (← Op.unary op (e x)))) r := by
  cases hx : ev fr x with
  | none => rw [hx] at h; cases h
  | some a =>
    rw [hx] at h
    simp only [unX] at h
    cases hq : flatV a with
    | false => rw [hq] at h; cases h
    | true =>
      rw [hq] at h
      rw [(hE x _ hx).flatEq hq]
      exact xvF h
end
end Go.Proofs.YthlkgmdkabelpaaGreatDoor.X
