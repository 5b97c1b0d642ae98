/-
  Slices, appends, copies, stores, lengths. Over any program. No condition.
-/
import Derived.Test.YthlkgmdkabelpaaGreatDoorE7
namespace Go.Proofs.YthlkgmdkabelpaaGreatDoor.X
open Go Go.RowKit
set_option linter.unusedVariables false

section
variable {P : Program} {ρ : Ren} {W : XW} {w : World} {fr : XF} {e : Operand → Value}
theorem sim_store {t : TypeId} {a x : Operand} {r : XR} (hH : HR P ρ W.get w) (hE : Ev ρ fr e) (h : stX W (ev fr a) (ev fr x) (sz P t) = some r) : XOk P ρ W w (do Instr.storeAt t (e a) (e x); pure .skip) r := by
  unfold stX at h
  split at h
  · rename_i n o v s ha hx hs
    cases hq : Nat.beq v.cells.size s with
    | false => rw [hq] at h; cases h
    | true =>
      rw [hq] at h
      simp only [cond_true] at h
      cases hst : storeX W n o v.cells.toList with
      | none => rw [hst] at h; cases h
      | some W' =>
        rw [hst] at h
        cases h
        intro _
        obtain ⟨i, hr, hae⟩ := (hE a _ ha).ptrInv
        have hc := (hE x _ hx).cells
        obtain ⟨h1, h2, h3⟩ := storeX_sim hH hr hst hc
        have hl := hc.length
        rw [Array.length_toList, Array.length_toList] at hl
        refine ⟨undef, ρ, _, gu ?_, h3, h2, vr_undef⟩
        unfold Instr.storeAt
        rw [hae]
        simp only [Instr.sureAddr, Sem.run_bind, Sem.run_pure, Result.andThen_ok, storeVar, run_sz hs]
        rw [if_neg (by rw [hl, Nat.eq_of_beq_eq_true hq]; simp)]
        exact h1
  · cases h

/-! ### slices -/
theorem bound_some {d m : Nat} {x : Option Operand} {n : Nat} (hE : Ev ρ fr e) (h : bound fr d x = some n) : (x = none ∧ n = d) ∨ ∃ y k, x = some y ∧ e y = .int k (n : Int) := by
  unfold bound at h
  split at h
  · cases h; exact .inl ⟨rfl, rfl⟩
  · rename_i y
    split at h
    · rename_i k n' hy
      cases h
      exact .inr ⟨y, k, rfl, (hE y _ hy).int⟩
    · cases h
theorem run_bound {x : Value} {k : IntKind} {n y : Nat} {c : BoundsCode} (hx : x = .int k (n : Int)) (hl : n ≤ y) : (Instr.sliceBound x y c).run P w = .ok n w := by
  subst hx
  unfold Instr.sliceBound
  rw [Sem.run_bind, show (asIntOf (.int k (n : Int))).run P w = .ok (k, (n : Int)) w from rfl, Result.andThen_ok]
  show (if 0 ≤ (n : Int) ∧ (n : Int) ≤ (y : Int) then (pure (n : Int).toNat : Sem Nat) else boundsPanic k (n : Int) y c).run P w = _
  rw [if_pos (by omega), Int.toNat_natCast]
  rfl
theorem run_bounds {sl : Bool} {len cap l h : Nat} {lo hi : Option Operand} (hE : Ev ρ fr e) (h1 : bound fr 0 lo = some l) (h2 : bound fr len hi = some h) (hl : l ≤ h) (hh : h ≤ cap) :
    (Instr.sliceBounds sl len cap (lo.map e) (hi.map e) none).run P w = .ok (l, h, cap) w := by
  unfold Instr.sliceBounds
  rcases bound_some (m := 0) hE h1 with ⟨rfl, rfl⟩ | ⟨y, k, rfl, hy⟩
  · rcases bound_some (m := 0) hE h2 with ⟨rfl, rfl⟩ | ⟨z, k2, rfl, hz⟩
    · rfl
    · simp only [Option.map_none, Option.map_some, Sem.run_bind, Sem.run_pure, Result.andThen_ok, run_bound hz hh]
  · rcases bound_some (m := 0) hE h2 with ⟨rfl, rfl⟩ | ⟨z, k2, rfl, hz⟩
    · simp only [Option.map_none, Option.map_some, Sem.run_bind, Sem.run_pure, Result.andThen_ok, run_bound hy hl]
    · simp only [Option.map_none, Option.map_some, Sem.run_bind, Sem.run_pure, Result.andThen_ok, run_bound hz hh, run_bound hy hl]
theorem run_bounds3 {len cap l h m : Nat} {lo hi : Option Operand} {mx : Operand} (hE : Ev ρ fr e) (h1 : bound fr 0 lo = some l) (h2 : bound fr len hi = some h) (h3 : bound fr 0 (some mx) = some m) (hs : hi.isSome = true) (hl : l ≤ h) (hh : h ≤ m) (hm : m ≤ cap) :
    (Instr.sliceBounds true len cap (lo.map e) (hi.map e) (some (e mx))).run P w = .ok (l, h, m) w := by
  unfold Instr.sliceBounds
  rcases bound_some (m := 0) hE h3 with ⟨q, _⟩ | ⟨u, k0, q, hu⟩
  · cases q
  cases q
  rcases bound_some (m := 0) hE h2 with ⟨rfl, rfl⟩ | ⟨z, k2, rfl, hz⟩
  · cases hs
  rcases bound_some (m := 0) hE h1 with ⟨rfl, rfl⟩ | ⟨y, k, rfl, hy⟩
  · simp only [Option.map_none, Option.map_some, Sem.run_bind, Sem.run_pure, Result.andThen_ok, run_bound hz hh, run_bound hu hm]
  · simp only [Option.map_none, Option.map_some, Sem.run_bind, Sem.run_pure, Result.andThen_ok, run_bound hz hh, run_bound hu hm, run_bound hy hl]
theorem sim_slice {t : TypeId} {x : Operand} {lo hi mx : Option Operand} {r : XR} (hH : HR P ρ W.get w) (hE : Ev ρ fr e) (h : slcX P fr W t lo hi mx (ev fr x) = some r) :
    XOk P ρ W w (do pure (.value (← Instr.sliceAt t (e x) (lo.map e) (hi.map e) (mx.map e)))) r := by
  unfold slcX at h
  split at h
  · rename_i v hx
    have hv := hE x _ hx
    unfold sliceX at h
    split at h
    · -- a string
      rename_i hu
      split at h
      · rename_i s
        have hxe := hv.str
        unfold slS at h
        split at h
        · rename_i l hh h1 h2
          cases q : (Nat.ble l hh && Nat.ble hh s.size) with
          | false => rw [q] at h; cases h
          | true =>
            rw [q] at h
            cases h
            simp only [Bool.and_eq_true] at q
            refine xv (u := .string (s.extract l hh)) ?_ (.flat 1 _ rfl)
            unfold Instr.sliceAt
            simp only [Sem.run_bind, run_und hu, Result.andThen_ok, Instr.slice, hxe]
            simp only [Option.map_none, Option.isSome_none, Bool.false_eq_true, if_false, Sem.run_bind, Sem.run_pure, Result.andThen_ok, run_bounds hE h1 h2 (Nat.le_of_ble_eq_true q.1) (Nat.le_of_ble_eq_true q.2)]
        · cases h
      · cases h
    · -- a slice
      rename_i el hu
      split at h
      · rename_i a len cap
        have base : ∀ a' cap', e x = .slice a' len cap' → ∀ l hh m, (Instr.sliceBounds true len cap' (lo.map e) (hi.map e) (mx.map e)).run P w = .ok (l, hh, m) w → ∀ s, sz P el = some s →
            (Instr.sliceAt t (e x) (lo.map e) (hi.map e) (mx.map e)).run P w = .ok (.slice (if m = l then a' else a'.map (·.add (l * s))) (hh - l) (m - l)) w := fun a' cap' hxe l hh m hb s hs => by
          unfold Instr.sliceAt
          simp only [Sem.run_bind, run_und hu, Result.andThen_ok, Instr.slice, hxe, hb, run_sz hs, Sem.run_pure]
        have capLow : ∀ c l, isOpen c = false → isOpen (c - l) = false := fun c l hc => by
          unfold isOpen at hc ⊢
          cases q : Nat.ble 2305843009213693952 (c - l) with
          | false => rfl
          | true =>
            have q1 := Nat.le_of_ble_eq_true q
            have : Nat.ble 2305843009213693952 c = true := Nat.ble_eq_true_of_le (by omega)
            rw [this] at hc
            cases hc
        split at h
        · -- no third index
          unfold slL at h
          split at h
          · rename_i s l hh hs h1 h2
            cases q : (rowIs W cap el a && Nat.ble l hh && Nat.ble hh len && (isOpen cap || Nat.ble len cap) && (Nat.beq len 0 || Nat.blt 0 s)) with
            | false => rw [q] at h; cases h
            | true =>
              rw [q] at h
              cases h
              simp only [Bool.and_eq_true, Bool.or_eq_true] at q
              obtain ⟨⟨⟨⟨q1, q2⟩, q3⟩, q4⟩, q5⟩ := q
              have q2 := Nat.le_of_ble_eq_true q2
              have q3 := Nat.le_of_ble_eq_true q3
              cases a with
              | none =>
                have hxe := hv.of_flat 1 rfl
                have hc : isOpen cap = false := by simpa [rowIs] using q1
                rw [hc] at q4
                have q4 := Nat.le_of_ble_eq_true (q4.resolve_left Bool.false_ne_true)
                refine xv (base _ _ hxe l hh cap (run_bounds hE h1 h2 q2 (by omega)) s hs) ?_
                rw [hc]
                have : (if cap = l then none else (none : Option Addr).map (·.add (l * s))) = none := by split <;> rfl
                rw [this]
                have : (bif !false && Nat.beq cap l then (none : Option Addr) else adv none (l * s)) = none := by cases Nat.beq cap l <;> rfl
                rw [this]
                exact .flat 1 _ rfl
              | some a =>
                obtain ⟨n, o, rfl⟩ := hv.sliceAddr
                obtain ⟨i, hr, hcase⟩ := hv.sliceInv
                rcases hcase with ⟨hc, hxe⟩ | ⟨hc, cap', hxe, g1, g2, g3⟩ | ⟨hc, g1, g2, a', hxe⟩ | ⟨hc, g1, a', hxe⟩
                · rw [hc] at q4
                  have q4 := Nat.le_of_ble_eq_true (q4.resolve_left Bool.false_ne_true)
                  refine xv (base _ _ hxe l hh cap (run_bounds hE h1 h2 q2 (by omega)) s hs) ?_
                  rw [hc]
                  by_cases hcl : cap = l
                  · rw [if_pos hcl, show Nat.beq cap l = true by rw [hcl]; exact Nat.beq_refl l]
                    exact .slice _ _ _ _ i hr (capLow _ _ hc)
                  · rw [if_neg hcl, beqF hcl]
                    have := VR.slice n (o + l * s) (hh - l) (cap - l) i hr (capLow _ _ hc)
                    rw [show o + l * s + i.s = o + i.s + l * s by omega] at this
                    rw [Option.map_some, addr_add]
                    exact this
                · have hk : s = i.k := by
                    simp only [rowIs, hc, Bool.not_true, Bool.false_or] at q1
                    split at q1
                    · rename_i c e' f hg
                      have := Nat.eq_of_beq_eq_true q1
                      subst this
                      obtain ⟨_, _, _, _, _, hk, _⟩ := cellsAt hH hr hg
                      obtain ⟨ti, hti, his⟩ := sz_info hs
                      rw [← his]
                      exact hk _ hti
                    · cases q1
                  subst hk
                  refine xv (base _ _ hxe l hh cap' (run_bounds hE h1 h2 q2 (by omega)) _ hs) ?_
                  rw [hc]
                  by_cases hcl : cap' = l
                  · have e1 : hh - l = 0 := by omega
                    have e2 : cap' - l = 0 := by omega
                    rw [if_pos hcl, e1, e2]
                    exact .sliceE n (o + l * i.k) cap _ i hr hc (by rw [← hcl]; exact g2)
                  · rw [if_neg hcl, Option.map_some, addr_add]
                    have hm : (cap' - l) * i.k + l * i.k = cap' * i.k := by rw [← Nat.add_mul]; congr 1; omega
                    have := VR.sliceO n (o + l * i.k) (hh - l) cap (cap' - l) i hr hc (by omega) (by omega) (by omega)
                    rw [show o + l * i.k + i.s = o + i.s + l * i.k by omega] at this
                    exact this
                · subst g1
                  have e1 : hh = 0 := by omega
                  have e2 : l = 0 := by omega
                  subst e1
                  subst e2
                  refine xv (base _ _ hxe 0 0 0 (run_bounds hE h1 h2 (Nat.le_refl _) (Nat.le_refl _)) s hs) ?_
                  rw [hc, if_pos rfl]
                  exact .sliceE n (o + 0 * s) cap _ i hr hc (by omega)
                · subst g1
                  subst hc
                  have e1 : hh = 0 := by omega
                  have e2 : l = 0 := by omega
                  subst e1
                  subst e2
                  refine xv (base _ _ hxe 0 0 0 (run_bounds hE h1 h2 (Nat.le_refl _) (Nat.le_refl _)) s hs) ?_
                  exact .sliceZ _ _ _ i hr
          · cases h
        · -- a third index
          rename_i m
          cases q0 : (hi.isSome && (isOpen cap || Nat.ble len cap)) with
          | false => rw [q0] at h; cases h
          | true =>
            rw [q0] at h
            simp only [cond_true] at h
            simp only [Bool.and_eq_true, Bool.or_eq_true] at q0
            unfold slM at h
            split at h
            · rename_i s l hh mm hs h1 h2 h3
              cases q : (Nat.ble l hh && Nat.ble hh mm && Nat.ble mm len && Nat.ble mm 16777216) with
              | false => rw [q] at h; cases h
              | true =>
                rw [q] at h
                cases h
                simp only [Bool.and_eq_true] at q
                obtain ⟨⟨⟨q1, q2⟩, q3⟩, q4⟩ := q
                have q1 := Nat.le_of_ble_eq_true q1
                have q2 := Nat.le_of_ble_eq_true q2
                have q3 := Nat.le_of_ble_eq_true q3
                have q4 := Nat.le_of_ble_eq_true q4
                have small : isOpen (mm - l) = false := isOpen_small (by omega)
                have fin : ∀ (A' : Option Addr) (cap' : Nat), e x = .slice A' len cap' → mm ≤ cap' → VR ρ (.slice (bif Nat.beq mm l then a else adv a (l * s)) (hh - l) (mm - l)) (.slice (if mm = l then A' else A'.map (·.add (l * s))) (hh - l) (mm - l)) →
                    XOk P ρ W w (do pure (.value (← Instr.sliceAt t (e x) (lo.map e) (hi.map e) (some (e m))))) (.val (some (.slice (bif Nat.beq mm l then a else adv a (l * s)) (hh - l) (mm - l)))) := fun A' cap' hxe hm hvr =>
                  xv (base A' cap' hxe l hh mm (run_bounds3 hE h1 h2 h3 q0.1 q1 q2 hm) s hs) hvr
                cases a with
                | none =>
                  have hxe := hv.of_flat 1 rfl
                  refine fin none cap hxe ?_ ?_
                  · rcases q0.2 with g | g
                    · unfold isOpen at g; have := Nat.le_of_ble_eq_true g; omega
                    · have := Nat.le_of_ble_eq_true g; omega
                  · have : (if mm = l then none else (none : Option Addr).map (·.add (l * s))) = none := by split <;> rfl
                    rw [this]
                    have : (bif Nat.beq mm l then (none : Option Addr) else adv none (l * s)) = none := by cases Nat.beq mm l <;> rfl
                    rw [this]
                    exact .flat 1 _ rfl
                | some a =>
                  obtain ⟨n, o, rfl⟩ := hv.sliceAddr
                  obtain ⟨i, hr, hcase⟩ := hv.sliceInv
                  have two : ∀ cap', e x = .slice (some ⟨i.b, o + i.s, none⟩) len cap' → mm ≤ cap' → XOk P ρ W w (do pure (.value (← Instr.sliceAt t (e x) (lo.map e) (hi.map e) (some (e m))))) (.val (some (.slice (bif Nat.beq mm l then some ⟨n, o, none⟩ else adv (some ⟨n, o, none⟩) (l * s)) (hh - l) (mm - l)))) := fun cap' hxe hm => by
                    refine fin _ cap' hxe hm ?_
                    by_cases hcl : mm = l
                    · rw [if_pos hcl, show Nat.beq mm l = true by rw [hcl]; exact Nat.beq_refl l]
                      exact .slice _ _ _ _ i hr small
                    · rw [if_neg hcl, beqF hcl]
                      have := VR.slice n (o + l * s) (hh - l) (mm - l) i hr small
                      rw [show o + l * s + i.s = o + i.s + l * s by omega] at this
                      rw [Option.map_some, addr_add]
                      exact this
                  rcases hcase with ⟨hc, hxe⟩ | ⟨hc, cap', hxe, g1, g2, g3⟩ | ⟨hc, g1, g2, a', hxe⟩ | ⟨hc, g1, a', hxe⟩
                  · rw [hc] at q0
                    have := Nat.le_of_ble_eq_true (q0.2.resolve_left Bool.false_ne_true)
                    exact two cap hxe (by omega)
                  · exact two cap' hxe (by omega)
                  · subst g1
                    have e1 : mm = 0 := by omega
                    subst e1
                    have e2 : hh = 0 := by omega
                    have e3 : l = 0 := by omega
                    subst e2
                    subst e3
                    exact fin (some a') 0 hxe (Nat.le_refl _) (.sliceZ _ _ _ i hr)
                  · subst g1
                    have e1 : mm = 0 := by omega
                    subst e1
                    have e2 : hh = 0 := by omega
                    have e3 : l = 0 := by omega
                    subst e2
                    subst e3
                    exact fin (some a') 0 hxe (Nat.le_refl _) (.sliceZ _ _ _ i hr)
            · cases h
      · cases h
    · -- an array
      rename_i n el hu
      split at h
      · rename_i b o
        obtain ⟨i, hr, hxe⟩ := hv.ptrInv
        unfold slA at h
        split at h
        · rename_i s l hh hs h1 h2
          cases q : (Nat.ble l hh && Nat.ble hh n && Nat.ble n 16777216) with
          | false => rw [q] at h; cases h
          | true =>
            rw [q] at h
            cases h
            simp only [Bool.and_eq_true] at q
            have q3 := Nat.le_of_ble_eq_true q.2
            refine xv (u := .slice (some (if n = l then ⟨i.b, o + i.s, none⟩ else (⟨i.b, o + i.s, none⟩ : Addr).add (l * s))) (hh - l) (n - l)) ?_ ?_
            · unfold Instr.sliceAt
              simp only [Sem.run_bind, run_und hu, Result.andThen_ok, hxe, Instr.sureAddr, Sem.run_pure]
              simp only [Option.map_none, Sem.run_bind, Sem.run_pure, Result.andThen_ok, run_bounds hE h1 h2 (Nat.le_of_ble_eq_true q.1.1) (Nat.le_of_ble_eq_true q.1.2), run_sz hs]
            · by_cases hnl : n = l
              · rw [if_pos hnl, show Nat.beq n l = true by rw [hnl]; exact Nat.beq_refl l]
                exact .slice _ _ _ _ i hr (isOpen_small (by omega))
              · rw [if_neg hnl, beqF hnl, addr_add]
                have := VR.slice b (o + l * s) (hh - l) (n - l) i hr (isOpen_small (by omega))
                rwa [show o + l * s + i.s = o + i.s + l * s by omega] at this
        · cases h
      · cases h
    · cases h
  · cases h
end
end Go.Proofs.YthlkgmdkabelpaaGreatDoor.X
