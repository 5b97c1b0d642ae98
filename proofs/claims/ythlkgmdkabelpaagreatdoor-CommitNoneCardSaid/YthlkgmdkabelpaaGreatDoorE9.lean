/-
  Appends, copies, lengths. Over any program. No condition.
-/
import Derived.Test.YthlkgmdkabelpaaGreatDoorE8
namespace Go.Proofs.YthlkgmdkabelpaaGreatDoor.X
open Go Go.RowKit
set_option linter.unusedVariables false

section
variable {P : Program} {ρ : Ren} {W : XW} {w : World} {fr : XF} {e : Operand → Value}
theorem run_app_in {ats : Array TypeId} {ty t u el : TypeId} {base : Option Addr} {sLen sCap n s : Nat} {x : Value} {us : List Value} {w' : World} (h0 : ats[0]? = some t) (h1 : ats[1]? = some u) (ht : P.underlying t = some (.slice el)) (hu : notInt (P.underlying u) = true)
    (hs : sz P el = some s) (hn : (Builtin.lenOf x).run P w = .ok n w) (hf : (Builtin.firstCells s n x).run P w = .ok us.toArray w) (hle : sLen + n ≤ sCap)
    (hst : (match base with | some a => storeCells (a.add (sLen * s)) us | none => pure () : Sem Unit).run P w = .ok () w') :
    (Builtin.append_ ats ty #[.slice base sLen sCap, x]).run P w = .ok (.slice base (sLen + n) sCap) w' := by
  cases hd : P.underlying u with
  | none => rw [hd] at hu; cases hu
  | some d =>
    rw [hd] at hu
    cases d <;> first | (exact absurd hu Bool.false_ne_true) | skip
    all_goals
      simp only [Builtin.append_, h0, h1, List.getElem?_toArray, List.getElem?_cons_zero, List.getElem?_cons_succ, Sem.run_bind, run_und ht, Result.andThen_ok, run_sz hs, run_und hd, Sem.run_pure, Bool.false_eq_true, if_false, hn, Bool.not_false, if_true, if_pos hle, hf]
      cases base with
      | none =>
        simp only [Sem.run_pure, Result.ok.injEq, true_and] at hst
        subst hst
        rfl
      | some a =>
        simp only at hst
        simp only [Sem.run_bind, hst, Result.andThen_ok, Sem.run_pure]
theorem run_app_grow {ats : Array TypeId} {ty t u el : TypeId} {i : TypeInfo} {z : Value} {base : Option Addr} {sLen sCap n : Nat} {x : Value} {us os : List Value} (h0 : ats[0]? = some t) (h1 : ats[1]? = some u) (ht : P.underlying t = some (.slice el)) (hu : notInt (P.underlying u) = true)
    (hi : P.info? el = some i) (hz : i.zero = some z) (hn : (Builtin.lenOf x).run P w = .ok n w) (ho : (Builtin.firstCells i.size sLen (.slice base sLen sCap)).run P w.drew = .ok os.toArray w.drew) (hf : (Builtin.firstCells i.size n x).run P w.drew = .ok us.toArray w.drew)
    (hg : sCap < sLen + n) (h63 : sLen + n ≤ 1099511627776) (hfit : (sLen + n) * i.bytes ≤ 1099511627776) :
    (Builtin.append_ ats ty #[.slice base sLen sCap, x]).run P w = .ok (.slice (some ⟨w.heap.size, 0, none⟩) (sLen + n) (grownCap w (sLen + n) sCap el))
      (w.drew.alloc (.cells (os.toArray ++ us.toArray ++ Builtin.zeroCells z.cells (grownCap w (sLen + n) sCap el - (sLen + n))) el)) := by
  have hle : ¬ (sLen + n ≤ sCap) := by omega
  have hmax : IntKind.i64.max = 9223372036854775807 := by decide
  have hsz : sz P el = some i.size := by unfold sz; rw [hi]; rfl
  have hnext := growslice_fits (bytes := i.bytes) hg (by omega)
  have hzr : ∀ w', (zeroValue el).run P w' = .ok z w' := fun w' => by
    unfold zeroValue
    rw [Sem.run_bind, run_info hi, Result.andThen_ok, hz]
    rfl
  have hask : ∀ b w', (askRoom b).run P w' = .ok () w' := fun b w' => by unfold askRoom; split <;> rfl
  have hch : (choose (.appendCap (sLen + n) sCap el)).run P w = .ok (grownCap w (sLen + n) sCap el) w.drew := rfl
  have hnew : ∀ c, (newRow el c).run P w.drew = .ok ⟨w.heap.size, 0, none⟩ (w.drew.alloc (.cells c el)) := fun c => rfl
  cases hd : P.underlying u with
  | none => rw [hd] at hu; cases hu
  | some d =>
    rw [hd] at hu
    cases d <;> first | (exact absurd hu Bool.false_ne_true) | skip
    all_goals
      simp only [Builtin.append_, h0, h1, List.getElem?_toArray, List.getElem?_cons_zero, List.getElem?_cons_succ, Sem.run_bind, run_und ht, Result.andThen_ok, run_sz hsz, run_und hd, Sem.run_pure, Bool.false_eq_true, if_false, hn, Bool.not_false, if_true, if_neg hle, run_info hi]
      rw [if_neg (by rintro ⟨a, _⟩; rw [hmax] at a; omega)]
      simp only [Sem.run_bind, run_info hi, Result.andThen_ok]
      rw [if_neg (by omega)]
      simp only [Sem.run_bind, hch, Result.andThen_ok, run_info hi, hask, ho, hf, hzr, Sem.run_pure, hnew]
theorem zeroCells_size (z : Array Value) (q : Nat) : (Builtin.zeroCells z q).size = q * z.size := by simp [Builtin.zeroCells]
theorem frozenAt (hH : HR P ρ W.get w) {n : Nat} {i : RI} {c : List Value} {t : TypeId} {f : Nat × Nat} (hr : ρ n = some i) (hg : W.get n = some (.cells c t f)) :
    ∃ ob, w.heap[i.b]? = some ob ∧ ∀ c' t' f', ob = .cells c' t' f' → (∀ j, i.s + j < i.z → f'.1 ≤ i.s + j → i.s + j < f'.2 → f.1 ≤ j ∧ j < f.2) ∧ f'.1 ≤ f'.2 ∧ (f.1 = 0 → f'.2 ≤ i.z) := by
  obtain ⟨ob, h1, h2⟩ := hH.obj n i _ hr hg
  refine ⟨ob, h1, ?_⟩
  cases h2 with
  | cells _ _ _ c' f' hz hrr hk hl hv hf hq => intro _ _ _ e; cases e; exact ⟨hf, hq⟩
theorem shiftAt (hH : HR P ρ W.get w) {n : Nat} {i : RI} {c : List Value} {t : TypeId} {f : Nat × Nat} (hr : ρ n = some i) (hg : W.get n = some (.cells c t f)) : i.s % i.k = 0 := by
  obtain ⟨ob, h1, h2⟩ := hH.obj n i _ hr hg
  cases h2 with
  | cells _ _ _ c' f' hz hrr hk hl hv hf hq hm => exact hm
/-- a row laid anew, what is told of it first, then zeros -/
theorem grow_ok {S : Sem Value} {el : TypeId} {c us : List Value} {z : Value} {k need cap' : Nat} {f : Nat × Nat} (hH : HR P ρ W.get w) (hn : ρ W.next = none) (hk : sizeIs P el = k) (hz : z.cells.size = k) (hc : VRs ρ c us) (hl : c.length = need * k) (hcap : need ≤ cap')
    (hS : S.run P w = .ok (.slice (some ⟨w.heap.size, 0, none⟩) need cap') (w.drew.alloc (.cells (us.toArray ++ Builtin.zeroCells z.cells (cap' - need)) el))) :
    ∃ u ρ' w', Gives P (do pure (.value (← S))) w u w' ∧ Step ρ W.get W.next w ρ' (W.push (.cells c el f)).get (W.push (.cells c el f)).next w' ∧ HR P ρ' (W.push (.cells c el f)).get w' ∧ VR ρ' (.slice (some ⟨W.next, 0, none⟩) need openCap) u := by
  have hsz : (us.toArray ++ Builtin.zeroCells z.cells (cap' - need)).size = cap' * k := by
    rw [Array.size_append, zeroCells_size, List.size_toArray, hc.length, hl, hz, ← Nat.add_mul]
    congr 1
    omega
  obtain ⟨q1, q2⟩ := hH.drew.push hn (.cells c el f) (.cells (us.toArray ++ Builtin.zeroCells z.cells (cap' - need)) el (0, 0)) ⟨w.heap.size, 0, cap' * k, k, c.length⟩ rfl (by
    refine .cells _ _ _ _ _ hsz rfl (fun t ht => by rw [← hk]; exact sizeIs_info t ht) (by simp only [Nat.zero_add, hl]; exact Nat.mul_le_mul_right _ hcap) (fun j v hj => ?_) (fun j _ h1 h2 => by simp at h2) ⟨Nat.le_refl _, fun _ => Nat.zero_le _⟩ (Nat.zero_mod _)
    obtain ⟨v', h1, h2⟩ := hc.get j v hj
    refine ⟨v', ?_, h2.mono (rset_le _ hn)⟩
    have hj' : j < us.length := (List.getElem?_eq_some_iff.1 h1).1
    show (us.toArray ++ Builtin.zeroCells z.cells (cap' - need))[0 + j]? = _
    rw [Nat.zero_add, Array.getElem?_append_left (by simpa using hj')]
    simpa using h1)
  exact ⟨_, _, _, gv hS, q2.drew, q1, new_open hcap (by rw [hl]; exact Nat.mul_le_mul_right _ hcap) (Nat.le_refl _)⟩
theorem sim_append {ats : Array TypeId} {ty : TypeId} {v x v' x' : Value} {r : XR} (hH : HR P ρ W.get w) (hv : VR ρ v v') (hx : VR ρ x x') (hu : notInt (undO P ats[1]?) = true) (h : appendX P W v x (undO P ats[0]?) = some r) :
    XOk P ρ W w (do pure (.value (← Builtin.append_ ats ty #[v', x']))) r := by
  cases h0 : ats[0]? with
  | none => rw [h0] at h; cases h
  | some t =>
    cases h1 : ats[1]? with
    | none => rw [h1] at hu; cases hu
    | some u =>
      rw [h0] at h
      rw [h1] at hu
      simp only [undO] at h hu
      unfold appendX at h
      split at h
      · rename_i el ht
        unfold appS at h
        split at h
        · rename_i i z n hi hz hl
          cases hzs : Nat.beq i.size z.cells.size with
          | false => rw [hzs] at h; cases h
          | true =>
          rw [hzs] at h
          simp only [cond_true] at h
          have hzs := Nat.eq_of_beq_eq_true hzs
          have hsz : sz P el = some i.size := by unfold sz; rw [hi]; rfl
          obtain ⟨i', hi', hzz, hzf⟩ := zero_info hz
          rw [hi] at hi'
          cases hi'
          cases hsrc : srcX W i.size n x with
          | none => rw [hsrc] at h; cases h
          | some src =>
            rw [hsrc] at h
            simp only [app1] at h
            cases hsl : (Nat.beq src.length (n * i.size) && src.all oneC) with
            | false => rw [hsl] at h; cases h
            | true =>
            rw [hsl] at h
            simp only [cond_true] at h
            simp only [Bool.and_eq_true] at hsl
            have one := hsl.2
            have hsl := Nat.eq_of_beq_eq_true hsl.1
            obtain ⟨us, f1, f2, f3, f4, f5⟩ := src_first hH hx hsrc (fun m hm => by rw [hl] at hm; cases hm; exact Nat.le_refl _)
            obtain ⟨us', g1, g2, g3, g4, g5⟩ := src_first hH.drew hx hsrc (fun m hm => by rw [hl] at hm; cases hm; exact Nat.le_refl _)
            have hlen := len_run (P := P) (w := w) hx hl
            unfold app2 at h
            split at h
            · rename_i base len cap
              obtain ⟨base', cap', rfl⟩ := hv.sliceLen
              cases hn0 : Nat.beq n 0 with
              | true =>
                rw [hn0] at h
                cases hlc : Nat.ble len cap with
                | false => rw [hlc] at h; cases h
                | true =>
                  rw [hlc] at h
                  cases h
                  have := Nat.eq_of_beq_eq_true hn0
                  subst this
                  have hus : us = [] := by
                    have : src = [] := by
                      unfold srcX at hsrc
                      split at hsrc <;> first | (cases hsrc; rfl) | (cases hsrc)
                    rw [this] at f2
                    cases f2
                    rfl
                  subst hus
                  refine xv (run_app_in (w' := w) h0 h1 ht hu hsz hlen f1 ?_ ?_) hv
                  · have hlc := Nat.le_of_ble_eq_true hlc
                    cases base with
                    | none => have := hv.of_flat 1 rfl; cases this; exact hlc
                    | some a =>
                      obtain ⟨b, o, rfl⟩ := hv.sliceAddr
                      obtain ⟨j, hr, q | ⟨_, c, q, q2, _⟩ | ⟨_, q1, _, _, q⟩ | ⟨_, q1, _, q⟩⟩ := hv.sliceInv
                      · have := q.2; cases this; exact hlc
                      · cases q; exact q2
                      · cases q; omega
                      · cases q; omega
                  · cases base' <;> rfl
              | false =>
                rw [hn0] at h
                simp only [cond_false] at h
                have hn0 : n ≠ 0 := fun e => by subst e; cases hn0
                cases hs0 : Nat.blt 0 i.size with
                | false => rw [hs0] at h; cases h
                | true =>
                  rw [hs0] at h
                  simp only [cond_true] at h
                  have hs0 : 0 < i.size := Nat.le_of_ble_eq_true hs0
                  have hkk : sizeIs P el = i.size := by unfold sizeIs; rw [hsz]; rfl
                  -- a new row
                  have grown : ∀ (old os : List Value) (W1 : XW) (f : Nat × Nat), HR P ρ W1.get w → W1.next = W.next → Step ρ W.get W.next w ρ W1.get W1.next w → VRs ρ old os → old.length = len * i.size →
                      (Builtin.firstCells i.size len (.slice base' len cap')).run P w.drew = .ok os.toArray w.drew → cap' < len + n → okNeed i.bytes (len + n) = true →
                      XOk P ρ W w (do pure (.value (← Builtin.append_ ats ty #[.slice base' len cap', x']))) (.mod (.slice (some ⟨W1.next, 0, none⟩) (len + n) openCap) (W1.push (.cells (old ++ src) el f))) := fun old os W1 f hH1 hnx hst hvo hlo hfo hg hok => fun hfr => by
                    unfold okNeed at hok
                    simp only [Bool.and_eq_true] at hok
                    have hrun := run_app_grow (ty := ty) h0 h1 ht hu hi hzz hlen hfo g1 hg (Nat.le_of_ble_eq_true hok.2) (Nat.le_of_ble_eq_true hok.1)
                    have hn : ρ W1.next = none := hfr _ (by rw [hnx]; exact Nat.le_refl _) (Nat.lt_succ_self _)
                    have hge := grownCap_ge w (len + n) cap' el
                    obtain ⟨u, ρ', w', r1, r2, r3, r4⟩ := grow_ok (f := f) hH1 hn hkk hzs.symm (hvo.append g2) (by rw [List.length_append, hlo, hsl, ← Nat.add_mul]) hge (by
                      have e : (os ++ us').toArray = os.toArray ++ us'.toArray := by simp
                      rw [e]
                      exact hrun)
                    exact ⟨u, ρ', w', r1, hst.trans r2, r3, r4⟩
                  have noOpen : isOpen 0 = false := rfl
                  unfold app3 at h
                  split at h
                  · -- onto nil
                    have := hv.of_flat 1 rfl
                    cases this
                    cases q : (Nat.beq cap 0 && Nat.beq len 0 && okNeed i.bytes n) with
                    | false => rw [q] at h; cases h
                    | true =>
                      rw [q] at h
                      cases h
                      simp only [Bool.and_eq_true] at q
                      have e1 := Nat.eq_of_beq_eq_true q.1.1
                      have e2 := Nat.eq_of_beq_eq_true q.1.2
                      subst e1
                      subst e2
                      have := grown [] [] W (0, 0) hH rfl (.refl _ _ _ _) .nil (by simp) rfl (by omega) (by rw [Nat.zero_add]; exact q.2)
                      rw [Nat.zero_add] at this
                      exact this
                  · rename_i b o
                    obtain ⟨j, hr, hcase⟩ := hv.sliceInv
                    cases hoc : (isOpen cap || Nat.ble (len + n) cap) with
                    | true =>
                      rw [hoc] at h
                      simp only [cond_true] at h
                      simp only [Bool.or_eq_true] at hoc
                      cases hin : (Nat.ble (o + (len + n) * i.size) (rowLen (W.get b)) && rowIs W cap el (some ⟨b, o, none⟩)) with
                      | true =>
                        rw [hin] at h
                        simp only [cond_true] at h
                        simp only [Bool.and_eq_true] at hin
                        have hin1 := Nat.le_of_ble_eq_true hin.1
                        cases hst : storeX W b (o + len * i.size) src with
                        | none => rw [hst] at h; cases h
                        | some W' =>
                          rw [hst] at h
                          cases h
                          intro hfr
                          obtain ⟨c, ce, cf, hg, _⟩ := storeX_put hst
                          rw [hg] at hin1
                          simp only [rowLen] at hin1
                          obtain ⟨c', f', hb, hcz, hcr, hck, hcl, hrow⟩ := cellsAt hH hr hg
                          obtain ⟨s1, s2, s3⟩ := storeX_sim hH hr hst f2
                          have hpos : 0 < (len + n) * i.size := Nat.mul_pos (by omega) hs0
                          have hmul : (len + n) * i.size = len * i.size + n * i.size := Nat.add_mul _ _ _
                          have addr : ((⟨j.b, o + j.s, none⟩ : Addr).add (len * i.size)) = ⟨j.b, o + len * i.size + j.s, none⟩ := by rw [addr_add]; congr 1; omega
                          rcases hcase with ⟨hc, q⟩ | ⟨hc, cc, q, q2, q3, q4⟩ | ⟨hc, q1, q2, a', q⟩ | ⟨hc, q1, a', q⟩
                          · cases q
                            have hle := Nat.le_of_ble_eq_true (hoc.resolve_left (by rw [hc]; exact Bool.false_ne_true))
                            exact ⟨_, ρ, _, gv (run_app_in (ty := ty) h0 h1 ht hu hsz hlen f1 hle (by simp only; rw [addr]; exact s1)), s3, s2, .slice _ _ _ _ j hr hc⟩
                          · cases q
                            have hk : i.size = j.k := by
                              have := hin.2
                              simp only [rowIs, hc, Bool.not_true, Bool.false_or, hg] at this
                              have := Nat.eq_of_beq_eq_true this
                              subst this
                              exact hck _ hi
                            have hle : len + n ≤ cap' := by
                              have : (len + n) * i.size ≤ cap' * i.size := by rw [← hk] at q3; omega
                              exact Nat.le_of_mul_le_mul_right this hs0
                            exact ⟨_, ρ, _, gv (run_app_in (ty := ty) h0 h1 ht hu hsz hlen f1 hle (by simp only; rw [addr]; exact s1)), s3, s2, .sliceO _ _ _ _ _ j hr hc hle q3 q4⟩
                          · omega
                          · subst hc
                            have := Nat.le_of_ble_eq_true (hoc.resolve_left (by rw [noOpen]; exact Bool.false_ne_true))
                            omega
                      | false =>
                        rw [hin] at h
                        simp only [cond_false] at h
                        unfold app4 at h
                        split at h
                        · rename_i c ce cf hg
                          cases q : (isOpen cap && Nat.beq el ce && Nat.ble (o + len * i.size) c.length && okNeed i.bytes (len + n) && !inFr cf (o + len * i.size) (n * i.size) && (Nat.beq cf.1 0 || Nat.ble cf.2 cf.1) && Nat.beq (o % i.size) 0) with
                          | false => rw [q] at h; cases h
                          | true =>
                            rw [q] at h
                            cases h
                            simp only [Bool.and_eq_true, Bool.not_eq_true'] at q
                            obtain ⟨⟨⟨⟨⟨⟨p1, p2⟩, p3⟩, p4⟩, p5⟩, p6⟩, p7⟩ := q
                            have p2 := Nat.eq_of_beq_eq_true p2
                            have p3 := Nat.le_of_ble_eq_true p3
                            subst p2
                            obtain ⟨c', f', hb, hcz, hcr, hck, hcl, hrow⟩ := cellsAt hH hr hg
                            have hk : i.size = j.k := hck _ hi
                            have hgn : W.get b ≠ none := by rw [hg]; simp
                            obtain ⟨k1, k2⟩ := hH.kill b
                            have holdl : ((c.drop o).take (len * i.size)).length = len * i.size := by rw [List.length_take, List.length_drop]; omega
                            obtain ⟨os, o1, o2, o3⟩ := hrow.part o (len * i.size) holdl
                            rcases hcase with ⟨hc, q⟩ | ⟨hc, cc, q, q2, q3, q4⟩ | ⟨hc, q1, q2, a', q⟩ | ⟨hc, q1, a', q⟩
                            · rw [hc] at p1; cases p1
                            · cases q
                              by_cases hle : len + n ≤ cap'
                              · -- in place
                                intro hfr
                                have hn : ρ W.next = none := hfr _ (Nat.le_refl _) (Nat.lt_succ_self _)
                                have hne : b ≠ W.next := fun e => by rw [e, hn] at hr; cases hr
                                obtain ⟨ob, hb2, hff⟩ := frozenAt hH hr hg
                                rw [hb] at hb2
                                cases hb2
                                obtain ⟨hff, hqq⟩ := hff _ _ _ rfl
                                have hm1 : (len + n) * i.size = len * i.size + n * i.size := Nat.add_mul _ _ _
                                have hm2 : (len + n) * i.size ≤ cap' * j.k := by rw [← hk]; exact Nat.mul_le_mul_right _ hle
                                have addr : ((⟨j.b, o + j.s, none⟩ : Addr).add (len * i.size)) = ⟨j.b, o + j.s + len * i.size, none⟩ := addr_add _ _ _
                                have hst : (storeCells ⟨j.b, o + j.s + len * i.size, none⟩ us).run P w = .ok () (w.setCells j.b (o + j.s + len * i.size) us) := by
                                  have := run_storeCells_cells (P := P) j.b (o + j.s + len * i.size) us 0 w (fun q hq => by
                                      rw [Nat.add_zero, cell_of_heap hb, Array.getElem?_eq_getElem (by omega)]; rfl)
                                    (fun q hq => by
                                      rw [Nat.add_zero]
                                      simp only [World.frozen?, hb]
                                      cases g : (decide (f'.1 ≤ o + j.s + len * i.size + q) && decide (o + j.s + len * i.size + q < f'.2)) with
                                      | false => rfl
                                      | true =>
                                        simp only [Bool.and_eq_true, decide_eq_true_eq] at g
                                        obtain ⟨g1, g2⟩ := hff (o + len * i.size + q) (by omega) (by omega) (by omega)
                                        unfold inFr at p5
                                        simp only [Bool.not_eq_false', Bool.or_eq_true] at p5
                                        rcases p5 with (p5 | p5) | p5
                                        · have := Nat.le_of_ble_eq_true p5; omega
                                        · have := Nat.le_of_ble_eq_true p5; omega
                                        · have := Nat.le_of_ble_eq_true p5; omega)
                                    (f2.one one)
                                  simpa using this
                                have hcl2 : ((c.drop o).take (len * i.size) ++ src).length = (len + n) * i.size := by rw [List.length_append, holdl, hsl, hm1]
                                obtain ⟨r1, r2⟩ := hH.regrow hr hgn hn hne (i' := ⟨j.b, o + j.s, j.z, j.k, (len + n) * i.size⟩) (.cells ((c.drop o).take (len * i.size) ++ src) el (frCut cf o)) (setCells_keep us w j.b (o + j.s + len * i.size)) rfl
                                  (heap_setCells us w j.b (o + j.s + len * i.size) c' el f' hb) (by
                                    refine .cells _ _ _ _ _ (by rw [setL_size, hcz]) hcl2 hck (by simp only; omega) (fun q v hq => ?_) (fun q hq h1 h2 => ?_) ⟨hqq.1, fun hz0 => ?_⟩ (by
                                      show (o + j.s) % j.k = 0
                                      have := Nat.eq_of_beq_eq_true p7
                                      rw [hk] at this
                                      rw [Nat.add_mod, this, shiftAt hH hr hg, Nat.zero_add, Nat.zero_mod])
                                    · rcases Nat.lt_or_ge q (len * i.size) with g | g
                                      · rw [List.getElem?_append_left (by omega), List.getElem?_take, if_pos g, List.getElem?_drop] at hq
                                        obtain ⟨v', y1, y2⟩ := hrow _ v hq
                                        refine ⟨v', ?_, y2.mono (rset_le _ hn)⟩
                                        show (setL c' (o + j.s + len * i.size) us)[o + j.s + q]? = _
                                        rw [setL_out _ _ _ _ (by omega), show o + j.s + q = j.s + (o + q) by omega]
                                        exact y1
                                      · rw [List.getElem?_append_right (by omega), holdl] at hq
                                        obtain ⟨v', y1, y2⟩ := f2.get _ v hq
                                        refine ⟨v', ?_, y2.mono (rset_le _ hn)⟩
                                        show (setL c' (o + j.s + len * i.size) us)[o + j.s + q]? = _
                                        have hlt : q - len * i.size < us.length := (List.getElem?_eq_some_iff.1 y1).1
                                        rw [show o + j.s + q = o + j.s + len * i.size + (q - len * i.size) by omega, setL_in us _ _ _ (by omega) hlt]
                                        exact y1
                                    · obtain ⟨g1, g2⟩ := hff (o + q) (by simp only at hq; omega) (by simp only at h1; omega) (by simp only at h2; omega)
                                      unfold frCut
                                      cases g : Nat.beq cf.1 0 with
                                      | true => exact ⟨Nat.zero_le _, by show q < cf.2 - o; omega⟩
                                      | false =>
                                        rw [g, Bool.false_or] at p6
                                        have := Nat.le_of_ble_eq_true p6
                                        omega
                                    · refine hqq.2 ?_
                                      unfold frCut at hz0
                                      cases g : Nat.beq cf.1 0 with
                                      | true => exact Nat.eq_of_beq_eq_true g
                                      | false => rw [g] at hz0; cases hz0)
                                refine ⟨_, _, _, gv (run_app_in (ty := ty) h0 h1 ht hu hsz hlen f1 hle (by simp only; rw [addr]; exact hst)), r2, r1, ?_⟩
                                have := VR.sliceO (ρ := rset ρ W.next ⟨j.b, o + j.s, j.z, j.k, (len + n) * i.size⟩) W.next 0 (len + n) openCap cap' _ (rset_same _ _ _) openCap_open hle (by simp only; omega) (by simp only; omega)
                                simp only [Nat.zero_add] at this
                                exact this
                              · refine grown _ os (W.put b none) _ k1 rfl k2 o2 holdl ?_ (by omega) p4
                                exact run_firstCells_some (P := P) w.drew i.size len ⟨j.b, o + j.s, none⟩ len cap' os o1 (fun q u hu => by
                                  show w.cell? _ = _
                                  rw [addr_add, cell_of_heap hb, Nat.add_comm o]
                                  exact o3 q u hu)
                            · cases q
                              rw [Nat.zero_mul, List.take_zero]
                              refine grown [] [] (W.put b none) _ k1 rfl k2 .nil (by simp) ?_ (by omega) p4
                              exact run_firstCells_some (P := P) w.drew i.size 0 a' 0 0 [] (by simp) (fun q u hu => by simp at hu)
                            · subst hc; rw [noOpen] at p1; cases p1
                        · cases h
                    | false =>
                      rw [hoc] at h
                      simp only [cond_false] at h
                      simp only [Bool.or_eq_false_iff] at hoc
                      have hnle : ¬ (len + n ≤ cap) := fun hh => by have := Nat.ble_eq_true_of_le hh; rw [this] at hoc; cases hoc.2
                      cases hold : srcX W i.size len (.slice (some ⟨b, o, none⟩) len cap) with
                      | none => rw [hold] at h; cases h
                      | some old =>
                        rw [hold] at h
                        simp only [app5] at h
                        cases hok : okNeed i.bytes (len + n) with
                        | false => rw [hok] at h; cases h
                        | true =>
                          rw [hok] at h
                          cases h
                          obtain ⟨os, o1, o2, _, _, o5⟩ := src_first hH.drew hv hold (fun m hm => by cases hm; exact Nat.le_refl _)
                          refine grown old os W (0, 0) hH rfl (.refl _ _ _ _) o2 (o5 _ _ _ rfl) o1 ?_ hok
                          rcases hcase with ⟨hc, q⟩ | ⟨hc, _⟩ | ⟨hc, _⟩ | ⟨hc, q1, a', q⟩
                          · cases q; omega
                          · rw [hc] at hoc; cases hoc.1
                          · rw [hc] at hoc; cases hoc.1
                          · cases q; omega
                  · cases h
            · cases h
        · cases h
      · cases h
theorem sim_copy {ats : Array TypeId} {ty : TypeId} {v x v' x' : Value} {r : XR} (hH : HR P ρ W.get w) (hv : VR ρ v v') (hx : VR ρ x x') (h : cpyB P W v x (undO P ats[0]?) = some r) :
    XOk P ρ W w (do pure (.value (← Builtin.copy_ ats ty #[v', x']))) r := by
  cases h0 : ats[0]? with
  | none => rw [h0] at h; cases h
  | some t =>
    rw [h0] at h
    simp only [undO] at h
    unfold cpyB at h
    split at h
    · rename_i el ht
      split at h
      · rename_i base n cap
        unfold cpy1 at h
        split at h
        · rename_i s m hs hm
          obtain ⟨base', cap', rfl⟩ := hv.sliceLen
          have hlen := len_run (P := P) (w := w) hx hm
          cases hsrc : srcX W s (Nat.min m n) x with
          | none => rw [hsrc] at h; cases h
          | some src =>
            rw [hsrc] at h
            simp only [cpy2] at h
            obtain ⟨us, f1, f2, f3, _, _⟩ := src_first hH hx hsrc (fun q hq => by rw [hm] at hq; cases hq; exact Nat.min_le_left _ _)
            have run : ∀ w', (match base' with | some a => storeCells a us | none => pure () : Sem Unit).run P w = .ok () w' → (Builtin.copy_ ats ty #[.slice base' n cap', x']).run P w = .ok (goInt (Nat.min m n)) w' := fun w' hst => by
              simp only [Builtin.copy_, h0, List.getElem?_toArray, List.getElem?_cons_zero, List.getElem?_cons_succ, Sem.run_bind, run_und ht, Result.andThen_ok, run_sz hs, hlen, f1]
              cases base' with
              | none =>
                simp only [Sem.run_pure, Result.ok.injEq, true_and] at hst
                subst hst
                rfl
              | some a =>
                simp only at hst
                simp only [Sem.run_bind, hst, Result.andThen_ok, Sem.run_pure]
            cases hk : Nat.beq (Nat.min m n) 0 with
            | true =>
              rw [hk] at h
              cases h
              have hk := Nat.eq_of_beq_eq_true hk
              have hus : us = [] := by
                have : src = [] := by
                  rw [hk] at hsrc
                  unfold srcX at hsrc
                  split at hsrc <;> first | (cases hsrc; rfl) | (cases hsrc)
                rw [this] at f2
                cases f2
                rfl
              subst hus
              rw [hk] at run
              exact xv (run w (by cases base' <;> rfl)) (.flat 1 _ rfl)
            | false =>
              rw [hk] at h
              simp only [cond_false] at h
              unfold cpy3 at h
              split at h
              · rename_i b o
                cases hst : storeX W b o src with
                | none => rw [hst] at h; cases h
                | some W' =>
                  rw [hst] at h
                  cases h
                  intro _
                  have hmn : 0 < n := by
                    have : Nat.min m n ≠ 0 := fun e => by rw [e] at hk; cases hk
                    have h2 : Nat.min m n ≤ n := Nat.min_le_right m n
                    omega
                  obtain ⟨j, hr, hcase⟩ := hv.sliceInv
                  have key : base' = some ⟨j.b, o + j.s, none⟩ := by
                    rcases hcase with ⟨_, q⟩ | ⟨_, c, q, _⟩ | ⟨_, q, _⟩ | ⟨_, q, _⟩
                    · cases q; rfl
                    · cases q; rfl
                    · omega
                    · omega
                  subst key
                  obtain ⟨s1, s2, s3⟩ := storeX_sim hH hr hst f2
                  exact ⟨_, ρ, _, gv (run _ s1), s3, s2, .flat 1 _ rfl⟩
              · cases h
        · cases h
      · cases h
    · cases h
theorem zc_rep {z : Array Value} {n : Nat} : Builtin.zeroCells z n = (rep z.toList n).toArray := rep_zeros rfl
theorem sim_clear {ats : Array TypeId} {ty : TypeId} {v v' : Value} {r : XR} (hH : HR P ρ W.get w) (hv : VR ρ v v') (h : clrB P W v (undO P ats[0]?) = some r) : XOk P ρ W w (do pure (.value (← Builtin.clear_ ats ty #[v']))) r := by
  cases h0 : ats[0]? with
  | none => rw [h0] at h; cases h
  | some t =>
    rw [h0] at h
    simp only [undO] at h
    unfold clrB at h
    split at h
    · rename_i el ht
      split at h
      · rename_i base n cap
        obtain ⟨base', cap', rfl⟩ := hv.sliceLen
        cases hk : Nat.beq n 0 with
        | true =>
          rw [hk] at h
          cases h
          have hk := Nat.eq_of_beq_eq_true hk
          subst hk
          refine xv (u := .tuple #[]) ?_ (.flat 1 _ rfl)
          simp only [Builtin.clear_, h0, List.getElem?_toArray, List.getElem?_cons_zero, Sem.run_bind, run_und ht, Result.andThen_ok]
          cases base' <;> rfl
        | false =>
          rw [hk] at h
          simp only [cond_false] at h
          have hn0 : n ≠ 0 := fun e => by subst e; cases hk
          unfold clr1 at h
          split at h
          · rename_i b o z hz
            cases hst : storeX W b o (rep z.cells.toList n) with
            | none => rw [hst] at h; cases h
            | some W' =>
              rw [hst] at h
              cases h
              intro _
              obtain ⟨_, _, _, hf⟩ := zero_info hz
              have hzc := (VR.flat (ρ := ρ) 8 z hf).cells
              obtain ⟨j, hr, hcase⟩ := hv.sliceInv
              have key : base' = some ⟨j.b, o + j.s, none⟩ := by
                rcases hcase with ⟨_, q⟩ | ⟨_, c, q, _⟩ | ⟨_, q, _⟩ | ⟨_, q, _⟩
                · cases q; rfl
                · cases q; rfl
                · omega
                · omega
              subst key
              obtain ⟨s1, s2, s3⟩ := storeX_sim hH hr hst (vrs_rep hzc n)
              refine ⟨_, ρ, _, gv ?_, s3, s2, .flat 1 (.tuple #[]) rfl⟩
              obtain ⟨m, rfl⟩ := Nat.exists_eq_succ_of_ne_zero hn0
              simp only [Builtin.clear_, h0, List.getElem?_toArray, List.getElem?_cons_zero, Sem.run_bind, run_und ht, Result.andThen_ok, run_zero hz, zc_rep, s1, Sem.run_pure]
          · cases h
      · cases h
    · cases h
theorem sim_len {ats : Array TypeId} {ty : TypeId} {v v' : Value} {r : XR} (hH : HR P ρ W.get w) (hv : VR ρ v v') (h : lenB W v (undO P ats[0]?) = some r) : XOk P ρ W w (do pure (.value (← Builtin.len_ ats ty #[v']))) r := by
  cases h0 : ats[0]? with
  | none => rw [h0] at h; cases h
  | some t =>
    rw [h0] at h
    simp only [undO] at h
    unfold lenB at h
    split at h
    · rename_i el ht
      split at h
      · rename_i a n c
        cases h
        obtain ⟨base', cap', rfl⟩ := hv.sliceLen
        refine xv (u := goInt n) ?_ (.flat 1 _ rfl)
        simp only [Builtin.len_, h0, List.getElem?_toArray, List.getElem?_cons_zero, Sem.run_bind, run_und ht, Result.andThen_ok, Sem.run_pure]
      · cases h
    · rename_i kt el ht
      unfold mapGet at h
      split at h
      · cases h
        have := hv.of_flat 1 rfl
        subst this
        refine xv (u := goInt 0) ?_ (.flat 1 _ rfl)
        simp only [Builtin.len_, h0, List.getElem?_toArray, List.getElem?_cons_zero, Sem.run_bind, run_und ht, Result.andThen_ok, Sem.run_pure]
      · rename_i n
        obtain ⟨i, hr, rfl⟩ := hv.mapInv
        split at h
        · rename_i es c hg
          cases h
          obtain ⟨ob, h1, h2⟩ := hH.obj n i _ hr hg
          cases h2 with
          | map _ es' _ hes =>
            refine xv (u := goInt es'.length) ?_ ?_
            · simp only [Builtin.len_, h0, List.getElem?_toArray, List.getElem?_cons_zero, Sem.run_bind, run_und ht, Result.andThen_ok]
              simp only [getObj, Sem.run, h1, Result.andThen_ok]
              rfl
            · rw [hes.length]
              exact .flat 1 _ rfl
        · cases h
      · cases h
    · rename_i ht
      split at h
      · cases h
        have := hv.str
        subst this
        refine xv (u := goInt _) ?_ (.flat 1 _ rfl)
        simp only [Builtin.len_, h0, List.getElem?_toArray, List.getElem?_cons_zero, Sem.run_bind, run_und ht, Result.andThen_ok, Sem.run_pure]
      · cases h
    · rename_i n el ht
      cases h
      refine xv (u := goInt n) ?_ (.flat 1 _ rfl)
      simp only [Builtin.len_, h0, List.getElem?_toArray, List.getElem?_cons_zero, Sem.run_bind, run_und ht, Result.andThen_ok, Sem.run_pure]
    · cases h
end
end Go.Proofs.YthlkgmdkabelpaaGreatDoor.X
