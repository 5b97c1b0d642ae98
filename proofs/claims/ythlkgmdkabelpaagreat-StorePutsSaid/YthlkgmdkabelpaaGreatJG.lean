/-
  Operations one by one; calls of functions of which a relation is known; the next entry of a map, whichever it is. Over any program.
  A range over a function of which a relation is known. Over any program.
  Iterators, loops and marks seen by other names; regions carried out with calls of several levels. Over any program.
  The store's All: the keys of the map, one by one, in whatever order.
  The store's All: slices.AppendSeq over the keys of the map.
  The store's All: maps.Keys, slices.Collect.
  No condition.
-/
import Derived.Test.YthlkgmdkabelpaaGreatJF
set_option linter.all false
set_option linter.unusedVariables false
set_option linter.unusedSimpArgs false
namespace Go.Proofs.YthlkgmdkabelpaaGreat.X
open Go Go.RowKit
def XOps (P : Program) (N k : Nat) (all : Array Oper) (l : List Oper) (s : XS) (Q : XQ) : Prop :=
  ∀ m ρ0 W0 w0 a w, W0.next = k → (∀ n, k ≤ n → ρ0 n = none) → Ch P N ρ0 W0 w0 .norm s .normal a w → wpListIn Fence.wide m P all (fun ex a' w' => ∃ e s', Q e s' ∧ Ch P N ρ0 W0 w0 e s' ex a' w') l a w
section
variable {P : Program} {H : Hooks} {N k : Nat} {all : Array Oper} {l : List Oper} {o : Oper} {s s1 : XS} {Q : XQ}
theorem xops_region {id : Nat} {ops : Array Oper} (h : XOps P N k ops ops.toList s Q) : XWp P N k (.region id ops false) s Q := fun m ρ0 W0 w0 a w h0 h1 hc => wpIn_region_list (h m ρ0 W0 w0 a w h0 h1 hc)
theorem xops_nil (h : Q .norm s) : XOps P N k all [] s Q := fun m ρ0 W0 w0 a w h0 h1 hc => ⟨.norm, s, h, hc⟩
theorem xops_le {s' : XS} (hl : ChLe P k s s') (h : XOps P N k all l s' Q) : XOps P N k all l s Q := fun m ρ0 W0 w0 a w h0 h1 hc => h m ρ0 W0 w0 a w h0 h1 (hl N ρ0 W0 w0 _ _ a w h0 h1 (fun v e => by cases e) hc)
theorem xops_step (hB : Base P H) (n : Nat) (h : op1 P (xrun P H n) N none all s o = some (.on s1)) (q : XOps P N k all l s1 Q) : XOps P N k all (o :: l) s Q := fun m ρ0 W0 w0 a w h0 h1 hc => by
  obtain ⟨ρ, ⟨g1, g2, g3, g4⟩, g5, g6⟩ := hc
  obtain ⟨hC, hF, _⟩ := xrun_sim hB.mixed hB.sim (drawn_sim hB.mixed) n
  refine wpListIn_step fun K hK => ?_
  refine op1_sim (rd := none) (rb := none) (xrun_ext hB.sim.ext n) hC hF trivial h (fun n k1 _ => g5 n k1) g2 g3 g4 (fun s2 e2 ρ' a' w' _ ho => ?_) (fun v s2 e2 => by cases e2)
  cases e2
  exact hK _ _ (q m ρ0 W0 w0 a' w' h0 h1 ⟨ρ', OnR.then' ⟨g1, g2, g3, g4⟩ ho, none_step g5 ho.1, trivial⟩)
def opsTo (P : Program) (R : XK) (N : Nat) (all : Array Oper) : List Oper → XS → Option XS
  | [], s => some s
  | o :: l, s => match op1 P R N none all s o with
    | some (.on s1) => opsTo P R N all l s1
    | _ => none
theorem xops_run (hB : Base P H) (n : Nat) : ∀ {l1 : List Oper} {s : XS}, opsTo P (xrun P H n) N all l1 s = some s1 → XOps P N k all l s1 Q → XOps P N k all (l1 ++ l) s Q
  | [], s, h, q => by cases h; exact q
  | o :: l1, s, h, q => by
    unfold opsTo at h
    split at h
    · rename_i s2 hq
      exact xops_step hB n hq (xops_run hB n h q)
    · cases h
theorem xops_call {f : FuncId} {args : List Value} {S : XEnd → XW → Prop} (he : Enters P f) (hw : wantX all s.fr o = some true) (hx : xop P s.fr s.W o.type o.op = some (.enter f args)) (hl : Local P f args s.W S)
    (q : ∀ e W', S e W' → ∃ v fr', e = .ret v ∧ putX N s.fr o.dst (some v) = some fr' ∧ XOps P N k all l ⟨fr', W', s.ds⟩ Q) : XOps P N k all (o :: l) s Q := fun m ρ0 W0 w0 a w h0 h1 hc => by
  obtain ⟨ρ, ⟨g1, g2, g3, g4⟩, g5, g6⟩ := hc
  refine wpListIn_step fun K hK => ?_
  rw [if_pos (wantX_sim g3 hw)]
  refine ⟨fun _ _ => trivial, ?_⟩
  obtain ⟨args', hr, ha⟩ := xop_sim g2 g3.ev hx
  rw [show o.semAt Fence.wide.round a.eval = execOp a.eval o from rfl, hr, run_enter he, Oper.uponIn_enter]
  refine ⟨fun h => (by cases h), CallsIn.mono (hl ρ args' w (m - 1) g5 g2 ha) fun en w' hq => ?_⟩
  obtain ⟨e, W', hS, ρ', hs, hh, hen⟩ := hq
  obtain ⟨v, fr', rfl, hp, hq⟩ := q _ _ hS
  cases en <;> first | exact hen.elim | skip
  exact hK _ _ (hq m ρ0 W0 w0 _ _ h0 h1 ⟨ρ', ⟨g1.trans hs, hh, FR.putT (g3.mono hs.le) (fun x e => by cases e; exact hen) hp, by rw [putX_defers]; exact g4.mono hs.le⟩, none_step g5 hs, trivial⟩)
theorem xops_next {x : Operand} {r mp since last c : Nat} {seen : List Nat} {es : List MapEntry} (hg : o.guard = none) (hop : o.op = .next x false) (hx : ev s.fr x = some (.pointer (some ⟨r, 0, none⟩))) (hr : s.W.get r = some (.iter mp since seen last)) (hm : s.W.get mp = some (.map es c))
    (hc : (!seen.isEmpty && !es.isEmpty && es.all (fun e => Nat.ble last e.born)) = false) (hold : ∀ e ∈ es.filter (notIn seen), e.born < since)
    (h0 : es.filter (notIn seen) = [] → ∃ fr', putX N s.fr o.dst (some (.tuple #[.bool false])) = some fr' ∧ XOps P N k all l ⟨fr', s.W, s.ds⟩ Q)
    (h1 : ∀ e ∈ es.filter (notIn seen), ∃ fr', putX N s.fr o.dst (some (.tuple #[.bool true, e.key, e.val])) = some fr' ∧ XOps P N k all l ⟨fr', s.W.put r (some (.iter mp since (seen ++ [e.born]) c)), s.ds⟩ Q) : XOps P N k all (o :: l) s Q := fun m ρ0 W0 w0 a w k0 k1 hch => by
  obtain ⟨ρ, ⟨g1, g2, g3, g4⟩, g5, g6⟩ := hch
  refine wpListIn_step fun K hK => ?_
  have hwant : Region.wanted o (yielded all a.tmps) = true := by unfold Region.wanted; rw [hg]
  rw [if_pos hwant]
  refine ⟨fun _ _ => trivial, ?_⟩
  rw [show o.semAt Fence.wide.round a.eval = execOp a.eval o from rfl]
  obtain ⟨i, hri, hxe⟩ := (g3.ev x _ hx).ptrInv
  obtain ⟨q, hq, hit, hs0⟩ := iterAt g2 hri hr
  obtain ⟨es', e1, e2⟩ := mapAt g2 hq hm
  rw [Nat.zero_add, hs0] at hxe
  have hc' : (!seen.toArray.isEmpty && !es'.toArray.isEmpty && es'.toArray.all (fun e => decide (e.born ≥ last))) = false := by
    rw [← hc, empty_eq e2, List.isEmpty_toArray, List.all_toArray]
    congr 1
    have : (fun e : MapEntry => decide (e.born ≥ last)) = fun e => Nat.ble last e.born := by
      funext e
      cases h1 : Nat.ble last e.born with
      | true => exact decide_eq_true (Nat.le_of_ble_eq_true h1)
      | false => exact decide_eq_false fun h2 => by rw [Nat.ble_eq_true_of_le h2] at h1; cases h1
    rw [this]
    exact e2.all (p := fun b => Nat.ble last b)
  have hleft : es'.toArray.filter (fun e => !seen.toArray.contains e.born) = (es'.filter (notIn seen)).toArray := by rw [notIn_eq, List.filter_toArray]
  have hfil := e2.filter (p := fun b => !(seen.any fun n => Nat.beq n b))
  have hfe : (es.filter fun e => !(seen.any fun n => Nat.beq n e.born)) = es.filter (notIn seen) := rfl
  have hfe' : (es'.filter fun e => !(seen.any fun n => Nat.beq n e.born)) = es'.filter (notIn seen) := rfl
  rw [hfe, hfe'] at hfil
  generalize hF : es.filter (notIn seen) = F at hold h0 h1 hfil
  generalize hF' : es'.filter (notIn seen) = F' at hfil hleft
  have hst : ∀ (w1 : World) (ob : Obj), w1.heap = w.heap → (setObj i.b ob).run P w1 = .ok () (setO w1 i.b ob) := fun w1 ob hh => by
    have hit' : w1.heap[i.b]? = some (.mapIter (some q.b) since seen.toArray last) := by rw [hh]; exact hit
    simp only [setObj, Sem.run, hit', setO]
  cases hfil with
  | nil =>
    have hsem : (execOp a.eval o).run P w = .ok (.value (.tuple #[.bool false])) w := by
      have : execOp a.eval o = (do pure (.value (← Instr.next (a.eval x) false o.type))) := by unfold execOp; rw [hop]
      show (execOp a.eval o).run P w = _
      rw [this, Sem.run_bind]
      have hn : (Instr.next (a.eval x) false o.type).run P w = .ok (.tuple #[.bool false]) w := by
        unfold Instr.next
        rw [hxe]
        simp only [Sem.run_bind, Result.andThen_ok, run_getIter hit, run_getMap e1]
        rw [if_neg (by rw [hc']; exact Bool.false_ne_true)]
        simp only [Sem.run_bind, Sem.run_pure, Result.andThen_ok, hleft]
        simp [choose, Sem.run, Question.forced]
      rw [hn]
      rfl
    rw [hsem, Oper.uponIn_value]
    obtain ⟨fr', hp, hq2⟩ := h0 rfl
    exact hK _ _ (hq2 m ρ0 W0 w0 _ _ k0 k1 ⟨ρ, ⟨g1, g2, FR.putT g3 (fun x e => by cases e; exact .flat 8 _ rfl) hp, by rw [putX_defers]; exact g4⟩, g5, trivial⟩)
  | cons en0 en0' L0 L0' b1 b2 b3 b4 =>
    have hall : ∀ (L L' : List MapEntry), ERs ρ L L' → ∀ (j : Nat) (e' : MapEntry), L'[j]? = some e' → ∃ e, L[j]? = some e ∧ VR ρ e.key e'.key ∧ VR ρ e.val e'.val ∧ e'.born = e.born := by
      intro L L' h
      induction h with
      | nil => intro j e' h; simp at h
      | cons en en' L L' b1 b2 b3 b4 ih =>
        intro j e' h
        cases j with
        | zero => simp at h; subst h; exact ⟨en, rfl, b1, b2, b3⟩
        | succ j => simpa using ih j e' (by simpa using h)
    have hER : ERs ρ (en0 :: L0) (en0' :: L0') := .cons _ _ _ _ b1 b2 b3 b4
    have hER' := hall _ _ hER
    have hold' : ∀ e' ∈ en0' :: L0', e'.born < since := fun e' he => by
      obtain ⟨j, hj⟩ := List.getElem?_of_mem he
      obtain ⟨e, q1, _, _, q4⟩ := hER' j e' hj
      rw [q4]; exact hold e (List.mem_of_getElem? q1)
    obtain ⟨L', hL'⟩ : ∃ L', L' = en0' :: L0' := ⟨_, rfl⟩
    rw [← hL'] at hleft hold' hER'
    have hpos : 0 < L'.length := by rw [hL']; simp
    have hO : (L'.toArray.filter fun e => decide (e.born < since)) = L'.toArray := by
      rw [List.filter_toArray, List.filter_eq_self.2 fun e he => decide_eq_true (hold' e he)]
    have hN : (L'.toArray.filter fun e => decide (e.born ≥ since)) = #[] := by
      rw [List.filter_toArray, List.filter_eq_nil_iff.2 fun e he => by have := hold' e he; simp; omega]
    have hne : (L'.toArray : Array MapEntry).isEmpty = false := by rw [List.isEmpty_toArray, hL']; rfl
    have hcand : ((if (L'.toArray : Array MapEntry).isEmpty = true then #[none] else #[]) ++ (L'.toArray ++ #[] : Array MapEntry).map some) = (L'.map some).toArray := by
      rw [hne]; simp
    obtain ⟨j, w1, hj, hch, hw1⟩ : ∃ j w1, j < L'.length ∧ (choose (.mapNext ((L'.map some).toArray).size)).run P w = .ok j w1 ∧ (w1 = w ∨ w1 = w.drew) := by
      rw [run_choose_drew]
      have hsz : ((L'.map some).toArray).size = L'.length := by simp
      rw [hsz]
      by_cases hf : Question.forced (.mapNext L'.length) = true
      · rw [if_pos hf]; exact ⟨0, w, hpos, rfl, .inl rfl⟩
      · rw [if_neg hf]; exact ⟨_, w.drew, Nat.mod_lt _ hpos, rfl, .inr rfl⟩
    have hget : L'[j]? = some L'[j] := List.getElem?_eq_getElem hj
    obtain ⟨e', he'⟩ : ∃ e', e' = L'[j] := ⟨_, rfl⟩
    rw [← he'] at hget
    obtain ⟨e, q1, q2, q3, q4⟩ := hER' j e' hget
    have hH1 : HR P ρ s.W.get w1 := by rcases hw1 with rfl | rfl
                                       · exact g2
                                       · exact g2.drew
    have hit1 : w1.heap[i.b]? = some (.mapIter (some q.b) since seen.toArray last) := by rcases hw1 with rfl | rfl <;> exact hit
    have hheap : w1.heap = w.heap := by rcases hw1 with rfl | rfl <;> rfl
    obtain ⟨r1, r2⟩ := hH1.put hri (by rw [hr]; simp) (.iter mp since (seen ++ [e.born]) c) (setO_keep w1 i.b (.mapIter (some q.b) since (seen ++ [e.born]).toArray c)) (setO_at hit1) (.iter _ _ _ _ q hq hs0)
    have hsem : (execOp a.eval o).run P w = .ok (.value (.tuple #[.bool true, e'.key, e'.val])) (setO w1 i.b (.mapIter (some q.b) since (seen ++ [e.born]).toArray c)) := by
      have : execOp a.eval o = (do pure (.value (← Instr.next (a.eval x) false o.type))) := by unfold execOp; rw [hop]
      rw [this, Sem.run_bind]
      have hn : (Instr.next (a.eval x) false o.type).run P w = .ok (.tuple #[.bool true, e'.key, e'.val]) (setO w1 i.b (.mapIter (some q.b) since (seen ++ [e.born]).toArray c)) := by
        unfold Instr.next
        rw [hxe]
        simp only [Sem.run_bind, Result.andThen_ok, run_getIter hit, run_getMap e1]
        rw [if_neg (by rw [hc']; exact Bool.false_ne_true)]
        simp only [Sem.run_bind, Sem.run_pure, Result.andThen_ok, hleft, hO, hN, hcand, hch]
        have hcj : ((L'.map some).toArray)[j]? = some (some e') := by simp [hget]
        rw [hcj]
        simp only []
        rw [Sem.run_bind, hst w1 _ hheap, Result.andThen_ok, q4]
        rw [show seen.toArray.push e.born = (seen ++ [e.born]).toArray by simp]
        rfl
      rw [hn]
      rfl
    rw [hsem, Oper.uponIn_value]
    obtain ⟨fr', hp, hq2⟩ := h1 e (List.mem_of_getElem? q1)
    have hstep : Step ρ s.W.get s.W.next w ρ (s.W.put r (some (.iter mp since (seen ++ [e.born]) c))).get (s.W.put r (some (.iter mp since (seen ++ [e.born]) c))).next (setO w1 i.b (.mapIter (some q.b) since (seen ++ [e.born]).toArray c)) := by
      rcases hw1 with rfl | rfl
      · exact r2
      · exact Step.drew r2
    exact hK _ _ (hq2 m ρ0 W0 w0 _ _ k0 k1 ⟨ρ, ⟨g1.trans hstep, r1, FR.putT g3 (fun x e => by cases e; exact .tuple [_, _, _] [_, _, _] (.cons _ _ _ _ (.flat 1 _ rfl) (.cons _ _ _ _ q2 (.cons _ _ _ _ q3 .nil)))) hp, by rw [putX_defers]; exact g4⟩, g5, trivial⟩)
end
end Go.Proofs.YthlkgmdkabelpaaGreat.X
namespace Go.Proofs.YthlkgmdkabelpaaGreat.X
open Go Go.RowKit
section
variable {P : Program} {H : Hooks} {N k : Nat} {s : XS} {Q : XQ}
theorem xwp_rangeFunc {f : Operand} {ps : Array Tmp} {asg body : Code} {g : FuncId} {xs cap : Array Value} {S : XEnd → XW → Prop} (hv : ev s.fr f = some (.func (.func g) xs cap)) (he : Enters P g)
    (hl : Local P g (xs.toList ++ [Value.func (.yield (s.W.next + 1)) #[] #[]] ++ cap.toList) ((s.W.push (.defd false)).push (.loop .ready none s.fr N ps.toList asg body s.W.next)) S)
    (q : ∀ e W2, S e W2 → ∃ v st tm N2 ps2 asg2 body2 d2, e = .ret v ∧ s.W.next + 2 ≤ W2.next ∧ W2.get (s.W.next + 1) = some (.loop st none tm N2 ps2 asg2 body2 d2) ∧ isBusy st = false ∧ Q .norm ⟨s.fr, W2.put (s.W.next + 1) (some (.loop .exhausted none tm N2 ps2 asg2 body2 d2)), .mark s.W.next :: s.ds⟩) :
    XWp P N k (.rangeFunc f ps asg body) s Q := fun m ρ0 W0 w0 a w k0 k1 hch => by
  obtain ⟨ρ, ⟨g1, g2, g3, g4⟩, g5, g6⟩ := hch
  obtain ⟨xs', cs', hx, hv1, hv2⟩ := (g3.ev f _ hv).funcInv
  refine wpIn_rangeFunc fun fn _ => ?_
  obtain ⟨l, mark, w1, ρ1, i1, e1, e2, e3, e4, e5, e6⟩ := enter_sim (s := s) (rd := none) (rb := none) (d := s.W.next) (mk := [XDef.mark s.W.next]) (W1 := s.W.push (.defd false)) (ps := ps.toList) (asg := asg) (body := body) (fn := fn) trivial rfl (fun n k1 _ => g5 n k1) g2 g3
  rw [Array.toArray_toList] at e1
  have hres : (resolve a.eval (rangeCall f l) 0).run P w1 = .ok ⟨.fn (.func g) cs'.toArray, xs'.toArray ++ #[Value.func (.yield l) #[] #[]]⟩ w1 := by
    show (Deferred.ofValue (a.eval f) (#[Operand.const (.func (.yield l) #[] #[])].map a.eval)).run P w1 = _
    rw [hx]
    simp only [List.map_toArray, List.map_cons, List.map_nil, Act.eval]
    rfl
  refine ⟨l, mark, w1, _, w1, g, xs'.toArray ++ #[Value.func (.yield l) #[] #[]] ++ cs'.toArray, w1, e1, hres, fun _ _ => trivial, run_enter he, fun h => (by cases h), ?_⟩
  have hvr : VRs ρ1 (xs.toList ++ [Value.func (.yield (s.W.next + 1)) #[] #[]] ++ cap.toList) (xs' ++ [Value.func (.yield l) #[] #[]] ++ cs') := by
    refine ((hv1.mono e3.le).append (.cons _ _ _ _ ?_ .nil)).append (hv2.mono e3.le)
    rw [← e5]
    exact .yield _ i1 e4
  have hfr1 : ∀ n, ((s.W.push (.defd false)).push (.loop .ready none s.fr N ps.toList asg body s.W.next)).next ≤ n → ρ1 n = none := none_step g5 e3
  have hc := hl ρ1 _ w1 (m - 1) hfr1 e2 hvr
  have ea : (xs'.toArray ++ #[Value.func (.yield l) #[] #[]] ++ cs'.toArray) = (xs' ++ [Value.func (.yield l) #[] #[]] ++ cs').toArray := by
    apply Array.ext'
    simp
  rw [← ea] at hc
  refine CallsIn.mono (callsIn_round hc) fun en w2 hqf => ?_
  obtain ⟨eL, W2, hS, ρ2, s2, h2, hen⟩ := hqf
  obtain ⟨v, st, tm, N2, ps2, asg2, body2, d2, rfl, hn2, hg, hbz, hq⟩ := q _ _ hS
  cases en <;> first | exact hen.elim | skip
  have hi2 := s2.le _ _ e4
  have hg : W2.get (s.W.push (.defd false)).next = some (.loop st none tm N2 ps2 asg2 body2 d2) := hg
  obtain ⟨ob, hb, hor⟩ := h2.obj _ i1 _ hi2 hg
  cases hor with
  | loop _ _ _ _ _ _ _ _ qd fn2 tmps2 hd2 hFt2 =>
    obtain ⟨p1, p2⟩ := h2.put hi2 (by rw [hg]; simp) (.loop .exhausted none tm N2 ps2 asg2 body2 d2) (setO_keep w2 i1.b _) (setO_at hb) (.loop _ none tm N2 ps2 asg2 body2 d2 qd fn2 tmps2 hd2 hFt2)
    have hend := run_endLoop (P := P) hb (show (st == LoopState.busy) = false by cases st <;> first | rfl | cases hbz)
    rw [e5] at hend p1 p2
    refine ⟨_, _, hend, ?_⟩
    have hst := (e3.trans s2).trans p2
    exact ⟨_, _, hq, ρ2, ⟨g1.trans hst, p1, g3.mono hst.le, ((e6.mono s2.le).append (g4.mono hst.le))⟩, none_step g5 hst, trivial⟩
end
end Go.Proofs.YthlkgmdkabelpaaGreat.X
namespace Go.Proofs.YthlkgmdkabelpaaGreat.X
open Go Go.RowKit
theorem to_iter {P : Program} {θ : Nat → Option Nat} {m m' since last : Nat} {seen : List Nat} (h : θ m = some m') : TO P (Names θ) (.iter m since seen last) (.iter m' since seen last) := fun ρ ρ' i ob ht ho => by
  cases ho with
  | iter _ _ _ _ q hq hs => exact .iter _ _ _ _ q (ht.2 _ _ _ h hq) hs
theorem to_defd {P : Program} {T : RT} {b : Bool} : TO P T (.defd b) (.defd b) := fun ρ ρ' i ob ht ho => by
  cases ho with
  | defd0 => exact .defd0
  | defd1 => exact .defd1
theorem to_loop {P : Program} {θ : Nat → Option Nat} {st : LoopState} {pend : Option Code} {F F' : List (Nat × Option Value)} {N : Nat} {ps : List Tmp} {asg body : Code} {d d' : Nat} (h : θ d = some d') (hF : AllTv (Names θ) F F') :
    TO P (Names θ) (.loop st pend (frm F) N ps asg body d) (.loop st pend (frm F') N ps asg body d') := fun ρ ρ' i ob ht ho => by
  cases ho with
  | loop _ _ _ _ _ _ _ _ q fn tmps hd hFr =>
    refine .loop _ _ _ _ _ _ _ _ q fn tmps (ht.2 _ _ _ h hd) ⟨hFr.size, fun t v' e => ?_⟩
    obtain ⟨h1, v, h2, h3⟩ := hF.mem t v' (lk_mem (frm_some e))
    exact h3 _ _ _ ht (hFr.rep t v (by rw [frm_get h1]; exact h2))
theorem tv_yield {θ : Nat → Option Nat} {n m : Nat} (h : θ n = some m) : TV (Names θ) (.func (.yield n) #[] #[]) (.func (.yield m) #[] #[]) := fun ρ ρ' x ht hv => by
  cases hv with
  | flat k v h => cases k <;> simp [flatN] at h
  | yield _ i hi => exact .yield _ _ (ht.2 _ _ _ h hi)
section
variable {P : Program} {H : Hooks} {N k : Nat} {s s' : XS} {e : XExit} {Q : XQ}
theorem xwp_regionN (hB : Base P H) (n : Nat) {id : Nat} {ops : Array Oper} (h : opsX P (xrun P H n) N none ops ops.toList s = some (.code e s')) (q : Q e s') : XWp P N k (.region id ops false) s Q :=
  xwp_run (hB.simC (n + 1)) (show xrun P H (n + 1) (.code N none (.region id ops false) s) = _ from h) q
theorem run_code {n N : Nat} {rd : Option Nat} {c : Code} {s : XS} : xrun P H (n + 1) (.code N rd c s) = codeX P (xrun P H n) N rd s c := rfl
end
end Go.Proofs.YthlkgmdkabelpaaGreat.X
namespace Go.Proofs.YthlkgmdkabelpaaGreat.X
open Go Go.RowKit
theorem entF_mem {enc : List UInt8 → Value} : ∀ {l : ObL} {i : Nat} {e : MapEntry}, e ∈ entF enc l i → ∃ j, ∃ h : j < l.length, e = ⟨hbV l[j].1, enc l[j].2, i + j⟩
  | x :: l, i, e, h => by
    rcases List.mem_cons.1 h with rfl | h
    · exact ⟨0, by rw [List.length_cons]; omega, rfl⟩
    · obtain ⟨j, hj, rfl⟩ := entF_mem h
      exact ⟨j + 1, by rw [List.length_cons]; omega, by rw [Nat.add_assoc, Nat.add_comm 1]; rfl⟩
theorem entF_find {enc : List UInt8 → Value} : ∀ {l : ObL} {i j : Nat} (h : j < l.length), (entF enc l i).find? (fun e => Nat.beq e.born (i + j)) = some ⟨hbV l[j].1, enc l[j].2, i + j⟩
  | x :: l, i, 0, _ => by
    unfold entF
    rw [List.find?_cons_of_pos (by show Nat.beq i (i + 0) = true; exact Nat.beq_refl i)]
    rfl
  | x :: l, i, j + 1, h => by
    unfold entF
    rw [List.find?_cons_of_neg (by show ¬ Nat.beq i (i + (j + 1)) = true; rw [beqF (by omega)]; simp)]
    have := entF_find (enc := enc) (l := l) (i := i + 1) (j := j) (by rw [List.length_cons] at h; omega)
    rw [show i + (j + 1) = i + 1 + j by omega]
    exact this
structure SeenK (es : ObL) where
  js : List Nat
  m : List HB
  nd : js.Nodup
  lt : ∀ j ∈ js, j < es.length
  hm : m = js.map fun j => (es[j]?.map (·.1)).getD (shaB [])
theorem seenK_len {es : ObL} (y : SeenK es) : y.m.length = y.js.length := by rw [y.hm, List.length_map]
theorem nodup_le : ∀ {n : Nat} {l : List Nat}, l.Nodup → (∀ j ∈ l, j < n) → l.length ≤ n
  | 0, [], _, _ => Nat.le_refl _
  | 0, a :: l, _, h => absurd (h a List.mem_cons_self) (Nat.not_lt_zero _)
  | n + 1, l, h, hl => by
    by_cases hn : n ∈ l
    · have h1 := nodup_le (n := n) (l := l.erase n) (h.erase n) fun j hj => by
        have hjl := List.mem_of_mem_erase hj
        have h2 := hl j hjl
        have : j ≠ n := fun e => by subst e; exact (List.Nodup.not_mem_erase h) hj
        omega
      rw [List.length_erase_of_mem hn] at h1
      omega
    · have := nodup_le (n := n) (l := l) h fun j hj => by
        have h2 := hl j hj
        have : j ≠ n := fun e => by subst e; exact hn hj
        omega
      omega
theorem perm_all {es : ObL} (y : SeenK es) (h : ∀ j, j < es.length → j ∈ y.js) : y.m.Perm (keysS es) := by
  have h1 : y.js.Perm (List.range es.length) := (List.perm_ext_iff_of_nodup y.nd List.nodup_range).2 fun j => ⟨fun q => List.mem_range.2 (y.lt j q), fun q => h j (List.mem_range.1 q)⟩
  rw [y.hm]
  have h2 := h1.map fun j => (es[j]?.map (·.1)).getD (shaB [])
  have h3 : ((List.range es.length).map fun j => (es[j]?.map (·.1)).getD (shaB [])) = keysS es := by
    unfold keysS
    apply List.ext_getElem?
    intro j
    by_cases hj : j < es.length
    · simp [hj]
    · rw [List.getElem?_eq_none (by simp; omega), List.getElem?_eq_none (by simp; omega)]
  rw [h3] at h2
  exact h2
end Go.Proofs.YthlkgmdkabelpaaGreat.X
namespace Go.Proofs.YthlkgmdkabelpaaGreat.X
open Go Go.RowKit
theorem chle_get {P : Program} {k : Nat} {fr : XF} {W : XW} {L : List (Nat × Option XObj)} {n' nl : Nat} {lg : List Nat} {ds : List XDef} (hn : W.next ≤ n') (h : ∀ m o, lk L m = some o → W.get m = some o) : ChLe P k ⟨fr, W, ds⟩ ⟨fr, wd L n' lg nl, ds⟩ :=
  chle_sub (fun t v e => e) (fun m o e => h m o (wd_some e).2) hn rfl
def sqV : Value := .func (.func 90) #[] #[.pointer (some ⟨2, 0, none⟩)]
def mainO : XObj := .cells [.map (some 1)] 65 (0, 0)
def mapO (es : ObL) : XObj := .map (entL encS es) es.length
def boxO : XObj := .cells [.map (some 1)] 63 (0, 0)
def rowO (m : List HB) : XObj := .cells (rowHs m) 24 (0, 0)
def slO (m : List HB) : XObj := .cells [.slice (some ⟨7, 0, none⟩) m.length openCap] 48 (0, 0)
set_option maxHeartbeats 2000000 in
theorem appLocal (es : ObL) (hn : es.length ≤ 1000000) (hne : es ≠ []) : Local Tryz.prog 112 [.slice none 0 0, sqV] (wd [(0, some mainO), (1, some (mapO es)), (2, some boxO)] 3 [] 0)
    fun e W' => ∃ m : List HB, m.Perm (keysS es) ∧ m.length = es.length ∧ e = .ret (.slice (some ⟨7, 0, none⟩) m.length openCap) ∧ W'.get 0 = some mainO ∧ W'.get 1 = some (mapO es) ∧ W'.get 7 = some (rowO m) ∧ W'.next ≤ 20 := by
  refine lit_local base0 Tryz.func112 rfl (Nat.le_of_ble_eq_true rfl) ?_
  simp only [frOfL.eq_1, frOfL.eq_2, wd_next, Tryz.ntmps112, Nat.reduceAdd]
  refine xwp_seq (xwp_region (e := ?e1) (s' := ?s1) base0 ?h1 ?q1)
  case h1 =>
    simp (disch := first | decide | omega | (simp only [List.length_cons, List.length_nil, List.length_append, length_bvs, List.length_take, List.length_drop]; omega)) only [go_sem, Nat.reduceAdd, Nat.reduceMul, Nat.reduceSub]
    all_goals with_reducible rfl
  case q1 =>
  refine xwp_seq ?_
  refine xwp_seq (xwp_region (e := ?e2) (s' := ?s2) base0 ?h2 ?q2)
  case h2 =>
    simp (disch := first | decide | omega | (simp only [List.length_cons, List.length_nil, List.length_append, length_bvs, List.length_take, List.length_drop]; omega)) only [go_sem, Nat.reduceAdd, Nat.reduceMul, Nat.reduceSub]
    all_goals with_reducible rfl
  case q2 =>
  refine xwp_block ?_
  refine xwp_le (s' := ⟨frm [(2, some (.pointer (some ⟨3, 0, none⟩))), (6, some sqV)], wd [(0, some mainO), (1, some (mapO es)), (2, some boxO), (3, some (.cells [.slice none 0 0] 48 (0, 0)))] 4 [] 0, []⟩) (chle_lit (by simp (disch := decide) [AllLk, lk_hit, lk_miss, lk_nil]) (by simp (disch := decide) [AllLk, lk_hit, lk_miss, lk_nil]) (by decide)) ?_
  refine xwp_rangeFunc (g := 90) (xs := #[]) (cap := #[.pointer (some ⟨2, 0, none⟩)]) (S := fun e W2 => ∃ m : List HB, m.Perm (keysS es) ∧ m.length = es.length ∧ (∃ v, e = .ret v) ∧ W2.get 0 = some mainO ∧ W2.get 1 = some (mapO es) ∧ W2.get 3 = some (slO m) ∧ W2.get 4 = some (.defd false) ∧ W2.get 7 = some (rowO m) ∧ 8 ≤ W2.next ∧ W2.next ≤ 20 ∧ ∃ st tm N2 ps2 asg2 body2 d2, W2.get 5 = some (.loop st none tm N2 ps2 asg2 body2 d2) ∧ isBusy st = false) ?hv (enters_of (by kernel_rfl)) ?hl ?q
  case hv =>
    simp (disch := first | decide | omega | (simp only [List.length_cons, List.length_nil, List.length_append, length_bvs, List.length_take, List.length_drop]; omega)) only [sqV, go_sem, Nat.reduceAdd, Nat.reduceMul, Nat.reduceSub]
  case q =>
    intro e W2 ⟨m, h1, h2, ⟨v, h3⟩, h4, h5, h6, h7, h8, h9, h10, st, tm, N2, ps2, asg2, body2, d2, h11, h12⟩
    refine ⟨v, st, tm, N2, ps2, asg2, body2, d2, h3, by simp only [wd_next]; omega, h11, h12, ?_⟩
    simp only [wd_next, Nat.reduceAdd]
    show XWp _ _ _ _ _ _
    refine xwp_le (s' := ⟨frm [(2, some (.pointer (some ⟨3, 0, none⟩)))], wd [(0, some mainO), (1, some (mapO es)), (3, some (slO m)), (4, some (.defd false)), (7, some (rowO m))] 20 [] 0, [.mark 4]⟩) ?_ ?_
    · refine chle_sub (fun t v e => ?_) (fun n o e => ?_) h10 rfl
      · have h := frm_some e
        show (frm _).get t = some v
        by_cases ht : 2 = t
        · subst ht; rw [lk_hit] at h; rw [frm_get (by decide), lk_hit]; exact h
        · rw [lk_miss ht] at h; cases h
      · obtain ⟨g1, g2⟩ := wd_some e
        have hn5 : n ≠ 5 := fun q => by subst q; simp (disch := decide) [lk_hit, lk_miss, lk_nil] at g2
        show (W2.put 5 _).get n = some o
        rw [XW.get_put_ne hn5]
        have hcases := lk_mem g2
        simp only [List.mem_cons, List.not_mem_nil, or_false, Prod.mk.injEq, Option.some.injEq] at hcases
        rcases hcases with ⟨rfl, rfl⟩ | ⟨rfl, rfl⟩ | ⟨rfl, rfl⟩ | ⟨rfl, rfl⟩ | ⟨rfl, rfl⟩ <;> assumption
    refine xwp_seq (xwp_region (e := ?e3) (s' := ?s3) base0 ?h3 ?q3)
    case h3 =>
      simp (disch := first | decide | omega | (simp only [List.length_cons, List.length_nil, List.length_append, length_bvs, List.length_take, List.length_drop]; omega)) only [slO, go_sem, Nat.reduceAdd, Nat.reduceMul, Nat.reduceSub]
      all_goals with_reducible rfl
    case q3 =>
    refine xwp_ret ?_
    refine ⟨_, ?e4, ?W4, rfl, ?h4, ?q4⟩
    case h4 =>
      simp (disch := first | decide | omega | (simp only [List.length_cons, List.length_nil, List.length_append, length_bvs, List.length_take, List.length_drop]; omega)) only [Tryz.results112, go_sem, Nat.reduceAdd, Nat.reduceMul, Nat.reduceSub]
      all_goals with_reducible rfl
    case q4 =>
    refine ⟨m, h1, h2, rfl, ?_, ?_, ?_, ?_⟩
    · simp (disch := first | decide | omega | (simp only [List.length_cons, List.length_nil, List.length_append, length_bvs, List.length_take, List.length_drop]; omega)) only [go_sem, Nat.reduceAdd, Nat.reduceMul, Nat.reduceSub]
    · simp (disch := first | decide | omega | (simp only [List.length_cons, List.length_nil, List.length_append, length_bvs, List.length_take, List.length_drop]; omega)) only [go_sem, Nat.reduceAdd, Nat.reduceMul, Nat.reduceSub]
    · simp (disch := first | decide | omega | (simp only [List.length_cons, List.length_nil, List.length_append, length_bvs, List.length_take, List.length_drop]; omega)) only [go_sem, Nat.reduceAdd, Nat.reduceMul, Nat.reduceSub]
    · exact Nat.le_refl _
  case hl =>
  simp only [wd_next, wd_push, List.nil_append, List.cons_append, Nat.reduceAdd]
  generalize hLP : XObj.loop LoopState.ready none _ 13 [7] _ _ 4 = LP
  have hex : ∃ st tm N2 ps2 asg2 body2 d2, LP = .loop st none tm N2 ps2 asg2 body2 d2 ∧ isBusy st = false := ⟨_, _, _, _, _, _, _, hLP.symm, rfl⟩
  have hto : ∀ θ : Nat → Option Nat, θ 2 = some 2 → θ 3 = some 3 → θ 4 = some 4 → TO Tryz.prog (Names θ) LP LP := fun θ h2 h3 h4 => by
    rw [← hLP]
    exact to_loop h4 (allTv_cons (v := .pointer (some ⟨3, 0, none⟩)) (by decide) (by simp (disch := first | decide | omega) only [lk_hit, lk_miss]) (tv_ptr h3) (allTv_cons (v := sqV) (by decide) (by simp (disch := first | decide | omega) only [lk_hit, lk_miss]) (tv_func (xs := []) (xs' := []) (cs := [.pointer (some ⟨2, 0, none⟩)]) (cs' := [.pointer (some ⟨2, 0, none⟩)]) tvs_nil (tvs_cons (tv_ptr h2) tvs_nil)) allTv_nil))
  have hpos : 0 < es.length := List.length_pos_iff.2 hne
  refine lit_local base0 Tryz.func90 rfl (Nat.le_of_ble_eq_true rfl) ?_
  simp only [frOfL.eq_1, frOfL.eq_2, wd_next, Tryz.ntmps90, Nat.reduceAdd]
  refine xwp_seq (xwp_region (e := ?e5) (s' := ?s5) base0 ?h5 ?q5)
  case h5 =>
    simp (disch := first | decide | omega | (simp only [List.length_cons, List.length_nil, List.length_append, length_bvs, List.length_take, List.length_drop]; omega)) only [boxO, mapO, rngX.eq_1, rng1.eq_1, go_sem, Nat.reduceAdd, Nat.reduceMul, Nat.reduceSub]
    all_goals with_reducible rfl
  case q5 =>
  refine xwp_block ?_
  refine xwp_le (s' := ⟨frm [(0, some (.func (.yield 5) #[] #[])), (5, some (.pointer (some ⟨6, 0, none⟩)))], wd [(0, some mainO), (1, some (mapO es)), (2, some boxO), (3, some (.cells [gsv 7 0] 48 (0, 0))), (4, some (.defd false)), (5, some LP), (6, some (.iter 1 es.length [] es.length)), (7, growO 24 (rowHs []) 0)] 8 [] 0, []⟩) (chle_lit (by simp (disch := decide) [AllLk, lk_hit, lk_miss, lk_nil]) (by simp (disch := decide) [AllLk, lk_hit, lk_miss, lk_nil, gsv, growO, boxO, mapO]) (by decide)) ?_
  refine xwp_loop (α := SeenK es) (fun y => ⟨frm [(0, some (.func (.yield 5) #[] #[])), (5, some (.pointer (some ⟨6, 0, none⟩)))], wd [(0, some mainO), (1, some (mapO es)), (2, some boxO), (3, some (.cells [gsv 7 y.m.length] 48 (0, 0))), (4, some (.defd false)), (5, some LP), (6, some (.iter 1 es.length y.js es.length)), (7, growO 24 (rowHs y.m) y.m.length)] 8 [] 0, []⟩) (fun y => es.length - y.js.length) ?_ ⟨[], [], List.nodup_nil, fun _ h => (by cases h), rfl⟩
  intro y
  obtain ⟨js, m, hnd, hlt, hm⟩ := y
  simp only
  have hml : m.length = js.length := by rw [hm, List.length_map]
  have hjl : js.length ≤ es.length := nodup_le hnd hlt
  refine xwp_seq (xops_region ?_)
  refine xops_next (x := .tmp 5) (r := 6) (mp := 1) (since := es.length) (last := es.length) (c := es.length) (seen := js) (es := entL encS es) rfl rfl ?hx ?hr ?hm2 ?hc ?hold ?z ?nz
  case hx => simp (disch := first | decide | omega | (simp only [List.length_cons, List.length_nil, List.length_append, length_bvs, List.length_take, List.length_drop]; omega)) only [go_sem, Nat.reduceAdd, Nat.reduceMul, Nat.reduceSub]
  case hr => simp (disch := first | decide | omega | (simp only [List.length_cons, List.length_nil, List.length_append, length_bvs, List.length_take, List.length_drop]; omega)) only [go_sem, Nat.reduceAdd, Nat.reduceMul, Nat.reduceSub]
  case hm2 => simp (disch := first | decide | omega | (simp only [List.length_cons, List.length_nil, List.length_append, length_bvs, List.length_take, List.length_drop]; omega)) only [mapO, go_sem, Nat.reduceAdd, Nat.reduceMul, Nat.reduceSub]
  case hc =>
    rcases es with _ | ⟨x, l⟩
    · exact absurd rfl hne
    · have : ((entL encS (x :: l)).all fun e => Nat.ble (x :: l).length e.born) = false := by
        show (Nat.ble (x :: l).length 0 && _) = false
        rw [ble_f (by rw [List.length_cons]; omega)]
        rfl
      rw [this, Bool.and_false]
  case hold =>
    intro e he
    obtain ⟨j, hj, rfl⟩ := entF_mem (List.mem_filter.1 he).1
    show 0 + j < es.length
    omega
  case z =>
    intro hz
    refine ⟨_, putX_frm (by decide), xops_step base0 1 (s1 := ?s1z) ?hz1 (xops_nil ?qz)⟩
    case hz1 =>
      simp (disch := first | decide | omega | (simp only [List.length_cons, List.length_nil, List.length_append, length_bvs, List.length_take, List.length_drop]; omega)) only [go_sem, Nat.reduceAdd, Nat.reduceMul, Nat.reduceSub]
      all_goals with_reducible rfl
    case qz =>
    show XWp _ _ _ _ _ _
    refine xwp_seq (xwp_cf ?h6 ?q6)
    case h6 =>
      simp (disch := first | decide | omega | (simp only [List.length_cons, List.length_nil, List.length_append, length_bvs, List.length_take, List.length_drop]; omega)) only [go_sem, Nat.reduceAdd, Nat.reduceMul, Nat.reduceSub]
      all_goals with_reducible rfl
    case q6 =>
    refine xwp_exit ?_
    have hall : ∀ j, j < es.length → j ∈ js := fun j hj => by
      by_cases hjs : j ∈ js
      · exact hjs
      · exfalso
        have hmem : (⟨hbV es[j].1, encS es[j].2, 0 + j⟩ : MapEntry) ∈ entL encS es := List.mem_of_find?_eq_some (entF_find (enc := encS) (i := 0) hj)
        have : (⟨hbV es[j].1, encS es[j].2, 0 + j⟩ : MapEntry) ∈ (entL encS es).filter (notIn js) := List.mem_filter.2 ⟨hmem, by
          show (!(js.any fun n => Nat.beq n (0 + j))) = true
          rw [Nat.zero_add, Bool.not_eq_true', List.any_eq_false]
          intro n hn2 hb
          exact hjs (by rw [← Nat.eq_of_beq_eq_true hb]; exact hn2)⟩
        rw [hz] at this
        cases this
    have hpm : m.Perm (keysS es) := perm_all ⟨js, m, hnd, hlt, hm⟩ hall
    have hme : m.length = es.length := by rw [hpm.length_eq]; unfold keysS; rw [List.length_map]
    obtain ⟨q, hmq⟩ : ∃ q, m.length = q + 1 := ⟨m.length - 1, by omega⟩
    have hg1 : gsv 7 m.length = .slice (some ⟨7, 0, none⟩) m.length openCap := by rw [hmq]; rfl
    have hg2 : growO 24 (rowHs m) m.length = some (rowO m) := by rw [hmq]; rfl
    rw [hg1, hg2]
    refine ⟨_, ?e7, ?W7, rfl, ?h7, ?q7⟩
    case h7 =>
      simp (disch := first | decide | omega | (simp only [List.length_cons, List.length_nil, List.length_append, length_bvs, List.length_take, List.length_drop]; omega)) only [Tryz.results90, go_sem, Nat.reduceAdd, Nat.reduceMul, Nat.reduceSub]
      all_goals with_reducible rfl
    case q7 =>
    obtain ⟨st, tm, N2, ps2, asg2, body2, d2, hx1, hx2⟩ := hex
    refine ⟨m, hpm, hme, ⟨_, rfl⟩, ?_, ?_, ?_, ?_, ?_, ?_, ?_, st, tm, N2, ps2, asg2, body2, d2, ?_, hx2⟩
    · simp (disch := first | decide | omega | (simp only [List.length_cons, List.length_nil, List.length_append, length_bvs, List.length_take, List.length_drop]; omega)) only [go_sem, Nat.reduceAdd, Nat.reduceMul, Nat.reduceSub]
    · simp (disch := first | decide | omega | (simp only [List.length_cons, List.length_nil, List.length_append, length_bvs, List.length_take, List.length_drop]; omega)) only [go_sem, Nat.reduceAdd, Nat.reduceMul, Nat.reduceSub]
    · simp (disch := first | decide | omega | (simp only [List.length_cons, List.length_nil, List.length_append, length_bvs, List.length_take, List.length_drop]; omega)) only [slO, go_sem, Nat.reduceAdd, Nat.reduceMul, Nat.reduceSub]
    · simp (disch := first | decide | omega | (simp only [List.length_cons, List.length_nil, List.length_append, length_bvs, List.length_take, List.length_drop]; omega)) only [go_sem, Nat.reduceAdd, Nat.reduceMul, Nat.reduceSub]
    · simp (disch := first | decide | omega | (simp only [List.length_cons, List.length_nil, List.length_append, length_bvs, List.length_take, List.length_drop]; omega)) only [go_sem, Nat.reduceAdd, Nat.reduceMul, Nat.reduceSub]
    · exact Nat.le_refl _
    · show 8 ≤ 20; decide
    · rw [← hx1]
      simp (disch := first | decide | omega | (simp only [List.length_cons, List.length_nil, List.length_append, length_bvs, List.length_take, List.length_drop]; omega)) only [go_sem, Nat.reduceAdd, Nat.reduceMul, Nat.reduceSub]
  case nz =>
    intro e he
    obtain ⟨hmem, hnot⟩ := List.mem_filter.1 he
    obtain ⟨j, hj, rfl⟩ := entF_mem hmem
    have hjn : j ∉ js := fun hjs => by
      have hnot : (!(js.any fun n => Nat.beq n (0 + j))) = true := hnot
      rw [Nat.zero_add, Bool.not_eq_true', List.any_eq_false] at hnot
      exact hnot j hjs (Nat.beq_refl j)
    have hfind : (entL encS es).find? (fun e => Nat.beq e.born j) = some ⟨.agg (bvs es[j].1.1).toArray, .string (str es[j].2), j⟩ := by
      have := entF_find (enc := encS) (i := 0) hj
      rw [Nat.zero_add] at this
      exact this
    have hm1 : m ++ [es[j].1] = (js ++ [j]).map fun j => (es[j]?.map (·.1)).getD (shaB []) := by
      rw [hm, List.map_append]
      simp [hj]
    obtain ⟨x, hx⟩ : ∃ x, x = es[j] := ⟨_, rfl⟩
    rw [← hx] at hfind hm1 ⊢
    have hxl := x.1.2
    have hbl : (bvs x.1.1).length = 32 := by rw [length_bvs, hxl]
    have hnd1 : (js ++ [j]).Nodup := List.nodup_append.2 ⟨hnd, List.nodup_cons.2 ⟨by simp, List.nodup_nil⟩, fun a ha b hb => by
      simp only [List.mem_cons, List.not_mem_nil, or_false] at hb
      subst hb
      exact fun e => hjn (by rw [← e]; exact ha)⟩
    have hlt1 : ∀ i ∈ js ++ [j], i < es.length := fun i hi => by
      rcases List.mem_append.1 hi with h | h
      · exact hlt i h
      · simp only [List.mem_cons, List.not_mem_nil, or_false] at h; subst h; exact hj
    have hgl : (js ++ [j]).getLast? = some j := by simp
    have hjl1 : (js ++ [j]).length ≤ es.length := nodup_le hnd1 hlt1
    rw [List.length_append] at hjl1
    simp only [Nat.zero_add]
    refine ⟨_, putX_frm (by decide), xops_step base0 1 (s1 := ?s1n) ?hz2 (xops_nil ?qn)⟩
    case hz2 =>
      simp (disch := first | decide | omega | (simp only [List.length_cons, List.length_nil, List.length_append, length_bvs, List.length_take, List.length_drop]; omega)) only [go_sem, Nat.reduceAdd, Nat.reduceMul, Nat.reduceSub]
      all_goals with_reducible rfl
    case qn =>
    show XWp _ _ _ _ _ _
    refine xwp_seq (xwp_ct ?h8 ?q8)
    case h8 =>
      simp (disch := first | decide | omega | (simp only [List.length_cons, List.length_nil, List.length_append, length_bvs, List.length_take, List.length_drop]; omega)) only [go_sem, Nat.reduceAdd, Nat.reduceMul, Nat.reduceSub]
      all_goals with_reducible rfl
    case q8 =>
    refine xwp_skip ?_
    refine xwp_block ?_
    obtain ⟨js1, hjs1⟩ : ∃ js1, js1 = js ++ [j] := ⟨_, rfl⟩
    rw [← hjs1] at hgl hnd1 hlt1 hm1 ⊢
    refine xwp_seq (xwp_region (e := ?e9) (s' := ?s9) base0 ?h9 ?q9)
    case h9 =>
      simp (disch := first | decide | omega | (simp only [List.length_cons, List.length_nil, List.length_append, length_bvs, List.length_take, List.length_drop]; omega)) only [entX.eq_1, ent1.eq_1, ent2.eq_1, entO.eq_1, mapO, hgl, hfind, Nat.beq_refl, hbl, List.drop_eq_nil_of_le, go_sem, Nat.reduceAdd, Nat.reduceMul, Nat.reduceSub]
      all_goals with_reducible rfl
    case q9 =>
    have hemp : (#[] : Array Value).isEmpty = true := rfl
    refine xwp_seq_to ⟨frm [(0, some (.func (.yield 5) #[] #[])), (5, some (.pointer (some ⟨6, 0, none⟩))), (13, some (.bool false))], wd [(0, some mainO), (1, some (mapO es)), (2, some boxO), (3, some (.cells [.slice (some ⟨11, 0, none⟩) (m.length + 1) openCap] 48 (0, 0))), (4, some (.defd false)), (5, some LP), (6, some (.iter 1 es.length js1 es.length)), (11, some (rowO (m ++ [x.1])))] 12 [] 0, []⟩ ?h3 ?q3
    case h3 =>
      rcases m with _ | ⟨a, m'⟩
      · have hr1 : rowHs [x.1] = bvs x.1.1 := rowHs_one.symm
        refine xwp_regionN (e := ?er) (s' := ?sr) base0 4 ?hr3 ?qr3
        case hr3 =>
          simp (disch := first | decide | omega | (simp only [List.length_cons, List.length_nil, List.length_append, length_bvs, List.length_take, List.length_drop]; omega)) only [← hLP, run_code, codeX, rdK, rdK1, rdK2, rdK3, rdK4, rdK5, putArgs, jumpOf, blockK, hemp, hbl, gsv.eq_1, growO.eq_1, List.length_nil, List.drop_eq_nil_of_le, Option.map_some, Option.map_none, isOpen0, List.length_drop, List.length_take, Nat.beq_refl, Nat.sub_zero, Nat.zero_mul, one_rowOb, rowOb_length, rowOb_take, rowOb_drop, List.all_append, one_bvs, one_str, go_sem, Nat.reduceAdd, Nat.reduceMul, Nat.reduceSub]
          all_goals with_reducible rfl
        case qr3 =>
        refine ⟨rfl, chle_lit (by simp (disch := decide) [AllLk, lk_hit, lk_miss, lk_nil]) (by simp (disch := decide) [AllLk, lk_hit, lk_miss, lk_nil, ← hLP, mapO, rowO, hr1]; try rfl) (by decide)⟩
      · obtain ⟨m, hmm⟩ : ∃ m, m = a :: m' := ⟨_, rfl⟩
        have hg1 : gsv 7 (a :: m').length = .slice (some ⟨7, 0, none⟩) m.length openCap := by rw [hmm]; rfl
        have hg2 : growO 24 (rowHs (a :: m')) (a :: m').length = some (.cells (rowHs m) 24 (0, 0)) := by rw [hmm]; rfl
        rw [hg1, hg2, ← hmm]
        rw [← hmm] at hml
        have hrl := rowHs_length m
        have hrt : (rowHs m).take (m.length * 32) = rowHs m := List.take_of_length_le (by rw [hrl]; exact Nat.le_refl _)
        have hro : (rowHs m ++ bvs x.1.1) = rowHs (m ++ [x.1]) := rowHs_snoc
        refine xwp_regionN (e := ?eq) (s' := ?sq) base0 4 ?hq3 ?qq3
        case hq3 =>
          simp (disch := first | decide | omega | (simp only [List.length_cons, List.length_nil, List.length_append, length_bvs, List.length_take, List.length_drop]; omega)) only [← hLP, run_code, codeX, rdK, rdK1, rdK2, rdK3, rdK4, rdK5, putArgs, jumpOf, blockK, hemp, hbl, hrl, hrt, hro, List.drop_eq_nil_of_le, Option.map_some, Option.map_none, isOpen0, List.length_drop, List.length_take, Nat.beq_refl, Nat.sub_zero, Nat.zero_mul, one_rowOb, rowOb_length, rowOb_take, rowOb_drop, List.all_append, one_bvs, one_str, go_sem, Nat.reduceAdd, Nat.reduceMul, Nat.reduceSub]
          all_goals with_reducible rfl
        case qq3 =>
        refine ⟨rfl, chle_lit (by simp (disch := decide) [AllLk, lk_hit, lk_miss, lk_nil]) (by simp (disch := decide) [AllLk, lk_hit, lk_miss, lk_nil, ← hLP, mapO, rowO]; try rfl) (by decide)⟩
    case q3 =>
    refine xwp_cf ?h10 ?q10
    case h10 =>
      simp (disch := first | decide | omega | (simp only [List.length_cons, List.length_nil, List.length_append, length_bvs, List.length_take, List.length_drop]; omega)) only [go_sem, Nat.reduceAdd, Nat.reduceMul, Nat.reduceSub]
      all_goals with_reducible rfl
    case q10 =>
    refine xwp_skip ?_
    refine ⟨⟨js1, m ++ [x.1], hnd1, hlt1, hm1⟩, ?_, ?_⟩
    · show es.length - js1.length < es.length - js.length
      rw [hjs1, List.length_append]
      simp only [List.length_cons, List.length_nil] at hjl1 ⊢
      omega
    simp only [List.length_append, List.length_cons, List.length_nil, Nat.zero_add, gsv.eq_2, growO.eq_2]
    exact chle_ren_lit [(0, some 0), (1, some 1), (2, some 2), (3, some 3), (4, some 4), (5, some 5), (6, some 6), (11, some 7)] [(0, some 0), (1, some 1), (2, some 2), (3, some 3), (4, some 4), (5, some 5), (6, some 6), (7, some 11)] (by decide) (by decide) (by decide)
      (allTv_cons (v := .func (.yield 5) #[] #[]) (by decide) (by simp (disch := first | decide | omega) only [lk_hit, lk_miss]) (tv_yield (by simp (disch := first | decide | omega) only [lk_hit, lk_miss])) (allTv_cons (v := .pointer (some ⟨6, 0, none⟩)) (by decide) (by simp (disch := first | decide | omega) only [lk_hit, lk_miss]) (tv_ptr (by simp (disch := first | decide | omega) only [lk_hit, lk_miss])) allTv_nil))
      (allTo_cons (o := mainO) 0 (by simp (disch := first | decide | omega) only [lk_hit, lk_miss]) (by decide) (by decide) (by simp (disch := first | decide | omega) only [lk_hit, lk_miss]) (to_tvs (tvs_cons (tv_map (by simp (disch := first | decide | omega) only [lk_hit, lk_miss])) tvs_nil))
      (allTo_cons (o := mapO es) 1 (by simp (disch := first | decide | omega) only [lk_hit, lk_miss]) (by decide) (by decide) (by simp (disch := first | decide | omega) only [lk_hit, lk_miss]) (to_bareO names_fz (bareO_map bare_encS _ _))
      (allTo_cons (o := boxO) 2 (by simp (disch := first | decide | omega) only [lk_hit, lk_miss]) (by decide) (by decide) (by simp (disch := first | decide | omega) only [lk_hit, lk_miss]) (to_tvs (tvs_cons (tv_map (by simp (disch := first | decide | omega) only [lk_hit, lk_miss])) tvs_nil))
      (allTo_cons (o := .cells [.slice (some ⟨11, 0, none⟩) (m.length + 1) openCap] 48 (0, 0)) 3 (by simp (disch := first | decide | omega) only [lk_hit, lk_miss]) (by decide) (by decide) (by simp (disch := first | decide | omega) only [lk_hit, lk_miss]) (to_tvs (tvs_cons (tv_slice (by simp (disch := first | decide | omega) only [lk_hit, lk_miss])) tvs_nil))
      (allTo_cons (o := .defd false) 4 (by simp (disch := first | decide | omega) only [lk_hit, lk_miss]) (by decide) (by decide) (by simp (disch := first | decide | omega) only [lk_hit, lk_miss]) to_defd
      (allTo_cons (o := LP) 5 (by simp (disch := first | decide | omega) only [lk_hit, lk_miss]) (by decide) (by decide) (by simp (disch := first | decide | omega) only [lk_hit, lk_miss]) (hto _ (by simp (disch := first | decide | omega) only [lk_hit, lk_miss]) (by simp (disch := first | decide | omega) only [lk_hit, lk_miss]) (by simp (disch := first | decide | omega) only [lk_hit, lk_miss]))
      (allTo_cons (o := .iter 1 es.length js1 es.length) 6 (by simp (disch := first | decide | omega) only [lk_hit, lk_miss]) (by decide) (by decide) (by simp (disch := first | decide | omega) only [lk_hit, lk_miss]) (to_iter (by simp (disch := first | decide | omega) only [lk_hit, lk_miss]))
      (allTo_cons (o := rowO (m ++ [x.1])) 11 (by simp (disch := first | decide | omega) only [lk_hit, lk_miss]) (by decide) (by decide) (by simp (disch := first | decide | omega) only [lk_hit, lk_miss]) (to_bareO names_fz (bareO_bares (bares_rowHs _))) allTo_nil)))))))) .nil
end Go.Proofs.YthlkgmdkabelpaaGreat.X
namespace Go.Proofs.YthlkgmdkabelpaaGreat.X
open Go Go.RowKit
theorem keysLocal (es : ObL) : Local Tryz.prog 50 [.map (some 1)] (wd [(0, some mainO), (1, some (mapO es))] 2 [] 0)
    fun e W' => e = .ret sqV ∧ W'.get 0 = some mainO ∧ W'.get 1 = some (mapO es) ∧ W'.get 2 = some boxO ∧ W'.next ≤ 3 := by
  refine lit_local base0 Tryz.func50 rfl (Nat.le_of_ble_eq_true rfl) ?_
  simp only [frOfL.eq_1, frOfL.eq_2, wd_next, Tryz.ntmps50, Nat.reduceAdd]
  refine xwp_seq (xwp_region (e := ?e1) (s' := ?s1) base0 ?h1 ?q1)
  case h1 =>
    simp (disch := first | decide | omega | (simp only [List.length_cons, List.length_nil, List.length_append, length_bvs, List.length_take, List.length_drop]; omega)) only [go_sem, Nat.reduceAdd, Nat.reduceMul, Nat.reduceSub]
    all_goals with_reducible rfl
  case q1 =>
  refine xwp_seq (xwp_region (e := ?e2) (s' := ?s2) base0 ?h2 ?q2)
  case h2 =>
    simp (disch := first | decide | omega | (simp only [List.length_cons, List.length_nil, List.length_append, length_bvs, List.length_take, List.length_drop]; omega)) only [go_sem, Nat.reduceAdd, Nat.reduceMul, Nat.reduceSub]
    all_goals with_reducible rfl
  case q2 =>
  refine xwp_ret ?_
  refine ⟨_, ?e3, ?W3, rfl, ?h3, ?q3⟩
  case h3 =>
    simp (disch := first | decide | omega | (simp only [List.length_cons, List.length_nil, List.length_append, length_bvs, List.length_take, List.length_drop]; omega)) only [Tryz.results50, go_sem, Nat.reduceAdd, Nat.reduceMul, Nat.reduceSub]
    all_goals with_reducible rfl
  case q3 =>
  refine ⟨rfl, ?_, ?_, ?_, ?_⟩
  · simp (disch := first | decide | omega | (simp only [List.length_cons, List.length_nil, List.length_append, length_bvs, List.length_take, List.length_drop]; omega)) only [go_sem, Nat.reduceAdd, Nat.reduceMul, Nat.reduceSub]
  · simp (disch := first | decide | omega | (simp only [List.length_cons, List.length_nil, List.length_append, length_bvs, List.length_take, List.length_drop]; omega)) only [go_sem, Nat.reduceAdd, Nat.reduceMul, Nat.reduceSub]
  · simp (disch := first | decide | omega | (simp only [List.length_cons, List.length_nil, List.length_append, length_bvs, List.length_take, List.length_drop]; omega)) only [boxO, go_sem, Nat.reduceAdd, Nat.reduceMul, Nat.reduceSub]
  · exact Nat.le_refl _
def AppS (es : ObL) (e : XEnd) (W' : XW) : Prop := ∃ m : List HB, m.Perm (keysS es) ∧ m.length = es.length ∧ e = .ret (.slice (some ⟨7, 0, none⟩) m.length openCap) ∧ W'.get 0 = some mainO ∧ W'.get 1 = some (mapO es) ∧ W'.get 7 = some (rowO m) ∧ W'.next ≤ 20
theorem collectLocal (es : ObL) (hn : es.length ≤ 1000000) (hne : es ≠ []) : Local Tryz.prog 88 [sqV] (wd [(0, some mainO), (1, some (mapO es)), (2, some boxO)] 3 [] 0) (AppS es) := by
  refine lit_local base0 Tryz.func88 rfl (Nat.le_of_ble_eq_true rfl) ?_
  simp only [frOfL.eq_1, frOfL.eq_2, wd_next, Tryz.ntmps88, Nat.reduceAdd]
  refine xwp_seq (xwp_region (e := ?e4) (s' := ?s4) base0 ?h4 ?q4)
  case h4 =>
    simp (disch := first | decide | omega | (simp only [List.length_cons, List.length_nil, List.length_append, length_bvs, List.length_take, List.length_drop]; omega)) only [go_sem, Nat.reduceAdd, Nat.reduceMul, Nat.reduceSub]
    all_goals with_reducible rfl
  case q4 =>
  refine xwp_seq (xops_region ?_)
  refine xops_step base0 1 (s1 := ?s1) ?h1 (xops_call (f := 112) (args := [.slice none 0 0, sqV]) (S := AppS es) (enters_of (by kernel_rfl)) rfl ?hx ?hl ?q)
  case h1 =>
    simp (disch := first | decide | omega | (simp only [List.length_cons, List.length_nil, List.length_append, length_bvs, List.length_take, List.length_drop]; omega)) only [go_sem, Nat.reduceAdd, Nat.reduceMul, Nat.reduceSub]
    all_goals with_reducible rfl
  case hx =>
    simp (disch := first | decide | omega | (simp only [List.length_cons, List.length_nil, List.length_append, length_bvs, List.length_take, List.length_drop]; omega)) only [sqV, go_sem, Nat.reduceAdd, Nat.reduceMul, Nat.reduceSub]
  case hl => exact appLocal es hn hne
  case q =>
  intro e W' ⟨m, h1, h2, h3, h4, h5, h6, h7⟩
  refine ⟨_, _, h3, putX_frm (by decide), ?_⟩
  refine xops_le (chle_get (L := [(0, some mainO), (1, some (mapO es)), (7, some (rowO m))]) (n' := 20) (lg := []) (nl := 0) h7 fun n o e => ?_) ?_
  · have hcases := lk_mem e
    simp only [List.mem_cons, List.not_mem_nil, or_false, Prod.mk.injEq, Option.some.injEq] at hcases
    rcases hcases with ⟨rfl, rfl⟩ | ⟨rfl, rfl⟩ | ⟨rfl, rfl⟩ <;> assumption
  refine xops_step base0 1 (s1 := ?s2) ?h2 (xops_nil ?q2)
  case h2 =>
    simp (disch := first | decide | omega | (simp only [List.length_cons, List.length_nil, List.length_append, length_bvs, List.length_take, List.length_drop]; omega)) only [go_sem, Nat.reduceAdd, Nat.reduceMul, Nat.reduceSub]
    all_goals with_reducible rfl
  case q2 =>
  refine xwp_ret ?_
  refine ⟨_, ?e5, ?W5, rfl, ?h5, ?q5⟩
  case h5 =>
    simp (disch := first | decide | omega | (simp only [List.length_cons, List.length_nil, List.length_append, length_bvs, List.length_take, List.length_drop]; omega)) only [Tryz.results88, go_sem, Nat.reduceAdd, Nat.reduceMul, Nat.reduceSub]
    all_goals with_reducible rfl
  case q5 =>
  refine ⟨m, h1, h2, rfl, ?_, ?_, ?_, ?_⟩
  · simp (disch := first | decide | omega | (simp only [List.length_cons, List.length_nil, List.length_append, length_bvs, List.length_take, List.length_drop]; omega)) only [go_sem, Nat.reduceAdd, Nat.reduceMul, Nat.reduceSub]
  · simp (disch := first | decide | omega | (simp only [List.length_cons, List.length_nil, List.length_append, length_bvs, List.length_take, List.length_drop]; omega)) only [go_sem, Nat.reduceAdd, Nat.reduceMul, Nat.reduceSub]
  · simp (disch := first | decide | omega | (simp only [List.length_cons, List.length_nil, List.length_append, length_bvs, List.length_take, List.length_drop]; omega)) only [go_sem, Nat.reduceAdd, Nat.reduceMul, Nat.reduceSub]
  · exact Nat.le_refl _
end Go.Proofs.YthlkgmdkabelpaaGreat.X
