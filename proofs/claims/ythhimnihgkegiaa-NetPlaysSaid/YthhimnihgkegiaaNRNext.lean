/-
  The contract of the reference's Next. Conditions: bounds on lengths.
-/
import Derived.Test.YthhimnihgkegiaaNRef
namespace Go.Proofs.Ythhimnihgkegiaa
open Go Go.RowKit
set_option linter.unusedVariables false

theorem run_slice_from_any {P : Program} (t e : TypeId) (sz : Nat) (hu : P.underlying t = some (.slice e)) (hsz : (P.info? e).map (·.size) = some sz) (g n cap off : Nat) (k : IntKind) (h : off ≤ n) :
    ∃ ad : Addr, (off < cap → ad = ⟨g, off * sz, none⟩) ∧ ∀ w, (Instr.slice t (.slice (some ⟨g, 0, none⟩) n cap) (some (.int k (off : Int))) none none).run P w = .ok (.slice (some ad) (n - off) (cap - off)) w := by
  cases hq : P.info? e with
  | none => simp [hq] at hsz
  | some i =>
    have hi : i.size = sz := by simpa [hq] using hsz
    have hle : (off : Int) ≤ n := by omega
    by_cases hc : cap = off
    · refine ⟨⟨g, 0, none⟩, fun h => by omega, fun w => ?_⟩
      simp [Instr.slice, run_underlying hu, Instr.sliceBounds, Instr.sliceBound, asIntOf, sizeOf, typeInfo, hq, hi, hc]
      intro hh; omega
    · refine ⟨(⟨g, 0, none⟩ : Addr).add (off * sz), fun _ => by rw [addr_add, Nat.zero_add], fun w => ?_⟩
      simp [Instr.slice, run_underlying hu, Instr.sliceBounds, Instr.sliceBound, asIntOf, sizeOf, typeInfo, hq, hi, hc]
      intro hh; omega
theorem sizeCp : (Try.prog.info? 69).map (·.size) = some 5 := by kernel_rfl

theorem owns_cp {w : World} {g n cap : Nat} {H : List Pc} (h : w.ownsRow 0 69 5 (.slice (some ⟨g, 0, none⟩) n cap) H.length (pcs H)) (i : Nat) (hi : i < H.length) : PcAt w g i H[i] := by
  have hc := h.cells (g := g) rfl
  obtain ⟨x0, x1, x2, x3, x4⟩ := pcs_get H i hi
  have e : ∀ j, (⟨g, 0, none⟩ : Addr).add j = ⟨g, j, none⟩ := fun j => by rw [addr_add, Nat.zero_add]
  exact ⟨by have := hc _ _ x0; rwa [e] at this, by have := hc _ _ x1; rwa [e] at this, by have := hc _ _ x2; rwa [e] at this, by have := hc _ _ x3; rwa [e] at this, by have := hc _ _ x4; rwa [e] at this⟩

theorem pcs_drop (R : List Pc) (i : Nat) : pcs (R.drop i) = (pcs R).drop (i * 5) := by
  induction R generalizing i with
  | nil => simp [pcs]
  | cons p R ih =>
    cases i with
    | zero => simp
    | succ i =>
      rw [List.drop_succ_cons]
      show pcs (R.drop i) = (pcv p ++ pcs R).drop _
      rw [ih, List.drop_append]
      have e : (i + 1) * 5 - (pcv p).length = i * 5 := by show (i + 1) * 5 - 5 = _; omega
      have e2 : (pcv p).drop ((i + 1) * 5) = [] := List.drop_of_length_le (by show 5 ≤ _; omega)
      rw [e, e2]
      rfl

theorem RefAt.pop {w w5 : World} {b : Nat} {F : Nat → Prop} {s : NS} {sv lv : Value} {R : List Pc} (h : RefAt w b F s sv lv R) (x : Pc) (l : List Pc) (hw : s.w = x :: l) (i : Nat) (hi : i < R.length) (hx : R[i] = x) (k5 : Keeps noBlock w w5) (o : Option Addr) (cap n : Nat)
    (hn : n = i + (R.length - (i + 1))) (base : Nat) (hbase : w.heap.size ≤ base) (hown : w5.ownsRow base 69 5 (.slice o n cap) n (pcs (R.take i) ++ pcs (R.drop (i + 1)))) :
    RefAt (w5.setCell ⟨b, 2, none⟩ (.slice o n cap)) b (grow F w (w5.setCell ⟨b, 2, none⟩ (.slice o n cap))) s.next sv (.slice o n cap) (R.take i ++ R.drop (i + 1)) ∧ Keeps F w (w5.setCell ⟨b, 2, none⟩ (.slice o n cap)) := by
  have hb5 := k5.heap h.head (fun e => e)
  have k6 : Keeps (fun k => k = b) w5 (w5.setCell ⟨b, 2, none⟩ (.slice o n cap)) := (Keeps.refl (fun k => k = b) w5).setCell (p := ⟨b, 2, none⟩) (fun _ => rfl) _
  have s5 := k5.size
  have s6 := k6.size
  have hl : (R.take i ++ R.drop (i + 1)).length = n := by simp; omega
  refine ⟨?_, (k5.any' F).setCell (p := ⟨b, 2, none⟩) (fun _ => h.fb) _⟩
  exact {
    head := heap_set hb5
    fb := .inl h.fb
    scr := k6.owns (k5.owns h.scr fun k _ e2 => e2) fun k e e2 => owns_ne_block h.scr h.head (by decide) (e2 ▸ e)
    fscr := fun k e => .inl (h.fscr k e)
    own := by
      have := k6.owns (owns_zero hown) fun k e e2 => owns_ne_block hown hb5 (by decide) (e2 ▸ e)
      rw [hl, pcs_append]
      exact this
    fown := fun k e => .inr ⟨Nat.le_trans hbase (hown.lt k e).1, by have := (hown.lt k e).2; omega⟩
    perm := by
      have h1 := h.perm
      rw [hw] at h1
      show List.Perm _ s.w.tail
      rw [hw]
      have h2 : R.Perm (x :: (R.take i ++ R.drop (i + 1))) := by
        have e : R = R.take i ++ x :: R.drop (i + 1) := by rw [← hx, ← List.drop_eq_getElem_cons hi, List.take_append_drop]
        exact (List.Perm.of_eq e).trans List.perm_middle
      exact (h2.symm.trans h1).cons_inv
    ok := h.ok.next
    lt := grow_lt h.lt (by omega) }

def RNextPost (b : Nat) (F : Nat → Prop) (s : NS) (w : World) (e : Ending) (w' : World) : Prop :=
  e = .returned (nextVal s.w) ∧ RefP w' b (grow F w w') s.next ∧ Keeps F w w'

theorem rnext_none (w : World) (b : Nat) (F : Nat → Prop) (s : NS) (h : RefP w b F s) (h0 : s.w = []) :
    Calls Try.prog 17 #[.pointer (some ⟨b, 0, none⟩)] w (RNextPost b F s w) := by
  have HP := Lib.hid h
  have hv : nextVal s.w = .tuple #[.agg #[.int .i64 0, .int .i64 0, .string ByteArray.empty], .int .i64 0, .bool false] := by rw [h0]; rfl
  have hnx : s.next = s := by cases s; simp only at h0; subst h0; rfl
  obtain ⟨sv, lv, R, hat⟩ := h
  have hR : R = [] := by have := hat.perm.length_eq; rw [h0] at this; exact List.eq_nil_of_length_eq_zero this
  subst hR
  obtain ⟨o1, cap1, hvf, _⟩ := owns_form hat.own
  subst hvf
  have hbl := lt_of_heap hat.head
  obtain ⟨_, _, c2, _⟩ := hat.cells
  have HV := Lib.hid hv
  have HNX := Lib.hid hnx
  clear hat hv hnx h0
  go_enter Try.func17, Try.ntmps17
  go_wp2_with fail
  refine bodyPost_ret (v := .tuple #[.agg #[.int .i64 0, .int .i64 0, .string ByteArray.empty], .int .i64 0, .bool false]) (by simp [results, Try.results17, go_sem]; rfl) rfl ⟨by rw [HV.out], ?_, (Keeps.refl _ _).alloc _⟩
  rw [HNX.out]
  have h1 := HP.out.keep ((Keeps.refl noBlock w).alloc (.cells #[.int .i64 0, .int .i64 0, .string ByteArray.empty] 31)) (fun _ _ e => e)
  exact h1.widen (fun k e => .inl e) (grow_lt HP.out.lt (by simp))

/-- the loop of Next: the best so far -/
def RNextRel (w1 : World) (R : List Pc) (i k : Value) (wr : World) : Prop :=
  ∃ (bi j : Nat), i = .int .i64 (bi : Int) ∧ k = .int .i64 (j : Int) ∧ bi < j ∧ j ≤ R.length ∧ (∀ y q, y < j → ∀ p, R[y]? = some p → R[bi]? = some q → ltB p q = false) ∧ Keeps noBlock w1 wr

set_option maxRecDepth 100000 in
set_option maxHeartbeats 2000000 in
theorem rnext_some (w : World) (b : Nat) (F : Nat → Prop) (s : NS) (h : RefP w b F s) (x : Pc) (l : List Pc) (hx : s.w = x :: l) (hlen : s.w.length ≤ 900000) :
    Calls Try.prog 17 #[.pointer (some ⟨b, 0, none⟩)] w (RNextPost b F s w) := by
  have HP := Lib.hid h
  have hv : nextVal s.w = .tuple #[.agg #[.int .i64 x.fr, .int .i64 x.to_, .string (str x.tx)], .int .i64 x.at_, .bool true] := by rw [hx]; rfl
  obtain ⟨sv, lv, R, hat⟩ := h
  have hll : R.length = l.length + 1 := by have := hat.perm.length_eq; rw [hx] at this; simpa using this
  have hRl : R.length ≤ 1000000 := by rw [hat.perm.length_eq]; omega
  obtain ⟨g, cap, hgv, _, _⟩ := hat.own.form (by omega)
  subst hgv
  have hcapl : R.length ≤ cap := by
    obtain ⟨o2, cap2, e, h1, _⟩ := owns_form hat.own
    simp only [Value.slice.injEq] at e; omega
  have hbl := lt_of_heap hat.head
  obtain ⟨_, _, c2, _⟩ := hat.cells
  have f2 := hat.free 2
  obtain ⟨N, hN⟩ : ∃ N, N = R.length := ⟨_, rfl⟩
  rw [← hN] at c2 hll hRl hcapl
  have hne : ((N : Int) == 0) = false := by simp; omega
  have hN1 : 1 ≤ N := by omega
  have HAT := Lib.hid hat
  have HV := Lib.hid hv
  have HX := Lib.hid hx
  have HN := Lib.hid hN
  clear hat hv hx hN hll
  go_enter Try.func17, Try.ntmps17
  go_wp2_with fail
  obtain ⟨w1, hw1⟩ : ∃ w1 : World, w1 = w.alloc (.cells #[.int .i64 0, .int .i64 0, .string ⟨#[]⟩] 31) := ⟨_, rfl⟩
  have k1 : Keeps noBlock w w1 := by rw [hw1]; exact (Keeps.refl _ _).alloc _
  have hb1 : w1.heap[w.heap.size]? = some (.cells #[.int .i64 0, .int .i64 0, .string ⟨#[]⟩] 31 (0, 0)) := by rw [hw1]; exact heap_alloc_at
  have z1 : w1.heap.size = w.heap.size + 1 := by rw [hw1]; simp
  have HAT1 := Lib.hid (HAT.out.keep k1 (fun _ _ e => e))
  have K1 := Lib.hid k1
  have HB1 := Lib.hid hb1
  have Z1 := Lib.hid z1
  have C2 := Lib.hid (k1.cell c2 (fun e => e))
  have F2 := Lib.hid (k1.frozen hbl (fun e => e) f2)
  rw [← hw1]
  clear hw1 k1 hb1 z1 c2 f2
  go_loopw [5, 6] (RNextRel w1 R) (fun _ k _ => N - (intOf k).toNat)
  case atStart =>
    refine ⟨0, 1, rfl, rfl, by omega, by rw [← HN.out]; exact hN1, fun y q hy p hp hq => ?_, Keeps.refl _ _⟩
    obtain rfl : y = 0 := by omega
    rw [hp] at hq
    obtain rfl := Option.some.inj hq
    rw [ltB_not]; omega
  case round =>
    obtain ⟨bi, j, rfl, rfl, hbj, hjN, hmin, hkr⟩ := hrel
    rw [← HN.out] at hjN
    have HKR := Lib.hid hkr
    have HMIN := Lib.hid hmin
    have c2 := hkr.cell C2.out (fun e => e)
    have f2 := hkr.frozen (by have := Z1.out; show b < w1.heap.size; omega) (fun e => e) F2.out
    have hat2 := HAT1.out.keep hkr (fun _ _ e => e)
    have HAT2 := Lib.hid hat2
    have hb0 : (0 : Int) ≤ (bi : Int) := by omega
    have hb1 : (bi : Int) < (N : Int) := by omega
    obtain ⟨p0, p1, p2, p3, p4⟩ := owns_cp hat2.own bi (by rw [← HN.out]; omega)
    clear hmin hkr hat2
    by_cases hlt : j < N
    · have hlt' : (j : Int) < (N : Int) := by omega
      have hj0 : (0 : Int) ≤ (j : Int) := by omega
      obtain ⟨q0, q1, q2, q3, q4⟩ := owns_cp HAT2.out.own j (by rw [← HN.out]; omega)
      obtain ⟨p, hp⟩ : ∃ p, p = R[bi]'(by rw [← HN.out]; omega) := ⟨_, rfl⟩
      obtain ⟨q, hq⟩ : ∃ q, q = R[j]'(by rw [← HN.out]; omega) := ⟨_, rfl⟩
      rw [← hp] at p3 p4; rw [← hq] at q3 q4
      have hlow : ltB q p = true → RNextRel w1 R (.int .i64 (j : Int)) (.int .i64 ((j : Int) + 1)) = RNextRel w1 R (.int .i64 (j : Int)) (.int .i64 ((j + 1 : Nat) : Int)) := fun _ => by simp
      have hyes : ltB q p = true → ∀ y z, y < j + 1 → ∀ p', R[y]? = some p' → R[j]? = some z → ltB p' z = false := fun hl y z hy p' hp' hz => by
        rw [List.getElem?_eq_getElem (by rw [← HN.out]; omega), Option.some.injEq, ← hq] at hz
        subst hz
        by_cases hyj : y < j
        · have h1 := HMIN.out y p hyj p' hp' (by rw [List.getElem?_eq_getElem (by rw [← HN.out]; omega), hp])
          rw [ltB_not] at h1 ⊢; rw [ltB_iff] at hl; omega
        · obtain rfl : y = j := by omega
          rw [List.getElem?_eq_getElem (by rw [← HN.out]; omega), Option.some.injEq, ← hq] at hp'
          subst hp'
          rw [ltB_not]; omega
      have hno : ltB q p = false → ∀ y z, y < j + 1 → ∀ p', R[y]? = some p' → R[bi]? = some z → ltB p' z = false := fun hl y z hy p' hp' hz => by
        by_cases hyj : y < j
        · exact HMIN.out y z hyj p' hp' hz
        · obtain rfl : y = j := by omega
          rw [List.getElem?_eq_getElem (by rw [← HN.out]; omega), Option.some.injEq, ← hq] at hp'
          rw [List.getElem?_eq_getElem (by rw [← HN.out]; omega), Option.some.injEq, ← hp] at hz
          subst hp'; subst hz
          exact hl
      have HYES := Lib.hid hyes
      have HNO := Lib.hid hno
      obtain ⟨pa, hpa⟩ : ∃ a, a = p.at_ := ⟨_, rfl⟩
      obtain ⟨qa, hqa⟩ : ∃ a, a = q.at_ := ⟨_, rfl⟩
      obtain ⟨ps, hps⟩ : ∃ a, a = p.sn := ⟨_, rfl⟩
      obtain ⟨qs, hqs⟩ : ∃ a, a = q.sn := ⟨_, rfl⟩
      rw [← hpa] at p3; rw [← hqa] at q3; rw [← hps] at p4; rw [← hqs] at q4
      have HE := Lib.hid (And.intro hpa (And.intro hqa (And.intro hps hqs)))
      clear hlow hyes hno hp hq hlt p0 p1 p2 q0 q1 q2 hpa hqa hps hqs
      go_wp2_with fail
      by_cases h1 : qa < pa
      · have hd1 : decide (qa < pa) = true := by simpa using h1
        go_quiet (fail)
        go_wp2_with fail
        go_roundw
        case rel => exact ⟨j, j + 1, rfl, by simp, by omega, by rw [← HN.out]; omega, HYES.out ((ltB_iff _ _).2 (.inl (by rw [← HE.out.1, ← HE.out.2.1]; exact h1))), HKR.out.drewN _⟩
        case measure => simp [intOf]; omega
      · have hd1 : decide (qa < pa) = false := by simpa using h1
        by_cases h2 : qa = pa
        · subst h2
          have hd2 : ((qa : Int) == qa) = true := by simp
          by_cases h3 : qs < ps
          · have hd3 : decide ((qs : Int) < (ps : Int)) = true := by simpa using h3
            go_quiet (fail)
            go_wp2_with fail
            go_roundw
            case rel => exact ⟨j, j + 1, rfl, by simp, by omega, by rw [← HN.out]; omega, HYES.out ((ltB_iff _ _).2 (.inr ⟨by rw [← HE.out.1, ← HE.out.2.1], by rw [← HE.out.2.2.1, ← HE.out.2.2.2]; exact h3⟩)), HKR.out.drewN _⟩
            case measure => simp [intOf]; omega
          · have hd3 : decide ((qs : Int) < (ps : Int)) = false := by simpa using h3
            go_quiet (fail)
            go_wp2_with fail
            go_roundw
            case rel => exact ⟨bi, j + 1, rfl, by simp, by omega, by rw [← HN.out]; omega, HNO.out ((ltB_not _ _).2 (.inr ⟨by rw [← HE.out.1, ← HE.out.2.1], by rw [← HE.out.2.2.1, ← HE.out.2.2.2]; omega⟩)), HKR.out.drewN _⟩
            case measure => simp [intOf]; omega
        · have hd2 : (qa == pa) = false := by simpa using h2
          go_quiet (fail)
          go_wp2_with fail
          go_roundw
          case rel => exact ⟨bi, j + 1, rfl, by simp, by omega, by rw [← HN.out]; omega, HNO.out ((ltB_not _ _).2 (.inl (by rw [← HE.out.1, ← HE.out.2.1]; omega))), HKR.out.drewN _⟩
          case measure => simp [intOf]; omega
    · have hjj : j = N := by omega
      have hlt' : ¬ (j : Int) < (N : Int) := by omega
      have hbN : bi < R.length := by rw [← HN.out]; omega
      have hbw : b < wr.heap.size := lt_of_heap HAT2.out.head
      have C2R := Lib.hid c2
      have hxi : R[bi] = x := by
        have hp := HAT.out.perm
        rw [HX.out] at hp
        refine Srt.head (by have := HAT.out.ok.srt; rw [HX.out] at this; exact this) hp _ (List.getElem_mem hbN) fun z hz => ?_
        obtain ⟨i, hi, rfl⟩ := List.getElem_of_mem hz
        exact HMIN.out i _ (by rw [hjj, HN.out]; exact hi) _ (List.getElem?_eq_getElem hi) (List.getElem?_eq_getElem hbN)
      rw [hxi] at p0 p1 p2 p3 p4
      have HXI := Lib.hid hxi
      obtain ⟨i0, hi, hz0, hz1, hz2⟩ := info_parts infoCp
      obtain ⟨m2, hm2⟩ : ∃ m2, m2 = N - (bi + 1) := ⟨_, rfl⟩
      obtain ⟨c9, hc9⟩ : ∃ c9, c9 = cap - (bi + 1) := ⟨_, rfl⟩
      have hsl1 := fun W => run_slice_to_any (P := Try.prog) 58 69 5 Try.underlying58 sizeCp (some ⟨g, 0, none⟩) N cap bi .i64 (by omega) W
      obtain ⟨ad, had, hsl2⟩ := run_slice_from_any (P := Try.prog) 58 69 5 Try.underlying58 sizeCp g N cap (bi + 1) .i64 (by omega)
      rw [← hm2, ← hc9, show ((bi + 1 : Nat) : Int) = (bi : Int) + 1 by simp] at hsl2
      have hwr : IntKind.i64.wrap ((bi : Int) + 1) = (bi : Int) + 1 := IntWalk.i64_in _ (by omega)
      have HC1 := Lib.hid (show ∀ W, Keeps noBlock wr W → ∀ y u, (pcs (R.take bi))[y]? = some u → W.cell? ((⟨g, 0, none⟩ : Addr).add y) = some u from fun W k y u hu => by
        have hc := (HAT2.out.keep k (fun _ _ e => e)).own.cells (g := g) rfl
        rw [← pcs_take] at hu
        refine hc y u ?_
        rw [List.getElem?_take] at hu
        split at hu
        · exact hu
        · cases hu)
      have HC2 := Lib.hid (show ∀ W, Keeps noBlock wr W → ∀ y u, (pcs (R.drop (bi + 1)))[y]? = some u → W.cell? (ad.add y) = some u from fun W k y u hu => by
        have hc := (HAT2.out.keep k (fun _ _ e => e)).own.cells (g := g) rfl
        rw [pcs_drop, List.getElem?_drop] at hu
        have hl := (List.getElem?_eq_some_iff.1 hu).1
        rw [length_pcs, ← HN.out] at hl
        have := hc _ u hu
        rw [addr_add] at this
        rw [had (by omega), addr_add]
        simpa using this)
      have HL1 := Lib.hid (show (pcs (R.take bi)).length = bi * 5 from by rw [length_pcs, List.length_take]; omega)
      have HL2 := Lib.hid (show (pcs (R.drop (bi + 1))).length = m2 * 5 from by rw [length_pcs, List.length_drop]; rw [hm2, HN.out])
      have HM2 := Lib.hid hm2
      have hmb : bi + m2 ≤ 1000000 := by omega
      have HJJ := Lib.hid hjj
      clear hxi hm2 hc9 had hjj hlt hjN hbj HP HMIN
      go_wp2_with (first
        | (at_builtin; refine wpList_append_own _ rfl _ _ 58 rfl (wr.heap.size + 1) 69 i0 _ 5 48 Try.underlying58 hi hz0 hz1 hz2 rfl (by decide) (.slice none 0 0) 0 [] rfl (World.ownsRow_nil _ _ _ _) ⟨g, 0, none⟩ bi cap (pcs (R.take bi)) rfl HL1.out (HC1.out _ ((Keeps.refl _ _).alloc _)) (oneCell_pcs _) (by simp only [maxLen]; omega) (by omega) (by simp) ?_; intro v1 w4 hown1 hgrow1 _; obtain ⟨o3, cap3, hv3, _⟩ := owns_form hown1; subst hv3; have kA4 := (Keeps.refl noBlock _).grown hgrow1 (fun k e _ => by cases e); have k4 := ((Keeps.refl noBlock wr).alloc _).trans kA4; have c2 := k4.cell c2 (fun e => e); have HO1 := Lib.hid (show w4.ownsRow (wr.heap.size + 1) 69 5 (.slice o3 bi cap3) bi (pcs (R.take bi)) from by simpa using hown1); have HKA4 := Lib.hid kA4; have HK4 := Lib.hid k4; clear hown1 hgrow1 kA4 k4)
        | (at_builtin; refine wpList_append_own _ rfl _ _ 58 rfl (wr.heap.size + 1) 69 i0 _ 5 48 Try.underlying58 hi hz0 hz1 hz2 rfl (by decide) (.slice o3 bi cap3) bi (pcs (R.take bi)) rfl HO1.out ad m2 c9 (pcs (R.drop (bi + 1))) rfl HL2.out (HC2.out _ HK4.out) (oneCell_pcs _) (by simp only [maxLen]; omega) (by omega) (by have := HKA4.out.size; simpa using this) ?_; intro v2 w5 hown2 hgrow2 _; obtain ⟨o4, cap4, hv4, _⟩ := owns_form hown2; subst hv4; have hnew : ∀ k, (Value.slice o3 bi cap3).ownBlock = some k → wr.heap.size + 1 ≤ k := fun k e => (HO1.out.lt k e).1; have kA5 := HK4.out.grown hgrow2 (fun k e hk => by have := hnew k e; omega); have c2 := kA5.cell C2R.out (fun e => e); have f2 := kA5.frozen hbw (fun e => e) f2; have HO2 := Lib.hid hown2; have HKA5 := Lib.hid (HKA4.out.grown hgrow2 (fun k e hk => by have := hnew k e; have hk2 : k < wr.heap.size + 1 := (by simpa using hk); omega)); have HK5 := Lib.hid kA5; clear hown2 hgrow2 kA5 hnew))
      have hB := HKA5.out.heap heap_alloc_at (fun e => e)
      have hQ := HK5.out.heap (HKR.out.heap HB1.out (fun e => e)) (fun e => e)
      obtain ⟨hat6, k6⟩ := HAT2.out.pop x l HX.out bi hbN HXI.out HK5.out o4 cap4 (bi + m2) (by rw [HM2.out, HN.out]) (wr.heap.size + 1) (by omega) HO2.out
      obtain ⟨w6, hw6⟩ : ∃ w6, w6 = w5.setCell ⟨b, 2, none⟩ (.slice o4 (bi + m2) cap4) := ⟨_, rfl⟩
      rw [← hw6] at hat6 k6
      have hzr : w.heap.size < wr.heap.size := by have := HKR.out.size; have := Z1.out; omega
      have hB6 : w6.heap[wr.heap.size]? = some (.cells #[.int .i64 x.fr, .int .i64 x.to_, .string (str x.tx), .int .i64 x.at_, .int .i64 (x.sn : Int)] 69 (0, 0)) := by rw [hw6, Below.heap_setCell _ _ _ _ (by show wr.heap.size ≠ b; omega)]; exact hB
      have hQ6 : w6.heap[w.heap.size]? = some (.cells #[.int .i64 0, .int .i64 0, .string ⟨#[]⟩] 31 (0, 0)) := by rw [hw6, Below.heap_setCell _ _ _ _ (by show w.heap.size ≠ b; omega)]; exact hQ
      have q0 : w6.cell? ⟨w.heap.size, 0, none⟩ = some (.int .i64 0) := by rw [cell_of_heap hQ6]; rfl
      have q1 : w6.cell? ⟨w.heap.size, 1, none⟩ = some (.int .i64 0) := by rw [cell_of_heap hQ6]; rfl
      have q2 : w6.cell? ⟨w.heap.size, 2, none⟩ = some (.string ⟨#[]⟩) := by rw [cell_of_heap hQ6]; rfl
      have r0 : w6.cell? ⟨wr.heap.size, 0, none⟩ = some (.int .i64 x.fr) := by rw [cell_of_heap hB6]; rfl
      have r1 : w6.cell? ⟨wr.heap.size, 1, none⟩ = some (.int .i64 x.to_) := by rw [cell_of_heap hB6]; rfl
      have r2 : w6.cell? ⟨wr.heap.size, 2, none⟩ = some (.string (str x.tx)) := by rw [cell_of_heap hB6]; rfl
      have r3 : w6.cell? ⟨wr.heap.size, 3, none⟩ = some (.int .i64 x.at_) := by rw [cell_of_heap hB6]; rfl
      have qf := frozen_of_heap hQ6
      have hl6 := lt_of_heap hB6
      have hl7 := lt_of_heap hQ6
      have HAT6 := Lib.hid hat6
      have K6 := Lib.hid k6
      rw [← hw6]
      clear hw6 hB hQ hB6 hQ6 hat6 k6 c2 f2 p0 p1 p2 p3 p4 hsl1 hsl2
      go_region
      all_goals
        go_wp2_with fail
        refine bodyPost_ret (v := .tuple #[.agg #[.int .i64 x.fr, .int .i64 x.to_, .string (str x.tx)], .int .i64 x.at_, .bool true]) (by simp [results, Try.results17, go_sem, q0, q1, q2]) rfl ⟨by rw [HV.out], ?_, ?_⟩
        · have k9 : Keeps (fun k => k = w.heap.size) w6 _ := ((((Keeps.refl (fun k => k = w.heap.size) w6).setCell (p := ⟨w.heap.size, 0, none⟩) (fun _ => rfl) (.int .i64 x.fr)).setCell (p := ⟨w.heap.size, 1, none⟩) (fun _ => rfl) (.int .i64 x.to_)).setCell (p := ⟨w.heap.size, 2, none⟩) (fun _ => rfl) (.string (str x.tx))).drew
          have hd := HAT6.out.keep k9 (fun k e e2 => by
            have e3 : k = w.heap.size := e2
            rcases e with e | e
            · have := HAT.out.lt k e; omega
            · have := e.1; omega)
          have s1 := K1.out.size
          have s2 := HKR.out.size
          have s3 := K6.out.size
          refine RefP.widen ⟨_, _, _, hd⟩ (fun k e => ?_) (grow_lt HAT.out.lt (Nat.le_trans (Nat.le_trans (Nat.le_trans s1 s2) s3) k9.size))
          rcases e with e | e
          · exact .inl e
          · exact .inr ⟨by have := e.1; omega, Nat.lt_of_lt_of_le e.2 k9.size⟩
        · have kk := ((K1.out.trans HKR.out).any' F).trans K6.out
          exact (((kk.setCell (p := ⟨w.heap.size, 0, none⟩) (fun h => absurd h (Nat.lt_irrefl _)) _).setCell (p := ⟨w.heap.size, 1, none⟩) (fun h => absurd h (Nat.lt_irrefl _)) _).setCell (p := ⟨w.heap.size, 2, none⟩) (fun h => absurd h (Nat.lt_irrefl _)) _).drew

/-- the reference's Next, whatever waits -/
theorem rnext_any (w : World) (b : Nat) (F : Nat → Prop) (s : NS) (h : RefP w b F s) (hlen : s.w.length ≤ 900000) :
    Calls Try.prog 17 #[.pointer (some ⟨b, 0, none⟩)] w (RNextPost b F s w) := by
  cases hx : s.w with
  | nil => exact rnext_none w b F s h hx
  | cons x l => exact rnext_some w b F s h x l hx hlen
#print axioms rnext_any
end Go.Proofs.Ythhimnihgkegiaa
