/-
  The law's comparison of the two stores, where they hold the same.
  The two stores hold the same, whatever is put.
  New of either store.
  The law StorePuts walked.
  No condition.
-/
import Derived.Test.YthlkgmdkabelpaaGreatJH
set_option linter.all false
set_option linter.unusedVariables false
set_option linter.unusedSimpArgs false
namespace Go.Proofs.YthlkgmdkabelpaaGreat.X
open Go Go.RowKit
theorem rd_go {P : Program} {α : Type} {E : PairE P α} {p : PP α} {xs : List Value} {W : XW} {w b : Nat} {a : α} {v : Value} (h : AtE E W w b a) (hp : p xs a = some (v, a, .rd)) : prH E p (.pointer (some ⟨w, 0, none⟩) :: xs) W = some (.ret v, W) := by
  rw [prH_go h (by rw [hp]; intro v a' e; cases e), hp]
  rfl
def boxK (k : HB) : XObj := .cells (bvs k.1) 24 (0, 0)
noncomputable def LS (es rs : ObL) (k : HB) : List (Nat × Option XObj) := [(0, some (stMain es 1)), (1, stSat es), (2, some (rfMain rs 3)), (3, rfE.sat rs), (4, some (boxK k))]
theorem allLS {n : Nat} {L : List (Nat × Option XObj)} {es rs : ObL} {k : HB} (hn : 5 ≤ n) (h0 : lk L 0 = some (stMain es 1)) (h1 : lk L 1 = stSat es) (h2 : lk L 2 = some (rfMain rs 3)) (h3 : lk L 3 = rfE.sat rs) (h4 : lk L 4 = some (boxK k)) : AllLk n L (LS es rs k) :=
  allLk_cons (by omega) h0 (allLk_cons (by omega) h1 (allLk_cons (by omega) h2 (allLk_cons (by omega) h3 (allLk_cons (by omega) h4 trivial))))
theorem at_st {L : List (Nat × Option XObj)} {n nl : Nat} {lg : List Nat} {es : ObL} (hn : 5 ≤ n) (h0 : lk L 0 = some (stMain es 1)) (h1 : lk L 1 = stSat es) : AtE stE (wd L n lg nl) 0 1 es :=
  ⟨by rw [wd_get (by omega) (by decide), h0]; rfl, fun o h => ⟨by rw [wd_get (by omega) (by decide), h1]; exact h, by decide⟩⟩
theorem at_rf {L : List (Nat × Option XObj)} {n nl : Nat} {lg : List Nat} {rs : ObL} (hn : 5 ≤ n) (h0 : lk L 2 = some (rfMain rs 3)) (h1 : lk L 3 = rfE.sat rs) : AtE rfE (wd L n lg nl) 2 3 rs :=
  ⟨by rw [wd_get (by omega) (by decide), h0]; rfl, fun o h => ⟨by rw [wd_get (by omega) (by decide), h1]; exact h, by decide⟩⟩
theorem allToLS {n : Nat} {R : List (Nat × Option Nat)} {L : List (Nat × Option XObj)} {es rs : ObL} {k : HB} {a b c d f : Nat} (hn : n < 16383) (ra : lk R a = some 0) (rb : lk R b = some 1) (rc : lk R c = some 2) (rd : lk R d = some 3) (rf : lk R f = some 4)
    (la : a < n) (lb : stSat es ≠ none → b < n) (lc : c < n) (ld : rfE.sat rs ≠ none → d < n) (lf : f < n)
    (h0 : lk L a = some (stMain es b)) (h1 : lk L b = stSat es) (h2 : lk L c = some (rfMain rs d)) (h3 : lk L d = rfE.sat rs) (h4 : lk L f = some (boxK k)) : AllTo Tryz.prog (Names (lk R)) R n L (LS es rs k) :=
  ⟨fun w e => by cases e; exact ⟨a, _, ra, la, by omega, h0, stE.ren es a 0 b 1 (lk R) ra (fun _ => rb)⟩,
   fun w e => ⟨b, w, rb, lb (by rw [e]; simp), by have := lb (by rw [e]; simp); omega, by rw [h1, e], stE.bare es w e _ names_fz⟩,
   fun w e => by cases e; exact ⟨c, _, rc, lc, by omega, h2, rfE.ren rs c 2 d 3 (lk R) rc (fun _ => rd)⟩,
   fun w e => ⟨d, w, rd, ld (by rw [e]; simp), by have := ld (by rw [e]; simp); omega, by rw [h3, e], rfE.bare rs w e _ names_fz⟩,
   fun w e => by cases e; exact ⟨f, _, rf, lf, by omega, h4, bareO_bares (bares_bvs _) _ names_fz⟩, trivial⟩
noncomputable def T4 : List (FuncId × HF) := [(26, prH stE pAllS), (30, prH rfE pAll), (24, pureH pHs), (12, prH stE pGet), (13, prH rfE pRGet)]
theorem base4 : Base Tryz.prog (hooksOf T4 []) := ⟨mixed, hooksOf_sim (.cons _ _ _ (okAll sortAny) (.cons _ _ _ okRAll (.cons _ _ _ okHs (.cons _ _ _ okGet (.cons _ _ _ okRGet .nil))))) .nil⟩
set_option maxHeartbeats 1000000 in
theorem sameLocal (es rs : ObL) (k : HB) (hn : es.length ≤ 1000000) (hr : rs.length ≤ 1000000) (hk : sortH (keysS es) = keysS rs) (hg : ∀ h : HB, h ∈ keysS rs → ∃ t, getB h es = some t ∧ getB h rs = some t) :
    Local Tryz.prog 14 [.pointer (some ⟨0, 0, none⟩), .pointer (some ⟨2, 0, none⟩)] (wd (LS es rs k) 5 [] 0) fun e W' => e = .ret (.bool true) := by
  have hgA : prH stE pAllS [.pointer (some ⟨0, 0, none⟩)] (wd (LS es rs k) 5 [] 0) = some (.ret (hsV (sortH (keysS es))), wd (LS es rs k) 5 [] 0) := rd_go (at_st (by decide) rfl rfl) (pAllS_eq hn)
  have hgR : prH rfE pAll [.pointer (some ⟨2, 0, none⟩)] (wd (LS es rs k) 5 [] 0) = some (.ret (hsV (keysS rs)), wd (LS es rs k) 5 [] 0) := rd_go (at_rf (by decide) rfl rfl) (pAll_eq hr)
  rw [hk] at hgA
  obtain ⟨ks, hks⟩ : ∃ ks, ks = keysS rs := ⟨_, rfl⟩
  have hkl : ks.length ≤ 1000000 := by rw [hks]; unfold keysS; rw [List.length_map]; exact hr
  rw [← hks] at hgA hgR hg
  have hgH : pureH pHs [hsV ks, hsV ks] (wd (LS es rs k) 5 [] 0) = some (.ret (.bool true), wd (LS es rs k) 5 [] 0) := by
    unfold pureH
    rw [pHs_eq hkl, decide_eq_true rfl]
    rfl
  unfold hsV at hgA hgR hgH
  refine lit_local base4 Tryz.func14 rfl (Nat.le_of_ble_eq_true rfl) ?_
  simp only [frOfL.eq_1, frOfL.eq_2, wd_next, Tryz.ntmps14, Nat.reduceAdd]
  refine xwp_seq (xwp_region (e := ?e1) (s' := ?s1) base4 ?h1 ?q1)
  case h1 =>
    simp (disch := first | decide | omega | (simp only [List.length_cons, List.length_nil, List.length_append, length_bvs, List.length_take, List.length_drop]; omega)) only [go_sem, Nat.reduceAdd, Nat.reduceMul, Nat.reduceSub]
    all_goals with_reducible rfl
  case q1 =>
  refine xwp_seq (xwp_region (e := ?e2) (s' := ?s2) base4 ?h2 ?q2)
  case h2 =>
    simp (disch := first | decide | omega | (simp only [List.length_cons, List.length_nil, List.length_append, length_bvs, List.length_take, List.length_drop]; omega)) only [T4, hgA, go_sem, Nat.reduceAdd, Nat.reduceMul, Nat.reduceSub]
    all_goals with_reducible rfl
  case q2 =>
  refine xwp_seq ?_
  refine xwp_seq (xwp_region (e := ?e3) (s' := ?s3) base4 ?h3 ?q3)
  case h3 =>
    simp (disch := first | decide | omega | (simp only [List.length_cons, List.length_nil, List.length_append, length_bvs, List.length_take, List.length_drop]; omega)) only [T4, hgR, hgH, go_sem, Nat.reduceAdd, Nat.reduceMul, Nat.reduceSub]
    all_goals with_reducible rfl
  case q3 =>
  refine xwp_cf ?h4 ?q4
  case h4 =>
    simp (disch := first | decide | omega | (simp only [List.length_cons, List.length_nil, List.length_append, length_bvs, List.length_take, List.length_drop]; omega)) only [go_sem, Nat.reduceAdd, Nat.reduceMul, Nat.reduceSub]
    all_goals with_reducible rfl
  case q4 =>
  refine xwp_skip ?_
  refine xwp_seq ?_
  refine xwp_seq (xwp_region (e := ?e5) (s' := ?s5) base4 ?h5 ?q5)
  case h5 =>
    simp (disch := first | decide | omega | (simp only [List.length_cons, List.length_nil, List.length_append, length_bvs, List.length_take, List.length_drop]; omega)) only [lenB_gslV, go_sem, Nat.reduceAdd, Nat.reduceMul, Nat.reduceSub]
    all_goals with_reducible rfl
  case q5 =>
  refine xwp_block ?_
  refine xwp_le (s' := ⟨frm [(0, some (.pointer (some ⟨0, 0, none⟩))), (1, some (.pointer (some ⟨2, 0, none⟩))), (19, some (gslV (rowHs ks) ks.length)), (20, some (.int .i64 (ks.length : Int))), (21, some (.int .i64 ((0 : Nat) : Int)))], wd (LS es rs k) 5 [] 0, []⟩) (chle_lit (by simp (disch := decide) [AllLk, lk_hit, lk_miss, lk_nil]) (allLS (by decide) rfl rfl rfl rfl rfl) (by decide)) ?_
  refine xwp_loop (α := UpTo ks.length) (fun y => ⟨frm [(0, some (.pointer (some ⟨0, 0, none⟩))), (1, some (.pointer (some ⟨2, 0, none⟩))), (19, some (gslV (rowHs ks) ks.length)), (20, some (.int .i64 (ks.length : Int))), (21, some (.int .i64 (y.i : Int)))], wd (LS es rs k) 5 [] 0, []⟩) (fun y => ks.length - y.i) ?_ ⟨0, Nat.zero_le _⟩
  intro ⟨i, hi⟩
  simp only
  by_cases hlt : i < ks.length
  · have h1 := rowHs_at hlt
    obtain ⟨t, ht1, ht2⟩ := hg _ (List.getElem_mem hlt)
    obtain ⟨x, hx⟩ : ∃ x, x = ks[i] := ⟨_, rfl⟩
    rw [← hx] at h1 ht1 ht2
    have hxl := x.2
    have hgG : prH stE pGet [.pointer (some ⟨0, 0, none⟩), .agg (bvs x.1).toArray] (wd ((5, some (.cells (bvs x.1) 24 (0, 0))) :: LS es rs k) 6 [] 0) = some (.ret (.tuple #[.string (str t), .bool true]), wd ((5, some (.cells (bvs x.1) 24 (0, 0))) :: LS es rs k) 6 [] 0) :=
      rd_go (xs := [hbV x]) (at_st (by decide) rfl rfl) (by rw [pGet_eq, ht1]; rfl)
    have hgS : prH rfE pRGet [.pointer (some ⟨2, 0, none⟩), .agg (bvs x.1).toArray] (wd ((5, some (.cells (bvs x.1) 24 (0, 0))) :: LS es rs k) 6 [] 0) = some (.ret (.tuple #[.string (str t), .bool true]), wd ((5, some (.cells (bvs x.1) 24 (0, 0))) :: LS es rs k) 6 [] 0) :=
      rd_go (xs := [hbV x]) (at_rf (by decide) rfl rfl) (by rw [pRGet_eq hr, ht2]; rfl)
    refine xwp_seq (xwp_region (e := ?e6) (s' := ?s6) base4 ?h6 ?q6)
    case h6 =>
      simp (disch := first | decide | omega | (simp only [List.length_cons, List.length_nil, List.length_append, length_bvs, List.length_take, List.length_drop]; omega)) only [go_sem, Nat.reduceAdd, Nat.reduceMul, Nat.reduceSub]
      all_goals with_reducible rfl
    case q6 =>
    refine xwp_seq ?_
    refine xwp_ct ?h7 ?q7
    case h7 =>
      simp (disch := first | decide | omega | (simp only [List.length_cons, List.length_nil, List.length_append, length_bvs, List.length_take, List.length_drop]; omega)) only [go_sem, Nat.reduceAdd, Nat.reduceMul, Nat.reduceSub]
      all_goals with_reducible rfl
    case q7 =>
    refine xwp_skip ?_
    refine xwp_seq (xwp_block ?_)
    refine xwp_seq_to ⟨frm [(0, some (.pointer (some ⟨0, 0, none⟩))), (1, some (.pointer (some ⟨2, 0, none⟩))), (19, some (gslV (rowHs ks) ks.length)), (20, some (.int .i64 (ks.length : Int))), (21, some (.int .i64 (i : Int))), (7, some (.pointer (some ⟨5, 0, none⟩)))], wd ((5, some (.cells (bvs x.1) 24 (0, 0))) :: LS es rs k) 6 [] 0, []⟩ ?bd ?ct
    case bd =>
      refine xwp_region (e := ?e8) (s' := ?s8) base4 ?h8 ?q8
      case h8 =>
        simp (disch := first | decide | omega | (simp only [List.length_cons, List.length_nil, List.length_append, length_bvs, List.length_take, List.length_drop]; omega)) only [iad_gslV hlt, iadZ.eq_1, load_FP, h1, hxl, go_sem, Nat.reduceAdd, Nat.reduceMul, Nat.reduceSub]
        all_goals with_reducible rfl
      case q8 =>
      refine ⟨rfl, chle_lit (by simp (disch := decide) [AllLk, lk_hit, lk_miss, lk_nil]) (allLk_cons (by decide) (by simp (disch := decide) [lk_hit, lk_miss, lk_nil]) (allLS (by decide) rfl rfl rfl rfl rfl)) (by decide)⟩
    case ct =>
    refine xwp_seq (xwp_region (e := ?e9) (s' := ?s9) base4 ?h9 ?q9)
    case h9 =>
      simp (disch := first | decide | omega | (simp only [List.length_cons, List.length_nil, List.length_append, length_bvs, List.length_take, List.length_drop]; omega)) only [T4, hgG, hxl, go_sem, Nat.reduceAdd, Nat.reduceMul, Nat.reduceSub]
      all_goals with_reducible rfl
    case q9 =>
    refine xwp_seq (xwp_region (e := ?e10) (s' := ?s10) base4 ?h10 ?q10)
    case h10 =>
      simp (disch := first | decide | omega | (simp only [List.length_cons, List.length_nil, List.length_append, length_bvs, List.length_take, List.length_drop]; omega)) only [T4, hgS, hxl, go_sem, Nat.reduceAdd, Nat.reduceMul, Nat.reduceSub]
      all_goals with_reducible rfl
    case q10 =>
    refine xwp_seq (xwp_region (e := ?e11) (s' := ?s11) base4 ?h11 ?q11)
    case h11 =>
      simp (disch := first | decide | omega | (simp only [List.length_cons, List.length_nil, List.length_append, length_bvs, List.length_take, List.length_drop]; omega)) only [bin_sne, go_sem, Nat.reduceAdd, Nat.reduceMul, Nat.reduceSub]
      all_goals with_reducible rfl
    case q11 =>
    refine xwp_cf ?h12 ?q12
    case h12 =>
      simp (disch := first | decide | omega | (simp only [List.length_cons, List.length_nil, List.length_append, length_bvs, List.length_take, List.length_drop]; omega)) only [go_sem, Nat.reduceAdd, Nat.reduceMul, Nat.reduceSub]
      all_goals with_reducible rfl
    case q12 =>
    refine xwp_skip ?_
    show XWp _ _ _ _ _ _
    refine xwp_region (e := ?e13) (s' := ?s13) base4 ?h13 ?q13
    case h13 =>
      simp (disch := first | decide | omega | (simp only [List.length_cons, List.length_nil, List.length_append, length_bvs, List.length_take, List.length_drop]; omega)) only [go_sem, Nat.reduceAdd, Nat.reduceMul, Nat.reduceSub]
      all_goals with_reducible rfl
    case q13 =>
    refine ⟨⟨i + 1, hlt⟩, by simp only; omega, ?_⟩
    refine chle_ren_lit [(0, some 0), (1, some 1), (2, some 2), (3, some 3), (4, some 4)] [(0, some 0), (1, some 1), (2, some 2), (3, some 3), (4, some 4)] (by decide) (by decide) (by decide) ?_ (allToLS (a := 0) (b := 1) (c := 2) (d := 3) (f := 4) (by decide) rfl rfl rfl rfl rfl (by decide) (fun _ => by decide) (by decide) (fun _ => by decide) (by decide) rfl rfl rfl rfl rfl) .nil
    refine allTv_cons (v := .pointer (some ⟨0, 0, none⟩)) (by decide) (by simp (disch := first | decide | omega) only [lk_hit, lk_miss]) (tv_ptr (by simp (disch := first | decide | omega) only [lk_hit, lk_miss])) (allTv_cons (v := .pointer (some ⟨2, 0, none⟩)) (by decide) (by simp (disch := first | decide | omega) only [lk_hit, lk_miss]) (tv_ptr (by simp (disch := first | decide | omega) only [lk_hit, lk_miss])) (allTv_cons (v := gslV (rowHs ks) ks.length) (by decide) (by simp (disch := first | decide | omega) only [lk_hit, lk_miss]) (bare_gslV (bares_rowHs ks) _ _ names_fz) (allTv_cons (v := .int .i64 (ks.length : Int)) (by decide) (by simp (disch := first | decide | omega) only [lk_hit, lk_miss]) (tv_flat 1 rfl) (allTv_cons (v := .int .i64 ((i + 1 : Nat) : Int)) (by decide) (by simp (disch := first | decide | omega) only [lk_hit, lk_miss]) (tv_flat 1 rfl) allTv_nil))))
  · refine xwp_seq (xwp_region (e := ?e14) (s' := ?s14) base4 ?h14 ?q14)
    case h14 =>
      simp (disch := first | decide | omega | (simp only [List.length_cons, List.length_nil, List.length_append, length_bvs, List.length_take, List.length_drop]; omega)) only [go_sem, Nat.reduceAdd, Nat.reduceMul, Nat.reduceSub]
      all_goals with_reducible rfl
    case q14 =>
    refine xwp_seq ?_
    refine xwp_cf ?h15 ?q15
    case h15 =>
      simp (disch := first | decide | omega | (simp only [List.length_cons, List.length_nil, List.length_append, length_bvs, List.length_take, List.length_drop]; omega)) only [go_sem, Nat.reduceAdd, Nat.reduceMul, Nat.reduceSub]
      all_goals with_reducible rfl
    case q15 =>
    refine xwp_exit ?_
    show XWp _ _ _ _ _ _
    refine xwp_seq (xwp_region (e := ?e16) (s' := ?s16) base4 ?h16 ?q16)
    case h16 =>
      simp (disch := first | decide | omega | (simp only [List.length_cons, List.length_nil, List.length_append, length_bvs, List.length_take, List.length_drop]; omega)) only [go_sem, Nat.reduceAdd, Nat.reduceMul, Nat.reduceSub]
      all_goals with_reducible rfl
    case q16 =>
    refine xwp_ret ?_
    refine ⟨_, ?e17, ?W17, rfl, ?h17, ?q17⟩
    case h17 =>
      simp (disch := first | decide | omega | (simp only [List.length_cons, List.length_nil, List.length_append, length_bvs, List.length_take, List.length_drop]; omega)) only [Tryz.results14, go_sem, Nat.reduceAdd, Nat.reduceMul, Nat.reduceSub]
      all_goals with_reducible rfl
    case q17 =>
    rfl
end Go.Proofs.YthlkgmdkabelpaaGreat.X
namespace Go.Proofs.YthlkgmdkabelpaaGreat.X
open Go Go.RowKit
theorem getB_append (k : HB) : ∀ (a b : ObL), getB k (a ++ b) = (getB k a).or (getB k b)
  | [], b => by simp [getB]
  | x :: l, b => by
    rw [List.cons_append, getB, getB]
    split
    · simp
    · exact getB_append k l b
theorem getB_none {k : HB} : ∀ {l : ObL}, (∀ x ∈ l, k ≠ x.1) → getB k l = none
  | [], _ => rfl
  | x :: l, h => by
    unfold getB
    rw [if_neg (h x List.mem_cons_self)]
    exact getB_none fun y hy => h y (List.mem_cons_of_mem _ hy)
theorem pos_split (h : HB) : ∀ rs : ObL, (∀ x ∈ rs.take (posS h rs), lessB x.1 h = true) ∧ ∀ x l, rs.drop (posS h rs) = x :: l → lessB x.1 h = false
  | [] => ⟨fun x hx => by simp at hx, fun x l e => by simp at e⟩
  | y :: l => by
    obtain ⟨h1, h2⟩ := pos_split h l
    unfold posS
    by_cases hy : lessB y.1 h = true
    · rw [if_pos hy, List.take_succ_cons, List.drop_succ_cons]
      refine ⟨fun x hx => ?_, h2⟩
      rcases List.mem_cons.1 hx with rfl | hx
      · exact hy
      · exact h1 x hx
    · rw [if_neg hy]
      refine ⟨fun x hx => by simp at hx, fun x l e => ?_⟩
      rw [List.drop_zero] at e
      cases e
      simpa using hy
structure SameS (es rs : ObL) : Prop where
  sorted : rs.Pairwise fun x y => lessB x.1 y.1 = true
  perm : (keysS es).Perm (keysS rs)
  get : ∀ h, getB h es = getB h rs
theorem SameS.nil : SameS [] [] := ⟨.nil, .refl _, fun _ => rfl⟩
theorem less_ne {x y : HB} (h : lessB x y = true) : x ≠ y := fun e => by subst e; rw [lessB_swo.irrefl] at h; cases h
theorem SameS.put {es rs : ObL} (s : SameS es rs) (o : List UInt8) : SameS (putS es o) (putR rs o) := by
  obtain ⟨h, hh⟩ : ∃ h, h = shaB o := ⟨_, rfl⟩
  obtain ⟨p1, p2⟩ := pos_split h rs
  have hsp : rs.take (posS h rs) ++ rs.drop (posS h rs) = rs := List.take_append_drop _ _
  obtain ⟨A, hA⟩ : ∃ A, A = rs.take (posS h rs) := ⟨_, rfl⟩
  obtain ⟨B, hB⟩ : ∃ B, B = rs.drop (posS h rs) := ⟨_, rfl⟩
  have hins : insS rs o = A ++ (h, o) :: B := by unfold insS; rw [← hh, ← hA, ← hB]
  have hgA : getB h A = none := getB_none fun x hx => by
    rw [hA] at hx
    exact fun e => less_ne (p1 x hx) e.symm
  have hhit : hitS rs o = match B.head? with | some x => decide (x.1 = h) | none => false := by
    unfold hitS
    rw [← hh, hB, List.head?_drop]
    cases rs[posS h rs]? <;> rfl
  have hsrt := s.sorted
  rw [← hsp, ← hA, ← hB] at hsrt
  obtain ⟨sA, sB, sAB⟩ := List.pairwise_append.1 hsrt
  cases hb : hitS rs o with
  | true =>
    have hR : putR rs o = rs := by unfold putR; rw [hb]; rfl
    have hg : getB h rs = (match B.head? with | some x => some x.2 | none => none) := by
      rw [← hsp, ← hA, ← hB, getB_append, hgA]
      rw [hb] at hhit
      cases hB' : B with
      | nil => rw [hB'] at hhit; cases hhit
      | cons x l =>
        rw [hB'] at hhit
        have hx : x.1 = h := by simpa using hhit.symm
        unfold getB
        rw [if_pos hx.symm]
        rfl
    have hS : putS es o = es := by
      unfold putS
      rw [← hh, s.get h, hg]
      rw [hb] at hhit
      cases hB' : B with
      | nil => rw [hB'] at hhit; cases hhit
      | cons x l => rfl
    rw [hR, hS]
    exact s
  | false =>
    have hR : putR rs o = A ++ (h, o) :: B := by unfold putR; rw [hb]; exact hins
    have hlt : ∀ y ∈ B, lessB h y.1 = true := by
      rw [hb] at hhit
      cases hB' : B with
      | nil => intro y hy; cases hy
      | cons x l =>
        rw [hB'] at hhit sB
        have hx : x.1 ≠ h := by simpa using hhit.symm
        have hnl := p2 x l (by rw [← hB, hB'])
        have hxl : lessB h x.1 = true := by
          cases e : lessB h x.1 with
          | true => rfl
          | false => exact absurd (lessB_total hnl e) hx
        intro y hy
        rcases List.mem_cons.1 hy with rfl | hy
        · exact hxl
        · exact lessB_swo.trans _ _ _ hxl ((List.pairwise_cons.1 sB).1 y hy)
    have hgB : getB h B = none := getB_none fun x hx e => less_ne (hlt x hx) e
    have hge : getB h es = none := by rw [s.get h, ← hsp, ← hA, ← hB, getB_append, hgA, hgB]; rfl
    have hS : putS es o = es ++ [(h, o)] := by
      unfold putS
      rw [← hh, hge]
      rfl
    rw [hR, hS]
    refine ⟨?_, ?_, fun k => ?_⟩
    · refine List.pairwise_append.2 ⟨sA, List.pairwise_cons.2 ⟨hlt, sB⟩, fun a ha b hb' => ?_⟩
      rcases List.mem_cons.1 hb' with rfl | hb'
      · exact p1 a (by rw [← hA]; exact ha)
      · exact sAB a ha b hb'
    · have hp := s.perm
      rw [← hsp, ← hA, ← hB] at hp
      unfold keysS at hp ⊢
      rw [List.map_append] at hp
      rw [List.map_append, List.map_append, List.map_cons, List.map_cons, List.map_nil]
      refine (List.perm_append_comm (l₁ := es.map (·.1)) (l₂ := [h])).trans ?_
      rw [List.singleton_append]
      exact (List.Perm.cons h hp).trans List.perm_middle.symm
    · have hk := s.get k
      rw [← hsp, ← hA, ← hB, getB_append] at hk
      rw [getB_append, getB_append, hk]
      by_cases e : k = h
      · subst e
        rw [hgA, hgB]
        simp [getB]
      · simp only [getB, if_neg e]
        cases getB k A <;> cases getB k B <;> rfl
theorem SameS.keys {es rs : ObL} (s : SameS es rs) : sortH (keysS es) = keysS rs := by
  refine (sortH_uniq s.perm.symm ?_).symm
  unfold keysS
  refine List.pairwise_map.2 (s.sorted.imp fun {x y} h => ?_)
  cases e : lessB y.1 x.1 with
  | false => rfl
  | true => have := lessB_swo.trans _ _ _ h e; rw [lessB_swo.irrefl] at this; cases this
theorem getB_key {k : HB} : ∀ {l : ObL}, k ∈ keysS l → ∃ t, getB k l = some t
  | [], h => by cases h
  | x :: l, h => by
    unfold getB
    by_cases e : k = x.1
    · exact ⟨_, if_pos e⟩
    · rw [if_neg e]
      rcases List.mem_cons.1 h with q | q
      · exact absurd q e
      · exact getB_key q
theorem SameS.found {es rs : ObL} (s : SameS es rs) (h : HB) (hm : h ∈ keysS rs) : ∃ t, getB h es = some t ∧ getB h rs = some t := by
  obtain ⟨t, ht⟩ := getB_key hm
  exact ⟨t, by rw [s.get h]; exact ht, ht⟩
theorem putS_len (es : ObL) (o : List UInt8) : (putS es o).length ≤ es.length + 1 := by
  unfold putS
  split
  · omega
  · simp
theorem putR_len (es : ObL) (o : List UInt8) : (putR es o).length ≤ es.length + 1 := by
  unfold putR insS
  split
  · omega
  · rw [List.length_append, List.length_cons, List.length_take, List.length_drop]; omega
end Go.Proofs.YthlkgmdkabelpaaGreat.X
namespace Go.Proofs.YthlkgmdkabelpaaGreat.X
open Go Go.RowKit
theorem newLocal (k : HB) : Local Tryz.prog 8 [] (wd [(0, some (boxK k))] 1 [] 0) fun e W' => e = .ret (.pointer (some ⟨1, 0, none⟩)) ∧ W'.get 0 = some (boxK k) ∧ W'.get 1 = some (stMain [] 0) ∧ W'.next ≤ 2 := by
  refine lit_local base0 Tryz.func8 rfl (Nat.le_of_ble_eq_true rfl) ?_
  simp only [frOfL.eq_1, frOfL.eq_2, wd_next, Tryz.ntmps8, Nat.reduceAdd]
  refine xwp_seq (xwp_region (e := ?e1) (s' := ?s1) base0 ?h1 ?q1)
  case h1 =>
    simp (disch := first | decide | omega | (simp only [List.length_cons, List.length_nil, List.length_append, length_bvs, List.length_take, List.length_drop]; omega)) only [go_sem, Nat.reduceAdd, Nat.reduceMul, Nat.reduceSub]
    all_goals with_reducible rfl
  case q1 =>
  refine xwp_seq (xwp_region (e := ?e2) (s' := ?s2) base0 ?h2 ?q2)
  case h2 =>
    simp (disch := first | decide | omega | (simp only [List.length_cons, List.length_nil, List.length_append, length_bvs, List.length_take, List.length_drop]; omega)) only [go_sem, Nat.reduceAdd, Nat.reduceMul, Nat.reduceSub]
    all_goals with_reducible rfl
  case q2 =>
  refine xwp_ret ?_
  refine ⟨_, ?e3, ?W3, rfl, ?h3, ?q3⟩
  case h3 =>
    simp (disch := first | decide | omega | (simp only [List.length_cons, List.length_nil, List.length_append, length_bvs, List.length_take, List.length_drop]; omega)) only [Tryz.results8, go_sem, Nat.reduceAdd, Nat.reduceMul, Nat.reduceSub]
    all_goals with_reducible rfl
  case q3 =>
  refine ⟨rfl, ?_, ?_, ?_⟩
  · simp (disch := first | decide | omega | (simp only [List.length_cons, List.length_nil, List.length_append, length_bvs, List.length_take, List.length_drop]; omega)) only [go_sem, Nat.reduceAdd, Nat.reduceMul, Nat.reduceSub]
  · simp (disch := first | decide | omega | (simp only [List.length_cons, List.length_nil, List.length_append, length_bvs, List.length_take, List.length_drop]; omega)) only [stMain, stM, go_sem, Nat.reduceAdd, Nat.reduceMul, Nat.reduceSub]
  · exact Nat.le_refl _
theorem rnewLocal (k : HB) : Local Tryz.prog 9 [] (wd [(0, some (boxK k)), (1, some (stMain [] 0))] 2 [] 0) fun e W' => e = .ret (.pointer (some ⟨2, 0, none⟩)) ∧ W'.get 0 = some (boxK k) ∧ W'.get 1 = some (stMain [] 0) ∧ W'.get 2 = some (rfMain [] 0) ∧ W'.next ≤ 3 := by
  refine lit_local base0 Tryz.func9 rfl (Nat.le_of_ble_eq_true rfl) ?_
  simp only [frOfL.eq_1, frOfL.eq_2, wd_next, Tryz.ntmps9, Nat.reduceAdd]
  refine xwp_seq (xwp_region (e := ?e4) (s' := ?s4) base0 ?h4 ?q4)
  case h4 =>
    simp (disch := first | decide | omega | (simp only [List.length_cons, List.length_nil, List.length_append, length_bvs, List.length_take, List.length_drop]; omega)) only [go_sem, Nat.reduceAdd, Nat.reduceMul, Nat.reduceSub]
    all_goals with_reducible rfl
  case q4 =>
  refine xwp_seq (xwp_region (e := ?e5) (s' := ?s5) base0 ?h5 ?q5)
  case h5 =>
    simp (disch := first | decide | omega | (simp only [List.length_cons, List.length_nil, List.length_append, length_bvs, List.length_take, List.length_drop]; omega)) only [go_sem, Nat.reduceAdd, Nat.reduceMul, Nat.reduceSub]
    all_goals with_reducible rfl
  case q5 =>
  refine xwp_ret ?_
  refine ⟨_, ?e6, ?W6, rfl, ?h6, ?q6⟩
  case h6 =>
    simp (disch := first | decide | omega | (simp only [List.length_cons, List.length_nil, List.length_append, length_bvs, List.length_take, List.length_drop]; omega)) only [Tryz.results9, go_sem, Nat.reduceAdd, Nat.reduceMul, Nat.reduceSub]
    all_goals with_reducible rfl
  case q6 =>
  refine ⟨rfl, ?_, ?_, ?_, ?_⟩
  · simp (disch := first | decide | omega | (simp only [List.length_cons, List.length_nil, List.length_append, length_bvs, List.length_take, List.length_drop]; omega)) only [go_sem, Nat.reduceAdd, Nat.reduceMul, Nat.reduceSub]
  · simp (disch := first | decide | omega | (simp only [List.length_cons, List.length_nil, List.length_append, length_bvs, List.length_take, List.length_drop]; omega)) only [go_sem, Nat.reduceAdd, Nat.reduceMul, Nat.reduceSub]
  · simp (disch := first | decide | omega | (simp only [List.length_cons, List.length_nil, List.length_append, length_bvs, List.length_take, List.length_drop]; omega)) only [rfMain, gsv, go_sem, Nat.reduceAdd, Nat.reduceMul, Nat.reduceSub]
  · exact Nat.le_refl _
end Go.Proofs.YthlkgmdkabelpaaGreat.X
namespace Go.Proofs.YthlkgmdkabelpaaGreat.X
open Go Go.RowKit
structure ArgS (v : Value) (cs : List Value) (n : Nat) : Prop where
  one : oneC v = true
  len : ∀ (W : XW) (e : TypeId), lenB W v (some (.slice e)) = some (.val (some (.int .i64 (n : Int))))
  iad : ∀ (P : Program) (e : TypeId) (i : Nat) (j : IntKind), i < n → iadX P (some (.slice e)) (some v) (some (.int j ((i : Nat) : Int))) = iadZ cs i n (sz P e)
  bare : Bare v
def rowStr (os : List (List UInt8)) : List Value := os.flatMap fun o => [encS o]
theorem rowStr_at {os : List (List UInt8)} {i : Nat} (h : i < os.length) : ((rowStr os).drop (i * 1)).take 1 = [.string (str os[i])] := row_at (g := fun o : List UInt8 => [encS o]) (m := 1) (fun x _ => rfl) h
section
variable {P : Program} {α : Type} {E : PairE P α} {p : PP α} {xs : List Value} {W : XW} {w b : Nat} {a a' : α} {v : Value} {o : XObj}
theorem pl_go (h : AtE E W w b a) (hp : p xs a = some (v, a', .pl)) (hs : E.sat a' = some o) (hsa : E.sat a ≠ none) : prH E p (.pointer (some ⟨w, 0, none⟩) :: xs) W = some (.ret v, (W.put b (some o)).put w (some (E.main a' w b))) := by
  rw [prH_go h (fun v a' e _ => hsa), hp]
  unfold prS
  simp only [hs]
theorem mv_go0 (h : AtE E W w b a) (hp : p xs a = some (v, a', .mv)) (hs : E.sat a' = some o) (hsa : E.sat a = none) : prH E p (.pointer (some ⟨w, 0, none⟩) :: xs) W = some (.ret v, (W.push o).put w (some (E.main a' w W.next))) := by
  rw [prH_go h (fun v a' e => by rw [hp] at e; cases e), hp]
  unfold prS
  simp only [hs, hsa]
  rfl
theorem mv_go1 {o0 : XObj} (h : AtE E W w b a) (hp : p xs a = some (v, a', .mv)) (hs : E.sat a' = some o) (hsa : E.sat a = some o0) : prH E p (.pointer (some ⟨w, 0, none⟩) :: xs) W = some (.ret v, ((W.put b none).push o).put w (some (E.main a' w W.next))) := by
  rw [prH_go h (fun v a' e => by rw [hp] at e; cases e), hp]
  unfold prS
  simp only [hs, hsa]
  rfl
end
theorem at_stb {L : List (Nat × Option XObj)} {n nl b : Nat} {lg : List Nat} {es : ObL} (hn : 5 ≤ n) (hb : b < n) (hn2 : n ≤ 16383) (hb0 : 0 ≠ b) (h0 : lk L 0 = some (stMain es b)) (h1 : lk L b = stSat es) : AtE stE (wd L n lg nl) 0 b es :=
  ⟨by rw [wd_get (by omega) (by decide), h0]; rfl, fun o h => ⟨by rw [wd_get hb (by omega), h1]; exact h, hb0⟩⟩
theorem at_rfb {L : List (Nat × Option XObj)} {n nl b : Nat} {lg : List Nat} {rs : ObL} (hn : 5 ≤ n) (hb : b < n) (hn2 : n ≤ 16383) (hb0 : 2 ≠ b) (h0 : lk L 2 = some (rfMain rs b)) (h1 : lk L b = rfE.sat rs) : AtE rfE (wd L n lg nl) 2 b rs :=
  ⟨by rw [wd_get (by omega) (by decide), h0]; rfl, fun o h => ⟨by rw [wd_get hb (by omega), h1]; exact h, hb0⟩⟩
theorem putS_ne (es : ObL) (o : List UInt8) : putS es o ≠ [] := fun e => by
  unfold putS at e
  split at e
  · rename_i h; rw [e] at h; cases h
  · simp at e
theorem putR_ne (rs : ObL) (o : List UInt8) : putR rs o ≠ [] := fun e => by
  unfold putR at e
  split at e
  · rename_i h; rw [e] at h; cases h
  · unfold insS at e; simp at e
theorem sat_ne {es : ObL} (h : es ≠ []) : ∃ o, stSat es = some o := by
  cases es with
  | nil => exact absurd rfl h
  | cons x l => exact ⟨_, rfl⟩
theorem rsat_ne {rs : ObL} (h : rs ≠ []) : ∃ o, rfE.sat rs = some o := by
  cases rs with
  | nil => exact absurd rfl h
  | cons x l => exact ⟨_, rfl⟩
theorem stMd_ne {es : ObL} (h : es ≠ []) : stMd es = .pl := by
  cases es with
  | nil => exact absurd rfl h
  | cons x l => rfl
theorem SameS.nil_iff {es rs : ObL} (s : SameS es rs) : es = [] ↔ rs = [] := by
  have := s.perm.length_eq
  unfold keysS at this
  rw [List.length_map, List.length_map] at this
  rw [← List.length_eq_zero_iff, ← List.length_eq_zero_iff, this]
noncomputable def T9 : List (FuncId × HF) := [(7, pureH pSan), (10, prH stE pPut), (11, prH rfE pRPut), (12, prH stE pGet), (13, prH rfE pRGet)]
theorem base9 : Base Tryz.prog (hooksOf T9 []) := ⟨mixed, hooksOf_sim (.cons _ _ _ okSan (.cons _ _ _ okPut (.cons _ _ _ okRPut (.cons _ _ _ okGet (.cons _ _ _ okRGet .nil))))) .nil⟩
structure LpP (os : List (List UInt8)) where
  i : Nat
  es : ObL
  rs : ObL
  hi : i ≤ os.length
  h30 : i ≤ 30
  hs : SameS es rs
  hn : es.length ≤ 2 * i
  hr : rs.length ≤ 2 * i
theorem okD_of {P : Program} {all : Array Oper} {n : Nat} {rs : List XRec} (h1 : Region.lexB .any all = true) (h2 : defersStay rs n = true) (h3 : okFrom P all (masks all) rs rs 0 = true) : okD P all n rs = true := by
  unfold okD
  rw [h1, h2, h3]
  simp
theorem okFrom_cons {P : Program} {all : Array Oper} {ms : List Nat} {rs l : List XRec} {r : XRec} {i : Nat} (h : calmK P r i (hides ms i rs 0) (umods ms i rs 0) (wantX all r.s.fr r.o) = true) (h2 : okFrom P all ms rs l (i + 1) = true) : okFrom P all ms rs (r :: l) i = true := by
  unfold okFrom
  rw [h, h2]
  rfl
theorem calmK_iad {P : Program} {r : XRec} {i : Nat} {u : List Nat} {us : List (Nat × XRec)} {w : Option Bool} {t : TypeId} {x y : Operand} (ho : r.o.op = .indexAddr t x y) (hw : w = some true) (hu : (u.all fun n => Nat.blt n r.s.W.next || Nat.ble r.s'.W.next n) = true)
    (hc : calm (iadX P (P.underlying t) (ev r.s.fr x) (ev r.s.fr y)) = true) : calmK P r i u us w = true := by
  subst hw
  unfold calmK
  rw [hu, ho]
  show (u.isEmpty || true && (true && calm (iadX P (P.underlying t) (ev r.s.fr x) (ev r.s.fr y)) || _)) = true
  rw [hc]
  simp
set_option maxHeartbeats 4000000 in
theorem putsLocal (a0 : Value) (os : List (List UInt8)) (k : HB) (ha : ArgS a0 (rowStr os) os.length) (hos : ∀ o ∈ os, o.length ≤ 140737488351232) :
    Local Tryz.prog 3 [a0, hbV k] (wd [] 0 [] 0) fun e W' => e = .ret (.bool true) := by
  have hkl : (bvs k.1).length = 32 := by rw [length_bvs, k.2]
  have hon := ha.one
  have hgS : ∀ W, pureH pSan [] W = some (.ret (.bool true), W) := fun W => rfl
  show Local _ _ [a0, .agg (bvs k.1).toArray] _ _
  refine lit_local base9 Tryz.func3 rfl (Nat.le_of_ble_eq_true rfl) ?_
  simp only [frOfL.eq_1, frOfL.eq_2, wd_next, Tryz.ntmps3, Nat.reduceAdd]
  refine xwp_seq (xwp_region (e := ?e1) (s' := ?s1) base9 ?h1 ?q1)
  case h1 =>
    simp (disch := first | decide | omega | (simp only [List.length_cons, List.length_nil, List.length_append, length_bvs, List.length_take, List.length_drop]; omega)) only [hkl, hon, go_sem, Nat.reduceAdd, Nat.reduceMul, Nat.reduceSub]
    all_goals with_reducible rfl
  case q1 =>
  refine xwp_seq (xwp_region (e := ?e2) (s' := ?s2) base9 ?h2 ?q2)
  case h2 =>
    simp (disch := first | decide | omega | (simp only [List.length_cons, List.length_nil, List.length_append, length_bvs, List.length_take, List.length_drop]; omega)) only [T9, hgS, go_sem, Nat.reduceAdd, Nat.reduceMul, Nat.reduceSub]
    all_goals with_reducible rfl
  case q2 =>
  refine xwp_seq (xops_region ?_)
  refine xops_le (chle_lit (F' := [(0, some a0), (3, some (.pointer (some ⟨0, 0, none⟩))), (5, some (.bool true))]) (L' := [(0, some (boxK k))]) (n' := 1) (lg' := []) (nl' := 0) (by simp (disch := decide) [AllLk, lk_hit, lk_miss, lk_nil]) (by simp (disch := decide) [AllLk, lk_hit, lk_miss, lk_nil, boxK]) (by decide)) ?_
  refine xops_call (f := 8) (args := []) (enters_of (by kernel_rfl)) rfl ?hxA (newLocal k) ?qA
  case hxA =>
    simp (disch := first | decide | omega | (simp only [List.length_cons, List.length_nil, List.length_append, length_bvs, List.length_take, List.length_drop]; omega)) only [go_sem, Nat.reduceAdd, Nat.reduceMul, Nat.reduceSub]
  case qA =>
  intro e W' ⟨h1, h2, h3, h4⟩
  refine ⟨_, _, h1, putX_frm (by decide), ?_⟩
  refine xops_le (chle_get (L := [(0, some (boxK k)), (1, some (stMain [] 0))]) (n' := 2) (lg := []) (nl := 0) h4 fun n o e => ?_) ?_
  · have hcases := lk_mem e
    simp only [List.mem_cons, List.not_mem_nil, or_false, Prod.mk.injEq, Option.some.injEq] at hcases
    rcases hcases with ⟨rfl, rfl⟩ | ⟨rfl, rfl⟩ <;> assumption
  refine xops_call (f := 9) (args := []) (enters_of (by kernel_rfl)) rfl ?hxB (rnewLocal k) ?qB
  case hxB =>
    simp (disch := first | decide | omega | (simp only [List.length_cons, List.length_nil, List.length_append, length_bvs, List.length_take, List.length_drop]; omega)) only [go_sem, Nat.reduceAdd, Nat.reduceMul, Nat.reduceSub]
  case qB =>
  intro e W' ⟨h1, h2, h3, h4, h5⟩
  refine ⟨_, _, h1, putX_frm (by decide), ?_⟩
  refine xops_le (chle_get (L := [(0, some (boxK k)), (1, some (stMain [] 0)), (2, some (rfMain [] 0))]) (n' := 3) (lg := []) (nl := 0) h5 fun n o e => ?_) ?_
  · have hcases := lk_mem e
    simp only [List.mem_cons, List.not_mem_nil, or_false, Prod.mk.injEq, Option.some.injEq] at hcases
    rcases hcases with ⟨rfl, rfl⟩ | ⟨rfl, rfl⟩ | ⟨rfl, rfl⟩ <;> assumption
  refine xops_step base9 1 (s1 := ?sC) ?hC ?qC
  case hC =>
    simp (disch := first | decide | omega | (simp only [List.length_cons, List.length_nil, List.length_append, length_bvs, List.length_take, List.length_drop]; omega)) only [go_sem, Nat.reduceAdd, Nat.reduceMul, Nat.reduceSub]
    all_goals with_reducible rfl
  case qC =>
  refine xops_step base9 1 (s1 := ?sD) ?hD (xops_nil ?qD)
  case hD =>
    simp (disch := first | decide | omega | (simp only [List.length_cons, List.length_nil, List.length_append, length_bvs, List.length_take, List.length_drop]; omega)) only [go_sem, Nat.reduceAdd, Nat.reduceMul, Nat.reduceSub]
    all_goals with_reducible rfl
  case qD =>
  refine xwp_seq ?_
  refine xwp_seq (xwp_region (e := ?e3) (s' := ?s3) base9 ?h3 ?q3)
  case h3 =>
    simp (disch := first | decide | omega | (simp only [List.length_cons, List.length_nil, List.length_append, length_bvs, List.length_take, List.length_drop]; omega)) only [go_sem, Nat.reduceAdd, Nat.reduceMul, Nat.reduceSub]
    all_goals with_reducible rfl
  case q3 =>
  refine xwp_block ?_
  refine xwp_le (s' := ⟨frm [(0, some a0), (3, some (.pointer (some ⟨4, 0, none⟩))), (5, some (.bool true)), (6, some (.pointer (some ⟨0, 0, none⟩))), (7, some (.pointer (some ⟨2, 0, none⟩))), (8, some (.int .i64 ((0 : Nat) : Int)))], wd (LS [] [] k) 5 [] 0, []⟩) ?leA ?_
  case leA =>
    refine chle_ren_lit [(0, some 4), (1, some 0), (2, some 2), (9, some 1), (10, some 3)] [(4, some 0), (0, some 1), (2, some 2), (1, some 9), (3, some 10)] (by decide) (by decide) (by decide) ?_ (allToLS (a := 1) (b := 9) (c := 2) (d := 10) (f := 0) (by decide) rfl rfl rfl rfl rfl (by decide) (fun h => absurd rfl h) (by decide) (fun h => absurd rfl h) (by decide) rfl rfl rfl rfl rfl) .nil
    exact allTv_cons (v := a0) (by decide) (by simp (disch := first | decide | omega) only [lk_hit, lk_miss]) (ha.bare _ names_fz) (allTv_cons (v := .pointer (some ⟨0, 0, none⟩)) (by decide) (by simp (disch := first | decide | omega) only [lk_hit, lk_miss]) (tv_ptr (by simp (disch := first | decide | omega) only [lk_hit, lk_miss])) (allTv_cons (v := .bool true) (by decide) (by simp (disch := first | decide | omega) only [lk_hit, lk_miss]) (tv_flat 1 rfl) (allTv_cons (v := .pointer (some ⟨1, 0, none⟩)) (by decide) (by simp (disch := first | decide | omega) only [lk_hit, lk_miss]) (tv_ptr (by simp (disch := first | decide | omega) only [lk_hit, lk_miss])) (allTv_cons (v := .pointer (some ⟨2, 0, none⟩)) (by decide) (by simp (disch := first | decide | omega) only [lk_hit, lk_miss]) (tv_ptr (by simp (disch := first | decide | omega) only [lk_hit, lk_miss])) (allTv_cons (v := .int .i64 ((0 : Nat) : Int)) (by decide) (by simp (disch := first | decide | omega) only [lk_hit, lk_miss]) (tv_flat 1 rfl) allTv_nil)))))
  refine xwp_loop (α := LpP os) (fun y => ⟨frm [(0, some a0), (3, some (.pointer (some ⟨4, 0, none⟩))), (5, some (.bool true)), (6, some (.pointer (some ⟨0, 0, none⟩))), (7, some (.pointer (some ⟨2, 0, none⟩))), (8, some (.int .i64 (y.i : Int)))], wd (LS y.es y.rs k) 5 [] 0, []⟩) (fun y => os.length - y.i) ?_ ⟨0, [], [], Nat.zero_le _, Nat.zero_le _, SameS.nil, Nat.le_refl _, Nat.le_refl _⟩
  intro ⟨i, es, rs, hi, h30, hs, hn, hr⟩
  simp only
  have hlen := ha.len
  by_cases hlt : i < os.length
  · by_cases h3 : i < 30
    · have hlt2 : i / 2 < os.length := by omega
      have hia1 := fun (e : TypeId) (j : IntKind) => ha.iad Tryz.prog e i j hlt
      have hia2 := fun (e : TypeId) (j : IntKind) => ha.iad Tryz.prog e (i / 2) j hlt2
      have hbl1 : Nat.blt i os.length = true := Nat.ble_eq_true_of_le hlt
      have hbl2 : Nat.blt (i / 2) os.length = true := Nat.ble_eq_true_of_le hlt2
      have hat1 := rowStr_at hlt
      have hat2 := rowStr_at hlt2
      have hq : IntKind.wrap .i64 ((i : Int).tdiv 2) = ((i / 2 : Nat) : Int) := by rw [Int.tdiv_eq_ediv_of_nonneg (by omega)]; unfold IntKind.wrap IntKind.bits IntKind.signed; simp; omega
      have hb : ∀ (o : List UInt8) (x y : Operand), binX Tryz.prog .neq 24 x y (some (.agg (bvs (sha o)).toArray)) (some (.agg (bvs (sha o)).toArray)) = some (.val (some (.bool false))) := fun o x y => by rw [(bin_hash hashT (sha_length o) (sha_length o)).2]; simp
      have ho1 := hos _ (List.getElem_mem hlt)
      have ho2 := hos _ (List.getElem_mem hlt2)
      obtain ⟨o1, hoe1⟩ : ∃ o, o = os[i] := ⟨_, rfl⟩
      obtain ⟨o2, hoe2⟩ : ∃ o, o = os[i / 2] := ⟨_, rfl⟩
      rw [← hoe1] at hat1 ho1
      rw [← hoe2] at hat2 ho2
      have hs11 := hs.put o1
      have hs22 := hs11.put o2
      have hl1 := putS_len es o1
      have hl2 := putR_len rs o1
      have hl3 := putS_len (putS es o1) o2
      have hl4 := putR_len (putR rs o1) o2
      have hne1 := putS_ne es o1
      have hrne1 := putR_ne rs o1
      have hne2 := putS_ne (putS es o1) o2
      have hrne2 := putR_ne (putR rs o1) o2
      obtain ⟨es1, he1⟩ : ∃ x, x = putS es o1 := ⟨_, rfl⟩
      obtain ⟨rs1, he2⟩ : ∃ x, x = putR rs o1 := ⟨_, rfl⟩
      rw [← he1, ← he2] at hs22
      rw [← he1] at hl1 hl3 hne1 hne2
      rw [← he2] at hl2 hl4 hrne1 hrne2
      obtain ⟨es2, he3⟩ : ∃ x, x = putS es1 o2 := ⟨_, rfl⟩
      obtain ⟨rs2, he4⟩ : ∃ x, x = putR rs1 o2 := ⟨_, rfl⟩
      rw [← he3, ← he4] at hs22
      rw [← he3] at hl3 hne2
      rw [← he4] at hl4 hrne2
      obtain ⟨s1, hs1⟩ := sat_ne hne1
      obtain ⟨r1, hr1s⟩ := rsat_ne hrne1
      obtain ⟨s2, hs2⟩ := sat_ne hne2
      obtain ⟨r2, hr2s⟩ := rsat_ne hrne2
      have hr0 : rs.length ≤ 1000000 := by omega
      have hr1 : rs1.length ≤ 1000000 := by omega
      refine xwp_seq ?_
      refine xwp_seq (xwp_region (e := ?e4) (s' := ?s4) base9 ?h4 ?q4)
      case h4 =>
        simp (disch := first | decide | omega | (simp only [List.length_cons, List.length_nil, List.length_append, length_bvs, List.length_take, List.length_drop]; omega)) only [hlen, go_sem, Nat.reduceAdd, Nat.reduceMul, Nat.reduceSub]
        all_goals with_reducible rfl
      case q4 =>
      refine xwp_ct ?h5 ?q5
      case h5 =>
        simp (disch := first | decide | omega | (simp only [List.length_cons, List.length_nil, List.length_append, length_bvs, List.length_take, List.length_drop]; omega)) only [go_sem, Nat.reduceAdd, Nat.reduceMul, Nat.reduceSub]
        all_goals with_reducible rfl
      case q5 =>
      refine xwp_skip ?_
      refine xwp_seq (xwp_block ?_)
      by_cases hes : es = []
      · have hrs := hs.nil_iff.1 hes
        have hmd1 : rfMd rs o1 = .mv := by rw [hrs]; rfl
        have hmd0 : stMd es = .mv := by rw [hes]; rfl
        cases hh2 : hitS rs1 o2 with
        | true =>
          have hmd2 : rfMd rs1 o2 = .pl := by unfold rfMd; rw [hh2]; rfl
          have hp1 : pPut [.string (str o1)] es = some (.agg (bvs (sha o1)).toArray, es1, .mv) := by rw [pPut_eq ho1, hmd0, he1]; rfl
          have hg1 : prH stE pPut [.pointer (some ⟨0, 0, none⟩), .string (str o1)] (wd (LS es rs k) 5 [] 0) = some (.ret (.agg (bvs (sha o1)).toArray), (wd ((0, some (stMain es1 5)) :: (5, some s1) :: LS es rs k) 6 [0] 1)) := (mv_go0 (xs := [.string (str o1)]) (at_stb (L := LS es rs k) (n := 5) (lg := []) (nl := 0) (b := 1) (es := es) (by decide) (by decide) (by decide) (by decide) rfl rfl) hp1 hs1 (by show stSat es = none; rw [hes]; rfl)).trans (by simp only [wd_put, wd_push, wd_next]; rfl)
          have hp2 : pRPut [.string (str o1)] rs = some (.agg (bvs (sha o1)).toArray, rs1, .mv) := by rw [pRPut_eq ho1 hr0, hmd1, he2]; rfl
          have hg2 : prH rfE pRPut [.pointer (some ⟨2, 0, none⟩), .string (str o1)] (wd ((0, some (stMain es1 5)) :: (5, some s1) :: LS es rs k) 6 [0] 1) = some (.ret (.agg (bvs (sha o1)).toArray), (wd ((2, some (rfMain rs1 6)) :: (6, some r1) :: (0, some (stMain es1 5)) :: (5, some s1) :: LS es rs k) 7 [2, 0] 2)) := (mv_go0 (xs := [.string (str o1)]) (at_rfb (L := (0, some (stMain es1 5)) :: (5, some s1) :: LS es rs k) (n := 6) (lg := [0]) (nl := 1) (b := 3) (rs := rs) (by decide) (by decide) (by decide) (by decide) rfl rfl) hp2 hr1s (by rw [hrs]; rfl)).trans (by simp only [wd_put, wd_push, wd_next]; rfl)
          have hp3 : pPut [.string (str o2)] es1 = some (.agg (bvs (sha o2)).toArray, es2, .pl) := by rw [pPut_eq ho2, stMd_ne hne1, he3]; rfl
          have hg3 : prH stE pPut [.pointer (some ⟨0, 0, none⟩), .string (str o2)] (wd ((2, some (rfMain rs1 6)) :: (6, some r1) :: (0, some (stMain es1 5)) :: (5, some s1) :: LS es rs k) 7 [2, 0] 2) = some (.ret (.agg (bvs (sha o2)).toArray), (wd ((0, some (stMain es2 5)) :: (5, some s2) :: (2, some (rfMain rs1 6)) :: (6, some r1) :: (0, some (stMain es1 5)) :: (5, some s1) :: LS es rs k) 7 [0, 5, 2, 0] 4)) := pl_go (xs := [.string (str o2)]) (at_stb (L := (2, some (rfMain rs1 6)) :: (6, some r1) :: (0, some (stMain es1 5)) :: (5, some s1) :: LS es rs k) (n := 7) (lg := [2, 0]) (nl := 2) (b := 5) (es := es1) (by decide) (by decide) (by decide) (by decide) rfl hs1.symm) hp3 hs2 (by rw [show stE.sat es1 = _ from hs1]; simp)
          have hp4 : pRPut [.string (str o2)] rs1 = some (.agg (bvs (sha o2)).toArray, rs2, .pl) := by rw [pRPut_eq ho2 hr1, hmd2, he4]; rfl
          have hg4 : prH rfE pRPut [.pointer (some ⟨2, 0, none⟩), .string (str o2)] (wd ((0, some (stMain es2 5)) :: (5, some s2) :: (2, some (rfMain rs1 6)) :: (6, some r1) :: (0, some (stMain es1 5)) :: (5, some s1) :: LS es rs k) 7 [0, 5, 2, 0] 4) = some (.ret (.agg (bvs (sha o2)).toArray), (wd ((2, some (rfMain rs2 6)) :: (6, some r2) :: (0, some (stMain es2 5)) :: (5, some s2) :: (2, some (rfMain rs1 6)) :: (6, some r1) :: (0, some (stMain es1 5)) :: (5, some s1) :: LS es rs k) 7 [2, 6, 0, 5, 2, 0] 6)) := pl_go (xs := [.string (str o2)]) (at_rfb (L := (0, some (stMain es2 5)) :: (5, some s2) :: (2, some (rfMain rs1 6)) :: (6, some r1) :: (0, some (stMain es1 5)) :: (5, some s1) :: LS es rs k) (n := 7) (lg := [0, 5, 2, 0]) (nl := 4) (b := 6) (rs := rs1) (by decide) (by decide) (by decide) (by decide) rfl hr1s.symm) hp4 hr2s (by rw [show rfE.sat rs1 = _ from hr1s]; simp)
          refine xwp_drawn_to base9 ⟨frm [(0, some a0), (3, some (.pointer (some ⟨4, 0, none⟩))), (5, some (.bool true)), (6, some (.pointer (some ⟨0, 0, none⟩))), (7, some (.pointer (some ⟨2, 0, none⟩))), (8, some (.int .i64 (i : Int))), (55, some (.bool false))], wd [(0, some (stMain es2 5)), (5, some s2), (2, some (rfMain rs2 6)), (6, some r2), (4, some (boxK k))] 7 [] 0, []⟩ ?hdApl ?qdApl
          case hdApl =>
            refine ⟨?rsApl, ?sxApl, ?hxApl, ?kxApl, ?lxApl⟩
            case hxApl =>
              simp (disch := first | decide | omega | (simp only [List.length_cons, List.length_nil, List.length_append, length_bvs, List.length_take, List.length_drop]; omega)) only [traceX.eq_1, traceX.eq_2, trc1.eq_1, trcK.eq_1, trcK.eq_2, traceD_nil, traceD_t, traceD_f, holeK.eq_1, holeK.eq_2, T9, hia1, hia2, iadZ.eq_1, load_FP, hat1, hat2, hq, hb, hg1, hg2, hg3, hg4, go_sem, Nat.reduceAdd, Nat.reduceMul, Nat.reduceSub]
              all_goals with_reducible rfl
            case kxApl =>
              refine okD_of (by kernel_rfl) (by kernel_rfl) ?_
              repeat (refine okFrom_cons (by first | (refine calmK_iad (by with_reducible rfl) (by kernel_rfl) (by kernel_rfl) ?_; simp (disch := first | decide | omega) only [hia1, hia2, iadZ.eq_1, hbl1, hbl2, calm.eq_1, cond_true, go_sem]) | kernel_rfl) ?_)
              rfl
            case lxApl => exact chle_lit (by simp (disch := decide) [AllLk, lk_hit, lk_miss, lk_nil]) (allLk_cons (by decide) rfl (allLk_cons (by decide) rfl (allLk_cons (by decide) rfl (allLk_cons (by decide) rfl (allLk_cons (by decide) rfl trivial))))) (by decide)
          case qdApl =>
          refine xwp_cf ?h6 ?q6
          case h6 =>
            simp (disch := first | decide | omega | (simp only [List.length_cons, List.length_nil, List.length_append, length_bvs, List.length_take, List.length_drop]; omega)) only [go_sem, Nat.reduceAdd, Nat.reduceMul, Nat.reduceSub]
            all_goals with_reducible rfl
          case q6 =>
          refine xwp_skip ?_
          show XWp _ _ _ _ _ _
          refine xwp_region (e := ?e7) (s' := ?s7) base9 ?h7 ?q7
          case h7 =>
            simp (disch := first | decide | omega | (simp only [List.length_cons, List.length_nil, List.length_append, length_bvs, List.length_take, List.length_drop]; omega)) only [go_sem, Nat.reduceAdd, Nat.reduceMul, Nat.reduceSub]
            all_goals with_reducible rfl
          case q7 =>
          refine ⟨⟨i + 1, es2, rs2, hlt, by omega, hs22, by omega, by omega⟩, by simp only; omega, ?_⟩
          refine chle_ren_lit [(0, some 0), (5, some 1), (2, some 2), (6, some 3), (4, some 4)] [(0, some 0), (1, some 5), (2, some 2), (3, some 6), (4, some 4)] (by decide) (by decide) (by decide) ?_ (allToLS (a := 0) (b := 5) (c := 2) (d := 6) (f := 4) (by decide) rfl rfl rfl rfl rfl (by decide) (fun _ => by decide) (by decide) (fun _ => by decide) (by decide) rfl hs2.symm rfl hr2s.symm rfl) .nil
          exact allTv_cons (v := a0) (by decide) (by simp (disch := first | decide | omega) only [lk_hit, lk_miss]) (ha.bare _ names_fz) (allTv_cons (v := .pointer (some ⟨4, 0, none⟩)) (by decide) (by simp (disch := first | decide | omega) only [lk_hit, lk_miss]) (tv_ptr (by simp (disch := first | decide | omega) only [lk_hit, lk_miss])) (allTv_cons (v := .bool true) (by decide) (by simp (disch := first | decide | omega) only [lk_hit, lk_miss]) (tv_flat 1 rfl) (allTv_cons (v := .pointer (some ⟨0, 0, none⟩)) (by decide) (by simp (disch := first | decide | omega) only [lk_hit, lk_miss]) (tv_ptr (by simp (disch := first | decide | omega) only [lk_hit, lk_miss])) (allTv_cons (v := .pointer (some ⟨2, 0, none⟩)) (by decide) (by simp (disch := first | decide | omega) only [lk_hit, lk_miss]) (tv_ptr (by simp (disch := first | decide | omega) only [lk_hit, lk_miss])) (allTv_cons (v := .int .i64 ((i + 1 : Nat) : Int)) (by decide) (by simp (disch := first | decide | omega) only [lk_hit, lk_miss]) (tv_flat 1 rfl) (allTv_nil))))))
        | false =>
          have hmd2 : rfMd rs1 o2 = .mv := by unfold rfMd; rw [hh2]; rfl
          have hp1 : pPut [.string (str o1)] es = some (.agg (bvs (sha o1)).toArray, es1, .mv) := by rw [pPut_eq ho1, hmd0, he1]; rfl
          have hg1 : prH stE pPut [.pointer (some ⟨0, 0, none⟩), .string (str o1)] (wd (LS es rs k) 5 [] 0) = some (.ret (.agg (bvs (sha o1)).toArray), (wd ((0, some (stMain es1 5)) :: (5, some s1) :: LS es rs k) 6 [0] 1)) := (mv_go0 (xs := [.string (str o1)]) (at_stb (L := LS es rs k) (n := 5) (lg := []) (nl := 0) (b := 1) (es := es) (by decide) (by decide) (by decide) (by decide) rfl rfl) hp1 hs1 (by show stSat es = none; rw [hes]; rfl)).trans (by simp only [wd_put, wd_push, wd_next]; rfl)
          have hp2 : pRPut [.string (str o1)] rs = some (.agg (bvs (sha o1)).toArray, rs1, .mv) := by rw [pRPut_eq ho1 hr0, hmd1, he2]; rfl
          have hg2 : prH rfE pRPut [.pointer (some ⟨2, 0, none⟩), .string (str o1)] (wd ((0, some (stMain es1 5)) :: (5, some s1) :: LS es rs k) 6 [0] 1) = some (.ret (.agg (bvs (sha o1)).toArray), (wd ((2, some (rfMain rs1 6)) :: (6, some r1) :: (0, some (stMain es1 5)) :: (5, some s1) :: LS es rs k) 7 [2, 0] 2)) := (mv_go0 (xs := [.string (str o1)]) (at_rfb (L := (0, some (stMain es1 5)) :: (5, some s1) :: LS es rs k) (n := 6) (lg := [0]) (nl := 1) (b := 3) (rs := rs) (by decide) (by decide) (by decide) (by decide) rfl rfl) hp2 hr1s (by rw [hrs]; rfl)).trans (by simp only [wd_put, wd_push, wd_next]; rfl)
          have hp3 : pPut [.string (str o2)] es1 = some (.agg (bvs (sha o2)).toArray, es2, .pl) := by rw [pPut_eq ho2, stMd_ne hne1, he3]; rfl
          have hg3 : prH stE pPut [.pointer (some ⟨0, 0, none⟩), .string (str o2)] (wd ((2, some (rfMain rs1 6)) :: (6, some r1) :: (0, some (stMain es1 5)) :: (5, some s1) :: LS es rs k) 7 [2, 0] 2) = some (.ret (.agg (bvs (sha o2)).toArray), (wd ((0, some (stMain es2 5)) :: (5, some s2) :: (2, some (rfMain rs1 6)) :: (6, some r1) :: (0, some (stMain es1 5)) :: (5, some s1) :: LS es rs k) 7 [0, 5, 2, 0] 4)) := pl_go (xs := [.string (str o2)]) (at_stb (L := (2, some (rfMain rs1 6)) :: (6, some r1) :: (0, some (stMain es1 5)) :: (5, some s1) :: LS es rs k) (n := 7) (lg := [2, 0]) (nl := 2) (b := 5) (es := es1) (by decide) (by decide) (by decide) (by decide) rfl hs1.symm) hp3 hs2 (by rw [show stE.sat es1 = _ from hs1]; simp)
          have hp4 : pRPut [.string (str o2)] rs1 = some (.agg (bvs (sha o2)).toArray, rs2, .mv) := by rw [pRPut_eq ho2 hr1, hmd2, he4]; rfl
          have hg4 : prH rfE pRPut [.pointer (some ⟨2, 0, none⟩), .string (str o2)] (wd ((0, some (stMain es2 5)) :: (5, some s2) :: (2, some (rfMain rs1 6)) :: (6, some r1) :: (0, some (stMain es1 5)) :: (5, some s1) :: LS es rs k) 7 [0, 5, 2, 0] 4) = some (.ret (.agg (bvs (sha o2)).toArray), (wd ((2, some (rfMain rs2 7)) :: (7, some r2) :: (6, none) :: (0, some (stMain es2 5)) :: (5, some s2) :: (2, some (rfMain rs1 6)) :: (6, some r1) :: (0, some (stMain es1 5)) :: (5, some s1) :: LS es rs k) 8 [2, 6, 0, 5, 2, 0] 6)) := (mv_go1 (xs := [.string (str o2)]) (at_rfb (L := (0, some (stMain es2 5)) :: (5, some s2) :: (2, some (rfMain rs1 6)) :: (6, some r1) :: (0, some (stMain es1 5)) :: (5, some s1) :: LS es rs k) (n := 7) (lg := [0, 5, 2, 0]) (nl := 4) (b := 6) (rs := rs1) (by decide) (by decide) (by decide) (by decide) rfl hr1s.symm) hp4 hr2s hr1s).trans (by simp only [wd_put, wd_push, wd_next]; rfl)
          refine xwp_drawn_to base9 ⟨frm [(0, some a0), (3, some (.pointer (some ⟨4, 0, none⟩))), (5, some (.bool true)), (6, some (.pointer (some ⟨0, 0, none⟩))), (7, some (.pointer (some ⟨2, 0, none⟩))), (8, some (.int .i64 (i : Int))), (55, some (.bool false))], wd [(0, some (stMain es2 5)), (5, some s2), (2, some (rfMain rs2 7)), (7, some r2), (4, some (boxK k))] 8 [] 0, []⟩ ?hdAmv ?qdAmv
          case hdAmv =>
            refine ⟨?rsAmv, ?sxAmv, ?hxAmv, ?kxAmv, ?lxAmv⟩
            case hxAmv =>
              simp (disch := first | decide | omega | (simp only [List.length_cons, List.length_nil, List.length_append, length_bvs, List.length_take, List.length_drop]; omega)) only [traceX.eq_1, traceX.eq_2, trc1.eq_1, trcK.eq_1, trcK.eq_2, traceD_nil, traceD_t, traceD_f, holeK.eq_1, holeK.eq_2, T9, hia1, hia2, iadZ.eq_1, load_FP, hat1, hat2, hq, hb, hg1, hg2, hg3, hg4, go_sem, Nat.reduceAdd, Nat.reduceMul, Nat.reduceSub]
              all_goals with_reducible rfl
            case kxAmv =>
              refine okD_of (by kernel_rfl) (by kernel_rfl) ?_
              repeat (refine okFrom_cons (by first | (refine calmK_iad (by with_reducible rfl) (by kernel_rfl) (by kernel_rfl) ?_; simp (disch := first | decide | omega) only [hia1, hia2, iadZ.eq_1, hbl1, hbl2, calm.eq_1, cond_true, go_sem]) | kernel_rfl) ?_)
              rfl
            case lxAmv => exact chle_lit (by simp (disch := decide) [AllLk, lk_hit, lk_miss, lk_nil]) (allLk_cons (by decide) rfl (allLk_cons (by decide) rfl (allLk_cons (by decide) rfl (allLk_cons (by decide) rfl (allLk_cons (by decide) rfl trivial))))) (by decide)
          case qdAmv =>
          refine xwp_cf ?h8 ?q8
          case h8 =>
            simp (disch := first | decide | omega | (simp only [List.length_cons, List.length_nil, List.length_append, length_bvs, List.length_take, List.length_drop]; omega)) only [go_sem, Nat.reduceAdd, Nat.reduceMul, Nat.reduceSub]
            all_goals with_reducible rfl
          case q8 =>
          refine xwp_skip ?_
          show XWp _ _ _ _ _ _
          refine xwp_region (e := ?e9) (s' := ?s9) base9 ?h9 ?q9
          case h9 =>
            simp (disch := first | decide | omega | (simp only [List.length_cons, List.length_nil, List.length_append, length_bvs, List.length_take, List.length_drop]; omega)) only [go_sem, Nat.reduceAdd, Nat.reduceMul, Nat.reduceSub]
            all_goals with_reducible rfl
          case q9 =>
          refine ⟨⟨i + 1, es2, rs2, hlt, by omega, hs22, by omega, by omega⟩, by simp only; omega, ?_⟩
          refine chle_ren_lit [(0, some 0), (5, some 1), (2, some 2), (7, some 3), (4, some 4)] [(0, some 0), (1, some 5), (2, some 2), (3, some 7), (4, some 4)] (by decide) (by decide) (by decide) ?_ (allToLS (a := 0) (b := 5) (c := 2) (d := 7) (f := 4) (by decide) rfl rfl rfl rfl rfl (by decide) (fun _ => by decide) (by decide) (fun _ => by decide) (by decide) rfl hs2.symm rfl hr2s.symm rfl) .nil
          exact allTv_cons (v := a0) (by decide) (by simp (disch := first | decide | omega) only [lk_hit, lk_miss]) (ha.bare _ names_fz) (allTv_cons (v := .pointer (some ⟨4, 0, none⟩)) (by decide) (by simp (disch := first | decide | omega) only [lk_hit, lk_miss]) (tv_ptr (by simp (disch := first | decide | omega) only [lk_hit, lk_miss])) (allTv_cons (v := .bool true) (by decide) (by simp (disch := first | decide | omega) only [lk_hit, lk_miss]) (tv_flat 1 rfl) (allTv_cons (v := .pointer (some ⟨0, 0, none⟩)) (by decide) (by simp (disch := first | decide | omega) only [lk_hit, lk_miss]) (tv_ptr (by simp (disch := first | decide | omega) only [lk_hit, lk_miss])) (allTv_cons (v := .pointer (some ⟨2, 0, none⟩)) (by decide) (by simp (disch := first | decide | omega) only [lk_hit, lk_miss]) (tv_ptr (by simp (disch := first | decide | omega) only [lk_hit, lk_miss])) (allTv_cons (v := .int .i64 ((i + 1 : Nat) : Int)) (by decide) (by simp (disch := first | decide | omega) only [lk_hit, lk_miss]) (tv_flat 1 rfl) (allTv_nil))))))
      · have hrs : rs ≠ [] := fun e => hes (hs.nil_iff.2 e)
        obtain ⟨s0, hs0⟩ := sat_ne hes
        obtain ⟨r0, hr0s⟩ := rsat_ne hrs
        cases hh1 : hitS rs o1 with
        | true =>
          have hmd1 : rfMd rs o1 = .pl := by unfold rfMd; rw [hh1]; rfl
          cases hh2 : hitS rs1 o2 with
          | true =>
            have hmd2 : rfMd rs1 o2 = .pl := by unfold rfMd; rw [hh2]; rfl
            have hp1 : pPut [.string (str o1)] es = some (.agg (bvs (sha o1)).toArray, es1, .pl) := by rw [pPut_eq ho1, stMd_ne hes, he1]; rfl
            have hg1 : prH stE pPut [.pointer (some ⟨0, 0, none⟩), .string (str o1)] (wd (LS es rs k) 5 [] 0) = some (.ret (.agg (bvs (sha o1)).toArray), (wd ((0, some (stMain es1 1)) :: (1, some s1) :: LS es rs k) 5 [0, 1] 2)) := pl_go (xs := [.string (str o1)]) (at_stb (L := LS es rs k) (n := 5) (lg := []) (nl := 0) (b := 1) (es := es) (by decide) (by decide) (by decide) (by decide) rfl rfl) hp1 hs1 (by rw [show stE.sat es = _ from hs0]; simp)
            have hp2 : pRPut [.string (str o1)] rs = some (.agg (bvs (sha o1)).toArray, rs1, .pl) := by rw [pRPut_eq ho1 hr0, hmd1, he2]; rfl
            have hg2 : prH rfE pRPut [.pointer (some ⟨2, 0, none⟩), .string (str o1)] (wd ((0, some (stMain es1 1)) :: (1, some s1) :: LS es rs k) 5 [0, 1] 2) = some (.ret (.agg (bvs (sha o1)).toArray), (wd ((2, some (rfMain rs1 3)) :: (3, some r1) :: (0, some (stMain es1 1)) :: (1, some s1) :: LS es rs k) 5 [2, 3, 0, 1] 4)) := pl_go (xs := [.string (str o1)]) (at_rfb (L := (0, some (stMain es1 1)) :: (1, some s1) :: LS es rs k) (n := 5) (lg := [0, 1]) (nl := 2) (b := 3) (rs := rs) (by decide) (by decide) (by decide) (by decide) rfl rfl) hp2 hr1s (by rw [show rfE.sat rs = _ from hr0s]; simp)
            have hp3 : pPut [.string (str o2)] es1 = some (.agg (bvs (sha o2)).toArray, es2, .pl) := by rw [pPut_eq ho2, stMd_ne hne1, he3]; rfl
            have hg3 : prH stE pPut [.pointer (some ⟨0, 0, none⟩), .string (str o2)] (wd ((2, some (rfMain rs1 3)) :: (3, some r1) :: (0, some (stMain es1 1)) :: (1, some s1) :: LS es rs k) 5 [2, 3, 0, 1] 4) = some (.ret (.agg (bvs (sha o2)).toArray), (wd ((0, some (stMain es2 1)) :: (1, some s2) :: (2, some (rfMain rs1 3)) :: (3, some r1) :: (0, some (stMain es1 1)) :: (1, some s1) :: LS es rs k) 5 [0, 1, 2, 3, 0, 1] 6)) := pl_go (xs := [.string (str o2)]) (at_stb (L := (2, some (rfMain rs1 3)) :: (3, some r1) :: (0, some (stMain es1 1)) :: (1, some s1) :: LS es rs k) (n := 5) (lg := [2, 3, 0, 1]) (nl := 4) (b := 1) (es := es1) (by decide) (by decide) (by decide) (by decide) rfl hs1.symm) hp3 hs2 (by rw [show stE.sat es1 = _ from hs1]; simp)
            have hp4 : pRPut [.string (str o2)] rs1 = some (.agg (bvs (sha o2)).toArray, rs2, .pl) := by rw [pRPut_eq ho2 hr1, hmd2, he4]; rfl
            have hg4 : prH rfE pRPut [.pointer (some ⟨2, 0, none⟩), .string (str o2)] (wd ((0, some (stMain es2 1)) :: (1, some s2) :: (2, some (rfMain rs1 3)) :: (3, some r1) :: (0, some (stMain es1 1)) :: (1, some s1) :: LS es rs k) 5 [0, 1, 2, 3, 0, 1] 6) = some (.ret (.agg (bvs (sha o2)).toArray), (wd ((2, some (rfMain rs2 3)) :: (3, some r2) :: (0, some (stMain es2 1)) :: (1, some s2) :: (2, some (rfMain rs1 3)) :: (3, some r1) :: (0, some (stMain es1 1)) :: (1, some s1) :: LS es rs k) 5 [2, 3, 0, 1, 2, 3, 0, 1] 8)) := pl_go (xs := [.string (str o2)]) (at_rfb (L := (0, some (stMain es2 1)) :: (1, some s2) :: (2, some (rfMain rs1 3)) :: (3, some r1) :: (0, some (stMain es1 1)) :: (1, some s1) :: LS es rs k) (n := 5) (lg := [0, 1, 2, 3, 0, 1]) (nl := 6) (b := 3) (rs := rs1) (by decide) (by decide) (by decide) (by decide) rfl hr1s.symm) hp4 hr2s (by rw [show rfE.sat rs1 = _ from hr1s]; simp)
            refine xwp_drawn_to base9 ⟨frm [(0, some a0), (3, some (.pointer (some ⟨4, 0, none⟩))), (5, some (.bool true)), (6, some (.pointer (some ⟨0, 0, none⟩))), (7, some (.pointer (some ⟨2, 0, none⟩))), (8, some (.int .i64 (i : Int))), (55, some (.bool false))], wd [(0, some (stMain es2 1)), (1, some s2), (2, some (rfMain rs2 3)), (3, some r2), (4, some (boxK k))] 5 [] 0, []⟩ ?hdBplpl ?qdBplpl
            case hdBplpl =>
              refine ⟨?rsBplpl, ?sxBplpl, ?hxBplpl, ?kxBplpl, ?lxBplpl⟩
              case hxBplpl =>
                simp (disch := first | decide | omega | (simp only [List.length_cons, List.length_nil, List.length_append, length_bvs, List.length_take, List.length_drop]; omega)) only [traceX.eq_1, traceX.eq_2, trc1.eq_1, trcK.eq_1, trcK.eq_2, traceD_nil, traceD_t, traceD_f, holeK.eq_1, holeK.eq_2, T9, hia1, hia2, iadZ.eq_1, load_FP, hat1, hat2, hq, hb, hg1, hg2, hg3, hg4, go_sem, Nat.reduceAdd, Nat.reduceMul, Nat.reduceSub]
                all_goals with_reducible rfl
              case kxBplpl =>
                refine okD_of (by kernel_rfl) (by kernel_rfl) ?_
                repeat (refine okFrom_cons (by first | (refine calmK_iad (by with_reducible rfl) (by kernel_rfl) (by kernel_rfl) ?_; simp (disch := first | decide | omega) only [hia1, hia2, iadZ.eq_1, hbl1, hbl2, calm.eq_1, cond_true, go_sem]) | kernel_rfl) ?_)
                rfl
              case lxBplpl => exact chle_lit (by simp (disch := decide) [AllLk, lk_hit, lk_miss, lk_nil]) (allLk_cons (by decide) rfl (allLk_cons (by decide) rfl (allLk_cons (by decide) rfl (allLk_cons (by decide) rfl (allLk_cons (by decide) rfl trivial))))) (by decide)
            case qdBplpl =>
            refine xwp_cf ?h10 ?q10
            case h10 =>
              simp (disch := first | decide | omega | (simp only [List.length_cons, List.length_nil, List.length_append, length_bvs, List.length_take, List.length_drop]; omega)) only [go_sem, Nat.reduceAdd, Nat.reduceMul, Nat.reduceSub]
              all_goals with_reducible rfl
            case q10 =>
            refine xwp_skip ?_
            show XWp _ _ _ _ _ _
            refine xwp_region (e := ?e11) (s' := ?s11) base9 ?h11 ?q11
            case h11 =>
              simp (disch := first | decide | omega | (simp only [List.length_cons, List.length_nil, List.length_append, length_bvs, List.length_take, List.length_drop]; omega)) only [go_sem, Nat.reduceAdd, Nat.reduceMul, Nat.reduceSub]
              all_goals with_reducible rfl
            case q11 =>
            refine ⟨⟨i + 1, es2, rs2, hlt, by omega, hs22, by omega, by omega⟩, by simp only; omega, ?_⟩
            refine chle_ren_lit [(0, some 0), (1, some 1), (2, some 2), (3, some 3), (4, some 4)] [(0, some 0), (1, some 1), (2, some 2), (3, some 3), (4, some 4)] (by decide) (by decide) (by decide) ?_ (allToLS (a := 0) (b := 1) (c := 2) (d := 3) (f := 4) (by decide) rfl rfl rfl rfl rfl (by decide) (fun _ => by decide) (by decide) (fun _ => by decide) (by decide) rfl hs2.symm rfl hr2s.symm rfl) .nil
            exact allTv_cons (v := a0) (by decide) (by simp (disch := first | decide | omega) only [lk_hit, lk_miss]) (ha.bare _ names_fz) (allTv_cons (v := .pointer (some ⟨4, 0, none⟩)) (by decide) (by simp (disch := first | decide | omega) only [lk_hit, lk_miss]) (tv_ptr (by simp (disch := first | decide | omega) only [lk_hit, lk_miss])) (allTv_cons (v := .bool true) (by decide) (by simp (disch := first | decide | omega) only [lk_hit, lk_miss]) (tv_flat 1 rfl) (allTv_cons (v := .pointer (some ⟨0, 0, none⟩)) (by decide) (by simp (disch := first | decide | omega) only [lk_hit, lk_miss]) (tv_ptr (by simp (disch := first | decide | omega) only [lk_hit, lk_miss])) (allTv_cons (v := .pointer (some ⟨2, 0, none⟩)) (by decide) (by simp (disch := first | decide | omega) only [lk_hit, lk_miss]) (tv_ptr (by simp (disch := first | decide | omega) only [lk_hit, lk_miss])) (allTv_cons (v := .int .i64 ((i + 1 : Nat) : Int)) (by decide) (by simp (disch := first | decide | omega) only [lk_hit, lk_miss]) (tv_flat 1 rfl) (allTv_nil))))))
          | false =>
            have hmd2 : rfMd rs1 o2 = .mv := by unfold rfMd; rw [hh2]; rfl
            have hp1 : pPut [.string (str o1)] es = some (.agg (bvs (sha o1)).toArray, es1, .pl) := by rw [pPut_eq ho1, stMd_ne hes, he1]; rfl
            have hg1 : prH stE pPut [.pointer (some ⟨0, 0, none⟩), .string (str o1)] (wd (LS es rs k) 5 [] 0) = some (.ret (.agg (bvs (sha o1)).toArray), (wd ((0, some (stMain es1 1)) :: (1, some s1) :: LS es rs k) 5 [0, 1] 2)) := pl_go (xs := [.string (str o1)]) (at_stb (L := LS es rs k) (n := 5) (lg := []) (nl := 0) (b := 1) (es := es) (by decide) (by decide) (by decide) (by decide) rfl rfl) hp1 hs1 (by rw [show stE.sat es = _ from hs0]; simp)
            have hp2 : pRPut [.string (str o1)] rs = some (.agg (bvs (sha o1)).toArray, rs1, .pl) := by rw [pRPut_eq ho1 hr0, hmd1, he2]; rfl
            have hg2 : prH rfE pRPut [.pointer (some ⟨2, 0, none⟩), .string (str o1)] (wd ((0, some (stMain es1 1)) :: (1, some s1) :: LS es rs k) 5 [0, 1] 2) = some (.ret (.agg (bvs (sha o1)).toArray), (wd ((2, some (rfMain rs1 3)) :: (3, some r1) :: (0, some (stMain es1 1)) :: (1, some s1) :: LS es rs k) 5 [2, 3, 0, 1] 4)) := pl_go (xs := [.string (str o1)]) (at_rfb (L := (0, some (stMain es1 1)) :: (1, some s1) :: LS es rs k) (n := 5) (lg := [0, 1]) (nl := 2) (b := 3) (rs := rs) (by decide) (by decide) (by decide) (by decide) rfl rfl) hp2 hr1s (by rw [show rfE.sat rs = _ from hr0s]; simp)
            have hp3 : pPut [.string (str o2)] es1 = some (.agg (bvs (sha o2)).toArray, es2, .pl) := by rw [pPut_eq ho2, stMd_ne hne1, he3]; rfl
            have hg3 : prH stE pPut [.pointer (some ⟨0, 0, none⟩), .string (str o2)] (wd ((2, some (rfMain rs1 3)) :: (3, some r1) :: (0, some (stMain es1 1)) :: (1, some s1) :: LS es rs k) 5 [2, 3, 0, 1] 4) = some (.ret (.agg (bvs (sha o2)).toArray), (wd ((0, some (stMain es2 1)) :: (1, some s2) :: (2, some (rfMain rs1 3)) :: (3, some r1) :: (0, some (stMain es1 1)) :: (1, some s1) :: LS es rs k) 5 [0, 1, 2, 3, 0, 1] 6)) := pl_go (xs := [.string (str o2)]) (at_stb (L := (2, some (rfMain rs1 3)) :: (3, some r1) :: (0, some (stMain es1 1)) :: (1, some s1) :: LS es rs k) (n := 5) (lg := [2, 3, 0, 1]) (nl := 4) (b := 1) (es := es1) (by decide) (by decide) (by decide) (by decide) rfl hs1.symm) hp3 hs2 (by rw [show stE.sat es1 = _ from hs1]; simp)
            have hp4 : pRPut [.string (str o2)] rs1 = some (.agg (bvs (sha o2)).toArray, rs2, .mv) := by rw [pRPut_eq ho2 hr1, hmd2, he4]; rfl
            have hg4 : prH rfE pRPut [.pointer (some ⟨2, 0, none⟩), .string (str o2)] (wd ((0, some (stMain es2 1)) :: (1, some s2) :: (2, some (rfMain rs1 3)) :: (3, some r1) :: (0, some (stMain es1 1)) :: (1, some s1) :: LS es rs k) 5 [0, 1, 2, 3, 0, 1] 6) = some (.ret (.agg (bvs (sha o2)).toArray), (wd ((2, some (rfMain rs2 5)) :: (5, some r2) :: (3, none) :: (0, some (stMain es2 1)) :: (1, some s2) :: (2, some (rfMain rs1 3)) :: (3, some r1) :: (0, some (stMain es1 1)) :: (1, some s1) :: LS es rs k) 6 [2, 3, 0, 1, 2, 3, 0, 1] 8)) := (mv_go1 (xs := [.string (str o2)]) (at_rfb (L := (0, some (stMain es2 1)) :: (1, some s2) :: (2, some (rfMain rs1 3)) :: (3, some r1) :: (0, some (stMain es1 1)) :: (1, some s1) :: LS es rs k) (n := 5) (lg := [0, 1, 2, 3, 0, 1]) (nl := 6) (b := 3) (rs := rs1) (by decide) (by decide) (by decide) (by decide) rfl hr1s.symm) hp4 hr2s hr1s).trans (by simp only [wd_put, wd_push, wd_next]; rfl)
            refine xwp_drawn_to base9 ⟨frm [(0, some a0), (3, some (.pointer (some ⟨4, 0, none⟩))), (5, some (.bool true)), (6, some (.pointer (some ⟨0, 0, none⟩))), (7, some (.pointer (some ⟨2, 0, none⟩))), (8, some (.int .i64 (i : Int))), (55, some (.bool false))], wd [(0, some (stMain es2 1)), (1, some s2), (2, some (rfMain rs2 5)), (5, some r2), (4, some (boxK k))] 6 [] 0, []⟩ ?hdBplmv ?qdBplmv
            case hdBplmv =>
              refine ⟨?rsBplmv, ?sxBplmv, ?hxBplmv, ?kxBplmv, ?lxBplmv⟩
              case hxBplmv =>
                simp (disch := first | decide | omega | (simp only [List.length_cons, List.length_nil, List.length_append, length_bvs, List.length_take, List.length_drop]; omega)) only [traceX.eq_1, traceX.eq_2, trc1.eq_1, trcK.eq_1, trcK.eq_2, traceD_nil, traceD_t, traceD_f, holeK.eq_1, holeK.eq_2, T9, hia1, hia2, iadZ.eq_1, load_FP, hat1, hat2, hq, hb, hg1, hg2, hg3, hg4, go_sem, Nat.reduceAdd, Nat.reduceMul, Nat.reduceSub]
                all_goals with_reducible rfl
              case kxBplmv =>
                refine okD_of (by kernel_rfl) (by kernel_rfl) ?_
                repeat (refine okFrom_cons (by first | (refine calmK_iad (by with_reducible rfl) (by kernel_rfl) (by kernel_rfl) ?_; simp (disch := first | decide | omega) only [hia1, hia2, iadZ.eq_1, hbl1, hbl2, calm.eq_1, cond_true, go_sem]) | kernel_rfl) ?_)
                rfl
              case lxBplmv => exact chle_lit (by simp (disch := decide) [AllLk, lk_hit, lk_miss, lk_nil]) (allLk_cons (by decide) rfl (allLk_cons (by decide) rfl (allLk_cons (by decide) rfl (allLk_cons (by decide) rfl (allLk_cons (by decide) rfl trivial))))) (by decide)
            case qdBplmv =>
            refine xwp_cf ?h12 ?q12
            case h12 =>
              simp (disch := first | decide | omega | (simp only [List.length_cons, List.length_nil, List.length_append, length_bvs, List.length_take, List.length_drop]; omega)) only [go_sem, Nat.reduceAdd, Nat.reduceMul, Nat.reduceSub]
              all_goals with_reducible rfl
            case q12 =>
            refine xwp_skip ?_
            show XWp _ _ _ _ _ _
            refine xwp_region (e := ?e13) (s' := ?s13) base9 ?h13 ?q13
            case h13 =>
              simp (disch := first | decide | omega | (simp only [List.length_cons, List.length_nil, List.length_append, length_bvs, List.length_take, List.length_drop]; omega)) only [go_sem, Nat.reduceAdd, Nat.reduceMul, Nat.reduceSub]
              all_goals with_reducible rfl
            case q13 =>
            refine ⟨⟨i + 1, es2, rs2, hlt, by omega, hs22, by omega, by omega⟩, by simp only; omega, ?_⟩
            refine chle_ren_lit [(0, some 0), (1, some 1), (2, some 2), (5, some 3), (4, some 4)] [(0, some 0), (1, some 1), (2, some 2), (3, some 5), (4, some 4)] (by decide) (by decide) (by decide) ?_ (allToLS (a := 0) (b := 1) (c := 2) (d := 5) (f := 4) (by decide) rfl rfl rfl rfl rfl (by decide) (fun _ => by decide) (by decide) (fun _ => by decide) (by decide) rfl hs2.symm rfl hr2s.symm rfl) .nil
            exact allTv_cons (v := a0) (by decide) (by simp (disch := first | decide | omega) only [lk_hit, lk_miss]) (ha.bare _ names_fz) (allTv_cons (v := .pointer (some ⟨4, 0, none⟩)) (by decide) (by simp (disch := first | decide | omega) only [lk_hit, lk_miss]) (tv_ptr (by simp (disch := first | decide | omega) only [lk_hit, lk_miss])) (allTv_cons (v := .bool true) (by decide) (by simp (disch := first | decide | omega) only [lk_hit, lk_miss]) (tv_flat 1 rfl) (allTv_cons (v := .pointer (some ⟨0, 0, none⟩)) (by decide) (by simp (disch := first | decide | omega) only [lk_hit, lk_miss]) (tv_ptr (by simp (disch := first | decide | omega) only [lk_hit, lk_miss])) (allTv_cons (v := .pointer (some ⟨2, 0, none⟩)) (by decide) (by simp (disch := first | decide | omega) only [lk_hit, lk_miss]) (tv_ptr (by simp (disch := first | decide | omega) only [lk_hit, lk_miss])) (allTv_cons (v := .int .i64 ((i + 1 : Nat) : Int)) (by decide) (by simp (disch := first | decide | omega) only [lk_hit, lk_miss]) (tv_flat 1 rfl) (allTv_nil))))))
        | false =>
          have hmd1 : rfMd rs o1 = .mv := by unfold rfMd; rw [hh1]; rfl
          cases hh2 : hitS rs1 o2 with
          | true =>
            have hmd2 : rfMd rs1 o2 = .pl := by unfold rfMd; rw [hh2]; rfl
            have hp1 : pPut [.string (str o1)] es = some (.agg (bvs (sha o1)).toArray, es1, .pl) := by rw [pPut_eq ho1, stMd_ne hes, he1]; rfl
            have hg1 : prH stE pPut [.pointer (some ⟨0, 0, none⟩), .string (str o1)] (wd (LS es rs k) 5 [] 0) = some (.ret (.agg (bvs (sha o1)).toArray), (wd ((0, some (stMain es1 1)) :: (1, some s1) :: LS es rs k) 5 [0, 1] 2)) := pl_go (xs := [.string (str o1)]) (at_stb (L := LS es rs k) (n := 5) (lg := []) (nl := 0) (b := 1) (es := es) (by decide) (by decide) (by decide) (by decide) rfl rfl) hp1 hs1 (by rw [show stE.sat es = _ from hs0]; simp)
            have hp2 : pRPut [.string (str o1)] rs = some (.agg (bvs (sha o1)).toArray, rs1, .mv) := by rw [pRPut_eq ho1 hr0, hmd1, he2]; rfl
            have hg2 : prH rfE pRPut [.pointer (some ⟨2, 0, none⟩), .string (str o1)] (wd ((0, some (stMain es1 1)) :: (1, some s1) :: LS es rs k) 5 [0, 1] 2) = some (.ret (.agg (bvs (sha o1)).toArray), (wd ((2, some (rfMain rs1 5)) :: (5, some r1) :: (3, none) :: (0, some (stMain es1 1)) :: (1, some s1) :: LS es rs k) 6 [2, 3, 0, 1] 4)) := (mv_go1 (xs := [.string (str o1)]) (at_rfb (L := (0, some (stMain es1 1)) :: (1, some s1) :: LS es rs k) (n := 5) (lg := [0, 1]) (nl := 2) (b := 3) (rs := rs) (by decide) (by decide) (by decide) (by decide) rfl rfl) hp2 hr1s hr0s).trans (by simp only [wd_put, wd_push, wd_next]; rfl)
            have hp3 : pPut [.string (str o2)] es1 = some (.agg (bvs (sha o2)).toArray, es2, .pl) := by rw [pPut_eq ho2, stMd_ne hne1, he3]; rfl
            have hg3 : prH stE pPut [.pointer (some ⟨0, 0, none⟩), .string (str o2)] (wd ((2, some (rfMain rs1 5)) :: (5, some r1) :: (3, none) :: (0, some (stMain es1 1)) :: (1, some s1) :: LS es rs k) 6 [2, 3, 0, 1] 4) = some (.ret (.agg (bvs (sha o2)).toArray), (wd ((0, some (stMain es2 1)) :: (1, some s2) :: (2, some (rfMain rs1 5)) :: (5, some r1) :: (3, none) :: (0, some (stMain es1 1)) :: (1, some s1) :: LS es rs k) 6 [0, 1, 2, 3, 0, 1] 6)) := pl_go (xs := [.string (str o2)]) (at_stb (L := (2, some (rfMain rs1 5)) :: (5, some r1) :: (3, none) :: (0, some (stMain es1 1)) :: (1, some s1) :: LS es rs k) (n := 6) (lg := [2, 3, 0, 1]) (nl := 4) (b := 1) (es := es1) (by decide) (by decide) (by decide) (by decide) rfl hs1.symm) hp3 hs2 (by rw [show stE.sat es1 = _ from hs1]; simp)
            have hp4 : pRPut [.string (str o2)] rs1 = some (.agg (bvs (sha o2)).toArray, rs2, .pl) := by rw [pRPut_eq ho2 hr1, hmd2, he4]; rfl
            have hg4 : prH rfE pRPut [.pointer (some ⟨2, 0, none⟩), .string (str o2)] (wd ((0, some (stMain es2 1)) :: (1, some s2) :: (2, some (rfMain rs1 5)) :: (5, some r1) :: (3, none) :: (0, some (stMain es1 1)) :: (1, some s1) :: LS es rs k) 6 [0, 1, 2, 3, 0, 1] 6) = some (.ret (.agg (bvs (sha o2)).toArray), (wd ((2, some (rfMain rs2 5)) :: (5, some r2) :: (0, some (stMain es2 1)) :: (1, some s2) :: (2, some (rfMain rs1 5)) :: (5, some r1) :: (3, none) :: (0, some (stMain es1 1)) :: (1, some s1) :: LS es rs k) 6 [2, 5, 0, 1, 2, 3, 0, 1] 8)) := pl_go (xs := [.string (str o2)]) (at_rfb (L := (0, some (stMain es2 1)) :: (1, some s2) :: (2, some (rfMain rs1 5)) :: (5, some r1) :: (3, none) :: (0, some (stMain es1 1)) :: (1, some s1) :: LS es rs k) (n := 6) (lg := [0, 1, 2, 3, 0, 1]) (nl := 6) (b := 5) (rs := rs1) (by decide) (by decide) (by decide) (by decide) rfl hr1s.symm) hp4 hr2s (by rw [show rfE.sat rs1 = _ from hr1s]; simp)
            refine xwp_drawn_to base9 ⟨frm [(0, some a0), (3, some (.pointer (some ⟨4, 0, none⟩))), (5, some (.bool true)), (6, some (.pointer (some ⟨0, 0, none⟩))), (7, some (.pointer (some ⟨2, 0, none⟩))), (8, some (.int .i64 (i : Int))), (55, some (.bool false))], wd [(0, some (stMain es2 1)), (1, some s2), (2, some (rfMain rs2 5)), (5, some r2), (4, some (boxK k))] 6 [] 0, []⟩ ?hdBmv1pl ?qdBmv1pl
            case hdBmv1pl =>
              refine ⟨?rsBmv1pl, ?sxBmv1pl, ?hxBmv1pl, ?kxBmv1pl, ?lxBmv1pl⟩
              case hxBmv1pl =>
                simp (disch := first | decide | omega | (simp only [List.length_cons, List.length_nil, List.length_append, length_bvs, List.length_take, List.length_drop]; omega)) only [traceX.eq_1, traceX.eq_2, trc1.eq_1, trcK.eq_1, trcK.eq_2, traceD_nil, traceD_t, traceD_f, holeK.eq_1, holeK.eq_2, T9, hia1, hia2, iadZ.eq_1, load_FP, hat1, hat2, hq, hb, hg1, hg2, hg3, hg4, go_sem, Nat.reduceAdd, Nat.reduceMul, Nat.reduceSub]
                all_goals with_reducible rfl
              case kxBmv1pl =>
                refine okD_of (by kernel_rfl) (by kernel_rfl) ?_
                repeat (refine okFrom_cons (by first | (refine calmK_iad (by with_reducible rfl) (by kernel_rfl) (by kernel_rfl) ?_; simp (disch := first | decide | omega) only [hia1, hia2, iadZ.eq_1, hbl1, hbl2, calm.eq_1, cond_true, go_sem]) | kernel_rfl) ?_)
                rfl
              case lxBmv1pl => exact chle_lit (by simp (disch := decide) [AllLk, lk_hit, lk_miss, lk_nil]) (allLk_cons (by decide) rfl (allLk_cons (by decide) rfl (allLk_cons (by decide) rfl (allLk_cons (by decide) rfl (allLk_cons (by decide) rfl trivial))))) (by decide)
            case qdBmv1pl =>
            refine xwp_cf ?h14 ?q14
            case h14 =>
              simp (disch := first | decide | omega | (simp only [List.length_cons, List.length_nil, List.length_append, length_bvs, List.length_take, List.length_drop]; omega)) only [go_sem, Nat.reduceAdd, Nat.reduceMul, Nat.reduceSub]
              all_goals with_reducible rfl
            case q14 =>
            refine xwp_skip ?_
            show XWp _ _ _ _ _ _
            refine xwp_region (e := ?e15) (s' := ?s15) base9 ?h15 ?q15
            case h15 =>
              simp (disch := first | decide | omega | (simp only [List.length_cons, List.length_nil, List.length_append, length_bvs, List.length_take, List.length_drop]; omega)) only [go_sem, Nat.reduceAdd, Nat.reduceMul, Nat.reduceSub]
              all_goals with_reducible rfl
            case q15 =>
            refine ⟨⟨i + 1, es2, rs2, hlt, by omega, hs22, by omega, by omega⟩, by simp only; omega, ?_⟩
            refine chle_ren_lit [(0, some 0), (1, some 1), (2, some 2), (5, some 3), (4, some 4)] [(0, some 0), (1, some 1), (2, some 2), (3, some 5), (4, some 4)] (by decide) (by decide) (by decide) ?_ (allToLS (a := 0) (b := 1) (c := 2) (d := 5) (f := 4) (by decide) rfl rfl rfl rfl rfl (by decide) (fun _ => by decide) (by decide) (fun _ => by decide) (by decide) rfl hs2.symm rfl hr2s.symm rfl) .nil
            exact allTv_cons (v := a0) (by decide) (by simp (disch := first | decide | omega) only [lk_hit, lk_miss]) (ha.bare _ names_fz) (allTv_cons (v := .pointer (some ⟨4, 0, none⟩)) (by decide) (by simp (disch := first | decide | omega) only [lk_hit, lk_miss]) (tv_ptr (by simp (disch := first | decide | omega) only [lk_hit, lk_miss])) (allTv_cons (v := .bool true) (by decide) (by simp (disch := first | decide | omega) only [lk_hit, lk_miss]) (tv_flat 1 rfl) (allTv_cons (v := .pointer (some ⟨0, 0, none⟩)) (by decide) (by simp (disch := first | decide | omega) only [lk_hit, lk_miss]) (tv_ptr (by simp (disch := first | decide | omega) only [lk_hit, lk_miss])) (allTv_cons (v := .pointer (some ⟨2, 0, none⟩)) (by decide) (by simp (disch := first | decide | omega) only [lk_hit, lk_miss]) (tv_ptr (by simp (disch := first | decide | omega) only [lk_hit, lk_miss])) (allTv_cons (v := .int .i64 ((i + 1 : Nat) : Int)) (by decide) (by simp (disch := first | decide | omega) only [lk_hit, lk_miss]) (tv_flat 1 rfl) (allTv_nil))))))
          | false =>
            have hmd2 : rfMd rs1 o2 = .mv := by unfold rfMd; rw [hh2]; rfl
            have hp1 : pPut [.string (str o1)] es = some (.agg (bvs (sha o1)).toArray, es1, .pl) := by rw [pPut_eq ho1, stMd_ne hes, he1]; rfl
            have hg1 : prH stE pPut [.pointer (some ⟨0, 0, none⟩), .string (str o1)] (wd (LS es rs k) 5 [] 0) = some (.ret (.agg (bvs (sha o1)).toArray), (wd ((0, some (stMain es1 1)) :: (1, some s1) :: LS es rs k) 5 [0, 1] 2)) := pl_go (xs := [.string (str o1)]) (at_stb (L := LS es rs k) (n := 5) (lg := []) (nl := 0) (b := 1) (es := es) (by decide) (by decide) (by decide) (by decide) rfl rfl) hp1 hs1 (by rw [show stE.sat es = _ from hs0]; simp)
            have hp2 : pRPut [.string (str o1)] rs = some (.agg (bvs (sha o1)).toArray, rs1, .mv) := by rw [pRPut_eq ho1 hr0, hmd1, he2]; rfl
            have hg2 : prH rfE pRPut [.pointer (some ⟨2, 0, none⟩), .string (str o1)] (wd ((0, some (stMain es1 1)) :: (1, some s1) :: LS es rs k) 5 [0, 1] 2) = some (.ret (.agg (bvs (sha o1)).toArray), (wd ((2, some (rfMain rs1 5)) :: (5, some r1) :: (3, none) :: (0, some (stMain es1 1)) :: (1, some s1) :: LS es rs k) 6 [2, 3, 0, 1] 4)) := (mv_go1 (xs := [.string (str o1)]) (at_rfb (L := (0, some (stMain es1 1)) :: (1, some s1) :: LS es rs k) (n := 5) (lg := [0, 1]) (nl := 2) (b := 3) (rs := rs) (by decide) (by decide) (by decide) (by decide) rfl rfl) hp2 hr1s hr0s).trans (by simp only [wd_put, wd_push, wd_next]; rfl)
            have hp3 : pPut [.string (str o2)] es1 = some (.agg (bvs (sha o2)).toArray, es2, .pl) := by rw [pPut_eq ho2, stMd_ne hne1, he3]; rfl
            have hg3 : prH stE pPut [.pointer (some ⟨0, 0, none⟩), .string (str o2)] (wd ((2, some (rfMain rs1 5)) :: (5, some r1) :: (3, none) :: (0, some (stMain es1 1)) :: (1, some s1) :: LS es rs k) 6 [2, 3, 0, 1] 4) = some (.ret (.agg (bvs (sha o2)).toArray), (wd ((0, some (stMain es2 1)) :: (1, some s2) :: (2, some (rfMain rs1 5)) :: (5, some r1) :: (3, none) :: (0, some (stMain es1 1)) :: (1, some s1) :: LS es rs k) 6 [0, 1, 2, 3, 0, 1] 6)) := pl_go (xs := [.string (str o2)]) (at_stb (L := (2, some (rfMain rs1 5)) :: (5, some r1) :: (3, none) :: (0, some (stMain es1 1)) :: (1, some s1) :: LS es rs k) (n := 6) (lg := [2, 3, 0, 1]) (nl := 4) (b := 1) (es := es1) (by decide) (by decide) (by decide) (by decide) rfl hs1.symm) hp3 hs2 (by rw [show stE.sat es1 = _ from hs1]; simp)
            have hp4 : pRPut [.string (str o2)] rs1 = some (.agg (bvs (sha o2)).toArray, rs2, .mv) := by rw [pRPut_eq ho2 hr1, hmd2, he4]; rfl
            have hg4 : prH rfE pRPut [.pointer (some ⟨2, 0, none⟩), .string (str o2)] (wd ((0, some (stMain es2 1)) :: (1, some s2) :: (2, some (rfMain rs1 5)) :: (5, some r1) :: (3, none) :: (0, some (stMain es1 1)) :: (1, some s1) :: LS es rs k) 6 [0, 1, 2, 3, 0, 1] 6) = some (.ret (.agg (bvs (sha o2)).toArray), (wd ((2, some (rfMain rs2 6)) :: (6, some r2) :: (5, none) :: (0, some (stMain es2 1)) :: (1, some s2) :: (2, some (rfMain rs1 5)) :: (5, some r1) :: (3, none) :: (0, some (stMain es1 1)) :: (1, some s1) :: LS es rs k) 7 [2, 5, 0, 1, 2, 3, 0, 1] 8)) := (mv_go1 (xs := [.string (str o2)]) (at_rfb (L := (0, some (stMain es2 1)) :: (1, some s2) :: (2, some (rfMain rs1 5)) :: (5, some r1) :: (3, none) :: (0, some (stMain es1 1)) :: (1, some s1) :: LS es rs k) (n := 6) (lg := [0, 1, 2, 3, 0, 1]) (nl := 6) (b := 5) (rs := rs1) (by decide) (by decide) (by decide) (by decide) rfl hr1s.symm) hp4 hr2s hr1s).trans (by simp only [wd_put, wd_push, wd_next]; rfl)
            refine xwp_drawn_to base9 ⟨frm [(0, some a0), (3, some (.pointer (some ⟨4, 0, none⟩))), (5, some (.bool true)), (6, some (.pointer (some ⟨0, 0, none⟩))), (7, some (.pointer (some ⟨2, 0, none⟩))), (8, some (.int .i64 (i : Int))), (55, some (.bool false))], wd [(0, some (stMain es2 1)), (1, some s2), (2, some (rfMain rs2 6)), (6, some r2), (4, some (boxK k))] 7 [] 0, []⟩ ?hdBmv1mv ?qdBmv1mv
            case hdBmv1mv =>
              refine ⟨?rsBmv1mv, ?sxBmv1mv, ?hxBmv1mv, ?kxBmv1mv, ?lxBmv1mv⟩
              case hxBmv1mv =>
                simp (disch := first | decide | omega | (simp only [List.length_cons, List.length_nil, List.length_append, length_bvs, List.length_take, List.length_drop]; omega)) only [traceX.eq_1, traceX.eq_2, trc1.eq_1, trcK.eq_1, trcK.eq_2, traceD_nil, traceD_t, traceD_f, holeK.eq_1, holeK.eq_2, T9, hia1, hia2, iadZ.eq_1, load_FP, hat1, hat2, hq, hb, hg1, hg2, hg3, hg4, go_sem, Nat.reduceAdd, Nat.reduceMul, Nat.reduceSub]
                all_goals with_reducible rfl
              case kxBmv1mv =>
                refine okD_of (by kernel_rfl) (by kernel_rfl) ?_
                repeat (refine okFrom_cons (by first | (refine calmK_iad (by with_reducible rfl) (by kernel_rfl) (by kernel_rfl) ?_; simp (disch := first | decide | omega) only [hia1, hia2, iadZ.eq_1, hbl1, hbl2, calm.eq_1, cond_true, go_sem]) | kernel_rfl) ?_)
                rfl
              case lxBmv1mv => exact chle_lit (by simp (disch := decide) [AllLk, lk_hit, lk_miss, lk_nil]) (allLk_cons (by decide) rfl (allLk_cons (by decide) rfl (allLk_cons (by decide) rfl (allLk_cons (by decide) rfl (allLk_cons (by decide) rfl trivial))))) (by decide)
            case qdBmv1mv =>
            refine xwp_cf ?h16 ?q16
            case h16 =>
              simp (disch := first | decide | omega | (simp only [List.length_cons, List.length_nil, List.length_append, length_bvs, List.length_take, List.length_drop]; omega)) only [go_sem, Nat.reduceAdd, Nat.reduceMul, Nat.reduceSub]
              all_goals with_reducible rfl
            case q16 =>
            refine xwp_skip ?_
            show XWp _ _ _ _ _ _
            refine xwp_region (e := ?e17) (s' := ?s17) base9 ?h17 ?q17
            case h17 =>
              simp (disch := first | decide | omega | (simp only [List.length_cons, List.length_nil, List.length_append, length_bvs, List.length_take, List.length_drop]; omega)) only [go_sem, Nat.reduceAdd, Nat.reduceMul, Nat.reduceSub]
              all_goals with_reducible rfl
            case q17 =>
            refine ⟨⟨i + 1, es2, rs2, hlt, by omega, hs22, by omega, by omega⟩, by simp only; omega, ?_⟩
            refine chle_ren_lit [(0, some 0), (1, some 1), (2, some 2), (6, some 3), (4, some 4)] [(0, some 0), (1, some 1), (2, some 2), (3, some 6), (4, some 4)] (by decide) (by decide) (by decide) ?_ (allToLS (a := 0) (b := 1) (c := 2) (d := 6) (f := 4) (by decide) rfl rfl rfl rfl rfl (by decide) (fun _ => by decide) (by decide) (fun _ => by decide) (by decide) rfl hs2.symm rfl hr2s.symm rfl) .nil
            exact allTv_cons (v := a0) (by decide) (by simp (disch := first | decide | omega) only [lk_hit, lk_miss]) (ha.bare _ names_fz) (allTv_cons (v := .pointer (some ⟨4, 0, none⟩)) (by decide) (by simp (disch := first | decide | omega) only [lk_hit, lk_miss]) (tv_ptr (by simp (disch := first | decide | omega) only [lk_hit, lk_miss])) (allTv_cons (v := .bool true) (by decide) (by simp (disch := first | decide | omega) only [lk_hit, lk_miss]) (tv_flat 1 rfl) (allTv_cons (v := .pointer (some ⟨0, 0, none⟩)) (by decide) (by simp (disch := first | decide | omega) only [lk_hit, lk_miss]) (tv_ptr (by simp (disch := first | decide | omega) only [lk_hit, lk_miss])) (allTv_cons (v := .pointer (some ⟨2, 0, none⟩)) (by decide) (by simp (disch := first | decide | omega) only [lk_hit, lk_miss]) (tv_ptr (by simp (disch := first | decide | omega) only [lk_hit, lk_miss])) (allTv_cons (v := .int .i64 ((i + 1 : Nat) : Int)) (by decide) (by simp (disch := first | decide | omega) only [lk_hit, lk_miss]) (tv_flat 1 rfl) (allTv_nil))))))
    · refine xwp_seq ?_
      refine xwp_seq (xwp_region (e := ?e18) (s' := ?s18) base9 ?h18 ?q18)
      case h18 =>
        simp (disch := first | decide | omega | (simp only [List.length_cons, List.length_nil, List.length_append, length_bvs, List.length_take, List.length_drop]; omega)) only [hlen, go_sem, Nat.reduceAdd, Nat.reduceMul, Nat.reduceSub]
        all_goals with_reducible rfl
      case q18 =>
      refine xwp_cf ?h19 ?q19
      case h19 =>
        simp (disch := first | decide | omega | (simp only [List.length_cons, List.length_nil, List.length_append, length_bvs, List.length_take, List.length_drop]; omega)) only [go_sem, Nat.reduceAdd, Nat.reduceMul, Nat.reduceSub]
        all_goals with_reducible rfl
      case q19 =>
      refine xwp_exit ?_
      show XWp _ _ _ _ _ _
      have hrn : rs.length ≤ 1000000 := by omega
      have hen : es.length ≤ 1000000 := by omega
      obtain ⟨t, f, hv1, hv2⟩ : ∃ t f, pGet [hbV k] es = some (.tuple #[.string (str t), .bool f], es, .rd) ∧ pRGet [hbV k] rs = some (.tuple #[.string (str t), .bool f], rs, .rd) := by
        rw [pGet_eq, pRGet_eq hrn, hs.get k]
        cases getB k rs with
        | none => exact ⟨[], false, rfl, rfl⟩
        | some t => exact ⟨t, true, rfl, rfl⟩
      refine xwp_le (s' := ⟨frm [(0, some a0), (3, some (.pointer (some ⟨4, 0, none⟩))), (5, some (.bool true)), (6, some (.pointer (some ⟨0, 0, none⟩))), (7, some (.pointer (some ⟨2, 0, none⟩)))], wd ((4, some (.cells (bvs k.1) 24 (0, 0))) :: LS es rs k) 5 [] 0, []⟩) (chle_lit (by simp (disch := decide) [AllLk, lk_hit, lk_miss, lk_nil]) (allLk_cons (by decide) rfl (allLS (by decide) rfl rfl rfl rfl rfl)) (by decide)) ?_
      have hgG : prH stE pGet [.pointer (some ⟨0, 0, none⟩), .agg (bvs k.1).toArray] (wd ((4, some (.cells (bvs k.1) 24 (0, 0))) :: LS es rs k) 5 [] 0) = some (.ret (.tuple #[.string (str t), .bool f]), wd ((4, some (.cells (bvs k.1) 24 (0, 0))) :: LS es rs k) 5 [] 0) := rd_go (xs := [hbV k]) (at_st (by decide) rfl rfl) hv1
      have hgS2 : prH rfE pRGet [.pointer (some ⟨2, 0, none⟩), .agg (bvs k.1).toArray] (wd ((4, some (.cells (bvs k.1) 24 (0, 0))) :: LS es rs k) 5 [] 0) = some (.ret (.tuple #[.string (str t), .bool f]), wd ((4, some (.cells (bvs k.1) 24 (0, 0))) :: LS es rs k) 5 [] 0) := rd_go (xs := [hbV k]) (at_rf (by decide) rfl rfl) hv2
      have hbb : ∀ (x y : Operand), binX Tryz.prog .eql 4 x y (some (.bool f)) (some (.bool f)) = some (.val (some (.bool true))) := fun x y => by cases f <;> kernel_rfl
      have hte : decide (t = t) = true := decide_eq_true rfl
      refine xwp_seq (xwp_region (e := ?e20) (s' := ?s20) base9 ?h20 ?q20)
      case h20 =>
        simp (disch := first | decide | omega | (simp only [List.length_cons, List.length_nil, List.length_append, length_bvs, List.length_take, List.length_drop]; omega)) only [T9, hkl, hgG, go_sem, Nat.reduceAdd, Nat.reduceMul, Nat.reduceSub]
        all_goals with_reducible rfl
      case q20 =>
      refine xwp_seq (xwp_region (e := ?e21) (s' := ?s21) base9 ?h21 ?q21)
      case h21 =>
        simp (disch := first | decide | omega | (simp only [List.length_cons, List.length_nil, List.length_append, length_bvs, List.length_take, List.length_drop]; omega)) only [T9, hkl, hgS2, go_sem, Nat.reduceAdd, Nat.reduceMul, Nat.reduceSub]
        all_goals with_reducible rfl
      case q21 =>
      refine xwp_seq (xops_region ?_)
      refine xops_step base9 1 (s1 := ?saX0) ?haX0 ?qaX0
      case haX0 =>
        simp (disch := first | decide | omega | (simp only [List.length_cons, List.length_nil, List.length_append, length_bvs, List.length_take, List.length_drop]; omega)) only [go_sem, Nat.reduceAdd, Nat.reduceMul, Nat.reduceSub]
        all_goals with_reducible rfl
      case qaX0 =>
      refine xops_step base9 1 (s1 := ?saX1) ?haX1 ?qaX1
      case haX1 =>
        simp (disch := first | decide | omega | (simp only [List.length_cons, List.length_nil, List.length_append, length_bvs, List.length_take, List.length_drop]; omega)) only [go_sem, Nat.reduceAdd, Nat.reduceMul, Nat.reduceSub]
        all_goals with_reducible rfl
      case qaX1 =>
      refine xops_step base9 1 (s1 := ?saX2) ?haX2 ?qaX2
      case haX2 =>
        simp (disch := first | decide | omega | (simp only [List.length_cons, List.length_nil, List.length_append, length_bvs, List.length_take, List.length_drop]; omega)) only [go_sem, Nat.reduceAdd, Nat.reduceMul, Nat.reduceSub]
        all_goals with_reducible rfl
      case qaX2 =>
      refine xops_step base9 1 (s1 := ?saX3) ?haX3 ?qaX3
      case haX3 =>
        simp (disch := first | decide | omega | (simp only [List.length_cons, List.length_nil, List.length_append, length_bvs, List.length_take, List.length_drop]; omega)) only [go_sem, Nat.reduceAdd, Nat.reduceMul, Nat.reduceSub]
        all_goals with_reducible rfl
      case qaX3 =>
      refine xops_le (s' := ⟨frm [(9, some (.string (str t))), (10, some (.bool f)), (11, some (.string (str t))), (12, some (.bool f)), (69, some (.bool true)), (70, some (.pointer (some ⟨0, 0, none⟩))), (71, some (.pointer (some ⟨2, 0, none⟩)))], wd (LS es rs k) 5 [] 0, []⟩) (chle_lit (by simp (disch := decide) [AllLk, lk_hit, lk_miss, lk_nil]) (allLS (by decide) rfl rfl rfl rfl rfl) (by decide)) ?_
      refine xops_call (f := 14) (args := [.pointer (some ⟨0, 0, none⟩), .pointer (some ⟨2, 0, none⟩)]) (enters_of (by kernel_rfl)) ?hwX ?hzX (sameLocal es rs k hen hrn hs.keys hs.found) ?qzX
      case hwX =>
        simp (disch := first | decide | omega | (simp only [List.length_cons, List.length_nil, List.length_append, length_bvs, List.length_take, List.length_drop]; omega)) only [go_sem, Nat.reduceAdd, Nat.reduceMul, Nat.reduceSub]
        all_goals with_reducible rfl
      case hzX =>
        simp (disch := first | decide | omega | (simp only [List.length_cons, List.length_nil, List.length_append, length_bvs, List.length_take, List.length_drop]; omega)) only [go_sem, Nat.reduceAdd, Nat.reduceMul, Nat.reduceSub]
      case qzX =>
      intro e W' h1
      refine ⟨_, _, h1, putX_frm (by decide), ?_⟩
      refine xops_le (chle_get (L := []) (n' := W'.next) (lg := []) (nl := 0) (Nat.le_refl _) fun n o e => (by cases e)) ?_
      refine xops_step base9 1 (s1 := ?sbX0) ?hbX0 ?qbX0
      case hbX0 =>
        simp (disch := first | decide | omega | (simp only [List.length_cons, List.length_nil, List.length_append, length_bvs, List.length_take, List.length_drop]; omega)) only [bin_seq, hte, hbb, go_sem, Nat.reduceAdd, Nat.reduceMul, Nat.reduceSub]
        all_goals with_reducible rfl
      case qbX0 =>
      refine xops_step base9 1 (s1 := ?sbX1) ?hbX1 ?qbX1
      case hbX1 =>
        simp (disch := first | decide | omega | (simp only [List.length_cons, List.length_nil, List.length_append, length_bvs, List.length_take, List.length_drop]; omega)) only [bin_seq, hte, hbb, go_sem, Nat.reduceAdd, Nat.reduceMul, Nat.reduceSub]
        all_goals with_reducible rfl
      case qbX1 =>
      refine xops_step base9 1 (s1 := ?sbX2) ?hbX2 ?qbX2
      case hbX2 =>
        simp (disch := first | decide | omega | (simp only [List.length_cons, List.length_nil, List.length_append, length_bvs, List.length_take, List.length_drop]; omega)) only [bin_seq, hte, hbb, go_sem, Nat.reduceAdd, Nat.reduceMul, Nat.reduceSub]
        all_goals with_reducible rfl
      case qbX2 =>
      refine xops_step base9 1 (s1 := ?sbX3) ?hbX3 ?qbX3
      case hbX3 =>
        simp (disch := first | decide | omega | (simp only [List.length_cons, List.length_nil, List.length_append, length_bvs, List.length_take, List.length_drop]; omega)) only [bin_seq, hte, hbb, go_sem, Nat.reduceAdd, Nat.reduceMul, Nat.reduceSub]
        all_goals with_reducible rfl
      case qbX3 =>
      refine xops_step base9 1 (s1 := ?sbX4) ?hbX4 ?qbX4
      case hbX4 =>
        simp (disch := first | decide | omega | (simp only [List.length_cons, List.length_nil, List.length_append, length_bvs, List.length_take, List.length_drop]; omega)) only [bin_seq, hte, hbb, go_sem, Nat.reduceAdd, Nat.reduceMul, Nat.reduceSub]
        all_goals with_reducible rfl
      case qbX4 =>
      refine xops_step base9 1 (s1 := ?sbX5) ?hbX5 ?qbX5
      case hbX5 =>
        simp (disch := first | decide | omega | (simp only [List.length_cons, List.length_nil, List.length_append, length_bvs, List.length_take, List.length_drop]; omega)) only [bin_seq, hte, hbb, go_sem, Nat.reduceAdd, Nat.reduceMul, Nat.reduceSub]
        all_goals with_reducible rfl
      case qbX5 =>
      refine xops_step base9 1 (s1 := ?sbX6) ?hbX6 ?qbX6
      case hbX6 =>
        simp (disch := first | decide | omega | (simp only [List.length_cons, List.length_nil, List.length_append, length_bvs, List.length_take, List.length_drop]; omega)) only [bin_seq, hte, hbb, go_sem, Nat.reduceAdd, Nat.reduceMul, Nat.reduceSub]
        all_goals with_reducible rfl
      case qbX6 =>
      refine xops_step base9 1 (s1 := ?sbX7) ?hbX7 ?qbX7
      case hbX7 =>
        simp (disch := first | decide | omega | (simp only [List.length_cons, List.length_nil, List.length_append, length_bvs, List.length_take, List.length_drop]; omega)) only [bin_seq, hte, hbb, go_sem, Nat.reduceAdd, Nat.reduceMul, Nat.reduceSub]
        all_goals with_reducible rfl
      case qbX7 =>
      refine xops_step base9 1 (s1 := ?sbX8) ?hbX8 ?qbX8
      case hbX8 =>
        simp (disch := first | decide | omega | (simp only [List.length_cons, List.length_nil, List.length_append, length_bvs, List.length_take, List.length_drop]; omega)) only [bin_seq, hte, hbb, go_sem, Nat.reduceAdd, Nat.reduceMul, Nat.reduceSub]
        all_goals with_reducible rfl
      case qbX8 =>
      refine xops_step base9 1 (s1 := ?sbX9) ?hbX9 ?qbX9
      case hbX9 =>
        simp (disch := first | decide | omega | (simp only [List.length_cons, List.length_nil, List.length_append, length_bvs, List.length_take, List.length_drop]; omega)) only [bin_seq, hte, hbb, go_sem, Nat.reduceAdd, Nat.reduceMul, Nat.reduceSub]
        all_goals with_reducible rfl
      case qbX9 =>
      refine xops_step base9 1 (s1 := ?sbX10) ?hbX10 ?qbX10
      case hbX10 =>
        simp (disch := first | decide | omega | (simp only [List.length_cons, List.length_nil, List.length_append, length_bvs, List.length_take, List.length_drop]; omega)) only [bin_seq, hte, hbb, go_sem, Nat.reduceAdd, Nat.reduceMul, Nat.reduceSub]
        all_goals with_reducible rfl
      case qbX10 =>
      refine xops_step base9 1 (s1 := ?sbX11) ?hbX11 ?qbX11
      case hbX11 =>
        simp (disch := first | decide | omega | (simp only [List.length_cons, List.length_nil, List.length_append, length_bvs, List.length_take, List.length_drop]; omega)) only [bin_seq, hte, hbb, go_sem, Nat.reduceAdd, Nat.reduceMul, Nat.reduceSub]
        all_goals with_reducible rfl
      case qbX11 =>
      refine xops_nil ?_
      refine xwp_ret ?_
      refine ⟨_, ?e22, ?W22, rfl, ?h22, ?q22⟩
      case h22 =>
        simp (disch := first | decide | omega | (simp only [List.length_cons, List.length_nil, List.length_append, length_bvs, List.length_take, List.length_drop]; omega)) only [Tryz.results3, go_sem, Nat.reduceAdd, Nat.reduceMul, Nat.reduceSub]
        all_goals with_reducible rfl
      case q22 =>
      rfl
  · refine xwp_seq ?_
    refine xwp_seq (xwp_region (e := ?e23) (s' := ?s23) base9 ?h23 ?q23)
    case h23 =>
      simp (disch := first | decide | omega | (simp only [List.length_cons, List.length_nil, List.length_append, length_bvs, List.length_take, List.length_drop]; omega)) only [hlen, go_sem, Nat.reduceAdd, Nat.reduceMul, Nat.reduceSub]
      all_goals with_reducible rfl
    case q23 =>
    refine xwp_cf ?h24 ?q24
    case h24 =>
      simp (disch := first | decide | omega | (simp only [List.length_cons, List.length_nil, List.length_append, length_bvs, List.length_take, List.length_drop]; omega)) only [go_sem, Nat.reduceAdd, Nat.reduceMul, Nat.reduceSub]
      all_goals with_reducible rfl
    case q24 =>
    refine xwp_exit ?_
    show XWp _ _ _ _ _ _
    have hrn : rs.length ≤ 1000000 := by omega
    have hen : es.length ≤ 1000000 := by omega
    obtain ⟨t, f, hv1, hv2⟩ : ∃ t f, pGet [hbV k] es = some (.tuple #[.string (str t), .bool f], es, .rd) ∧ pRGet [hbV k] rs = some (.tuple #[.string (str t), .bool f], rs, .rd) := by
      rw [pGet_eq, pRGet_eq hrn, hs.get k]
      cases getB k rs with
      | none => exact ⟨[], false, rfl, rfl⟩
      | some t => exact ⟨t, true, rfl, rfl⟩
    refine xwp_le (s' := ⟨frm [(0, some a0), (3, some (.pointer (some ⟨4, 0, none⟩))), (5, some (.bool true)), (6, some (.pointer (some ⟨0, 0, none⟩))), (7, some (.pointer (some ⟨2, 0, none⟩)))], wd ((4, some (.cells (bvs k.1) 24 (0, 0))) :: LS es rs k) 5 [] 0, []⟩) (chle_lit (by simp (disch := decide) [AllLk, lk_hit, lk_miss, lk_nil]) (allLk_cons (by decide) rfl (allLS (by decide) rfl rfl rfl rfl rfl)) (by decide)) ?_
    have hgG : prH stE pGet [.pointer (some ⟨0, 0, none⟩), .agg (bvs k.1).toArray] (wd ((4, some (.cells (bvs k.1) 24 (0, 0))) :: LS es rs k) 5 [] 0) = some (.ret (.tuple #[.string (str t), .bool f]), wd ((4, some (.cells (bvs k.1) 24 (0, 0))) :: LS es rs k) 5 [] 0) := rd_go (xs := [hbV k]) (at_st (by decide) rfl rfl) hv1
    have hgS2 : prH rfE pRGet [.pointer (some ⟨2, 0, none⟩), .agg (bvs k.1).toArray] (wd ((4, some (.cells (bvs k.1) 24 (0, 0))) :: LS es rs k) 5 [] 0) = some (.ret (.tuple #[.string (str t), .bool f]), wd ((4, some (.cells (bvs k.1) 24 (0, 0))) :: LS es rs k) 5 [] 0) := rd_go (xs := [hbV k]) (at_rf (by decide) rfl rfl) hv2
    have hbb : ∀ (x y : Operand), binX Tryz.prog .eql 4 x y (some (.bool f)) (some (.bool f)) = some (.val (some (.bool true))) := fun x y => by cases f <;> kernel_rfl
    have hte : decide (t = t) = true := decide_eq_true rfl
    refine xwp_seq (xwp_region (e := ?e25) (s' := ?s25) base9 ?h25 ?q25)
    case h25 =>
      simp (disch := first | decide | omega | (simp only [List.length_cons, List.length_nil, List.length_append, length_bvs, List.length_take, List.length_drop]; omega)) only [T9, hkl, hgG, go_sem, Nat.reduceAdd, Nat.reduceMul, Nat.reduceSub]
      all_goals with_reducible rfl
    case q25 =>
    refine xwp_seq (xwp_region (e := ?e26) (s' := ?s26) base9 ?h26 ?q26)
    case h26 =>
      simp (disch := first | decide | omega | (simp only [List.length_cons, List.length_nil, List.length_append, length_bvs, List.length_take, List.length_drop]; omega)) only [T9, hkl, hgS2, go_sem, Nat.reduceAdd, Nat.reduceMul, Nat.reduceSub]
      all_goals with_reducible rfl
    case q26 =>
    refine xwp_seq (xops_region ?_)
    refine xops_step base9 1 (s1 := ?saY0) ?haY0 ?qaY0
    case haY0 =>
      simp (disch := first | decide | omega | (simp only [List.length_cons, List.length_nil, List.length_append, length_bvs, List.length_take, List.length_drop]; omega)) only [go_sem, Nat.reduceAdd, Nat.reduceMul, Nat.reduceSub]
      all_goals with_reducible rfl
    case qaY0 =>
    refine xops_step base9 1 (s1 := ?saY1) ?haY1 ?qaY1
    case haY1 =>
      simp (disch := first | decide | omega | (simp only [List.length_cons, List.length_nil, List.length_append, length_bvs, List.length_take, List.length_drop]; omega)) only [go_sem, Nat.reduceAdd, Nat.reduceMul, Nat.reduceSub]
      all_goals with_reducible rfl
    case qaY1 =>
    refine xops_step base9 1 (s1 := ?saY2) ?haY2 ?qaY2
    case haY2 =>
      simp (disch := first | decide | omega | (simp only [List.length_cons, List.length_nil, List.length_append, length_bvs, List.length_take, List.length_drop]; omega)) only [go_sem, Nat.reduceAdd, Nat.reduceMul, Nat.reduceSub]
      all_goals with_reducible rfl
    case qaY2 =>
    refine xops_step base9 1 (s1 := ?saY3) ?haY3 ?qaY3
    case haY3 =>
      simp (disch := first | decide | omega | (simp only [List.length_cons, List.length_nil, List.length_append, length_bvs, List.length_take, List.length_drop]; omega)) only [go_sem, Nat.reduceAdd, Nat.reduceMul, Nat.reduceSub]
      all_goals with_reducible rfl
    case qaY3 =>
    refine xops_le (s' := ⟨frm [(9, some (.string (str t))), (10, some (.bool f)), (11, some (.string (str t))), (12, some (.bool f)), (69, some (.bool true)), (70, some (.pointer (some ⟨0, 0, none⟩))), (71, some (.pointer (some ⟨2, 0, none⟩)))], wd (LS es rs k) 5 [] 0, []⟩) (chle_lit (by simp (disch := decide) [AllLk, lk_hit, lk_miss, lk_nil]) (allLS (by decide) rfl rfl rfl rfl rfl) (by decide)) ?_
    refine xops_call (f := 14) (args := [.pointer (some ⟨0, 0, none⟩), .pointer (some ⟨2, 0, none⟩)]) (enters_of (by kernel_rfl)) ?hwY ?hzY (sameLocal es rs k hen hrn hs.keys hs.found) ?qzY
    case hwY =>
      simp (disch := first | decide | omega | (simp only [List.length_cons, List.length_nil, List.length_append, length_bvs, List.length_take, List.length_drop]; omega)) only [go_sem, Nat.reduceAdd, Nat.reduceMul, Nat.reduceSub]
      all_goals with_reducible rfl
    case hzY =>
      simp (disch := first | decide | omega | (simp only [List.length_cons, List.length_nil, List.length_append, length_bvs, List.length_take, List.length_drop]; omega)) only [go_sem, Nat.reduceAdd, Nat.reduceMul, Nat.reduceSub]
    case qzY =>
    intro e W' h1
    refine ⟨_, _, h1, putX_frm (by decide), ?_⟩
    refine xops_le (chle_get (L := []) (n' := W'.next) (lg := []) (nl := 0) (Nat.le_refl _) fun n o e => (by cases e)) ?_
    refine xops_step base9 1 (s1 := ?sbY0) ?hbY0 ?qbY0
    case hbY0 =>
      simp (disch := first | decide | omega | (simp only [List.length_cons, List.length_nil, List.length_append, length_bvs, List.length_take, List.length_drop]; omega)) only [bin_seq, hte, hbb, go_sem, Nat.reduceAdd, Nat.reduceMul, Nat.reduceSub]
      all_goals with_reducible rfl
    case qbY0 =>
    refine xops_step base9 1 (s1 := ?sbY1) ?hbY1 ?qbY1
    case hbY1 =>
      simp (disch := first | decide | omega | (simp only [List.length_cons, List.length_nil, List.length_append, length_bvs, List.length_take, List.length_drop]; omega)) only [bin_seq, hte, hbb, go_sem, Nat.reduceAdd, Nat.reduceMul, Nat.reduceSub]
      all_goals with_reducible rfl
    case qbY1 =>
    refine xops_step base9 1 (s1 := ?sbY2) ?hbY2 ?qbY2
    case hbY2 =>
      simp (disch := first | decide | omega | (simp only [List.length_cons, List.length_nil, List.length_append, length_bvs, List.length_take, List.length_drop]; omega)) only [bin_seq, hte, hbb, go_sem, Nat.reduceAdd, Nat.reduceMul, Nat.reduceSub]
      all_goals with_reducible rfl
    case qbY2 =>
    refine xops_step base9 1 (s1 := ?sbY3) ?hbY3 ?qbY3
    case hbY3 =>
      simp (disch := first | decide | omega | (simp only [List.length_cons, List.length_nil, List.length_append, length_bvs, List.length_take, List.length_drop]; omega)) only [bin_seq, hte, hbb, go_sem, Nat.reduceAdd, Nat.reduceMul, Nat.reduceSub]
      all_goals with_reducible rfl
    case qbY3 =>
    refine xops_step base9 1 (s1 := ?sbY4) ?hbY4 ?qbY4
    case hbY4 =>
      simp (disch := first | decide | omega | (simp only [List.length_cons, List.length_nil, List.length_append, length_bvs, List.length_take, List.length_drop]; omega)) only [bin_seq, hte, hbb, go_sem, Nat.reduceAdd, Nat.reduceMul, Nat.reduceSub]
      all_goals with_reducible rfl
    case qbY4 =>
    refine xops_step base9 1 (s1 := ?sbY5) ?hbY5 ?qbY5
    case hbY5 =>
      simp (disch := first | decide | omega | (simp only [List.length_cons, List.length_nil, List.length_append, length_bvs, List.length_take, List.length_drop]; omega)) only [bin_seq, hte, hbb, go_sem, Nat.reduceAdd, Nat.reduceMul, Nat.reduceSub]
      all_goals with_reducible rfl
    case qbY5 =>
    refine xops_step base9 1 (s1 := ?sbY6) ?hbY6 ?qbY6
    case hbY6 =>
      simp (disch := first | decide | omega | (simp only [List.length_cons, List.length_nil, List.length_append, length_bvs, List.length_take, List.length_drop]; omega)) only [bin_seq, hte, hbb, go_sem, Nat.reduceAdd, Nat.reduceMul, Nat.reduceSub]
      all_goals with_reducible rfl
    case qbY6 =>
    refine xops_step base9 1 (s1 := ?sbY7) ?hbY7 ?qbY7
    case hbY7 =>
      simp (disch := first | decide | omega | (simp only [List.length_cons, List.length_nil, List.length_append, length_bvs, List.length_take, List.length_drop]; omega)) only [bin_seq, hte, hbb, go_sem, Nat.reduceAdd, Nat.reduceMul, Nat.reduceSub]
      all_goals with_reducible rfl
    case qbY7 =>
    refine xops_step base9 1 (s1 := ?sbY8) ?hbY8 ?qbY8
    case hbY8 =>
      simp (disch := first | decide | omega | (simp only [List.length_cons, List.length_nil, List.length_append, length_bvs, List.length_take, List.length_drop]; omega)) only [bin_seq, hte, hbb, go_sem, Nat.reduceAdd, Nat.reduceMul, Nat.reduceSub]
      all_goals with_reducible rfl
    case qbY8 =>
    refine xops_step base9 1 (s1 := ?sbY9) ?hbY9 ?qbY9
    case hbY9 =>
      simp (disch := first | decide | omega | (simp only [List.length_cons, List.length_nil, List.length_append, length_bvs, List.length_take, List.length_drop]; omega)) only [bin_seq, hte, hbb, go_sem, Nat.reduceAdd, Nat.reduceMul, Nat.reduceSub]
      all_goals with_reducible rfl
    case qbY9 =>
    refine xops_step base9 1 (s1 := ?sbY10) ?hbY10 ?qbY10
    case hbY10 =>
      simp (disch := first | decide | omega | (simp only [List.length_cons, List.length_nil, List.length_append, length_bvs, List.length_take, List.length_drop]; omega)) only [bin_seq, hte, hbb, go_sem, Nat.reduceAdd, Nat.reduceMul, Nat.reduceSub]
      all_goals with_reducible rfl
    case qbY10 =>
    refine xops_step base9 1 (s1 := ?sbY11) ?hbY11 ?qbY11
    case hbY11 =>
      simp (disch := first | decide | omega | (simp only [List.length_cons, List.length_nil, List.length_append, length_bvs, List.length_take, List.length_drop]; omega)) only [bin_seq, hte, hbb, go_sem, Nat.reduceAdd, Nat.reduceMul, Nat.reduceSub]
      all_goals with_reducible rfl
    case qbY11 =>
    refine xops_nil ?_
    refine xwp_ret ?_
    refine ⟨_, ?e27, ?W27, rfl, ?h27, ?q27⟩
    case h27 =>
      simp (disch := first | decide | omega | (simp only [List.length_cons, List.length_nil, List.length_append, length_bvs, List.length_take, List.length_drop]; omega)) only [Tryz.results3, go_sem, Nat.reduceAdd, Nat.reduceMul, Nat.reduceSub]
      all_goals with_reducible rfl
    case q27 =>
    rfl
end Go.Proofs.YthlkgmdkabelpaaGreat.X
