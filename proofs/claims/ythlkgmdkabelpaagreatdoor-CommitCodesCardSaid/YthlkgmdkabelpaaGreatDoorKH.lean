/-
  Commits encoded: Encode itself.
  Commits: what is encoded is decoded again. Plain: no program.
  No condition.
-/
import Derived.Test.YthlkgmdkabelpaaGreatDoorKG
set_option linter.all false
set_option linter.unusedVariables false
set_option linter.unusedSimpArgs false
namespace Go.Proofs.YthlkgmdkabelpaaGreatDoor.X
open Go Go.RowKit
theorem go_wt {p : PW} {xs : List Value} {l l' : List UInt8} {v : Value} {L : List (Nat × Option XObj)} {N b nl : Nat} {lg : List Nat} (h1 : 1 < N) (hN : b < N) (k1 : lk L 1 = some (wob 1 b l)) (k2 : lk L b = some (rowW l)) (hb : (Nat.ble N 1000 && !(Nat.beq 1 b)) = true) (hp : p xs l = some (v, l')) :
    wtH p (.pointer (some ⟨1, 0, none⟩) :: xs) (wd L N lg nl) = some (.ret v, wd ((1, some (wob 1 N l')) :: (N, some (rowW l')) :: (b, none) :: L) (N + 1) (1 :: b :: lg) (nl + 1 + 1)) := by
  simp only [Bool.and_eq_true, Bool.not_eq_true'] at hb
  have hN2 := Nat.le_of_ble_eq_true hb.1
  rw [wtH_go (w := 1) (b := b) (l := l) (by rw [wd_get h1 (by omega)]; exact k1) (by rw [wd_get hN (by omega)]; exact k2) (beq_ne hb.2) hp]
  rfl
theorem go_ws {vs : List Int} {l l' : List UInt8} {v : Value} {L : List (Nat × Option XObj)} {N b r m cp : Nat} {t : TypeId} (h1 : 1 < N) (hN : b < N ∧ r < N) (hb : (Nat.ble N 1000 && !(Nat.beq 1 b) && !(Nat.beq r 1) && !(Nat.beq r b)) = true) (k1 : lk L 1 = some (wob 1 b l)) (k2 : lk L b = some (rowW l)) (k3 : lk L r = some (.cells (ints vs) t (0, 0))) (hm : m ≤ cp) (hp : pWC (ints vs) m l = some (v, l')) :
    wsH pWC [.pointer (some ⟨1, 0, none⟩), .slice (some ⟨r, 0, none⟩) m cp] (wd L N [] 0) = some (.ret v, wd ((1, some (wob 1 N l')) :: (N, some (rowW l')) :: (b, none) :: (r, none) :: L) (N + 1) (1 :: b :: r :: []) (0 + 1 + 1 + 1)) := by
  simp only [Bool.and_eq_true, Bool.not_eq_true'] at hb
  obtain ⟨⟨⟨q1, q2⟩, q3⟩, q4⟩ := hb
  have hN2 := Nat.le_of_ble_eq_true q1
  rw [wsH_go (w := 1) (b := b) (r := r) (l := l) (by rw [wd_get h1 (by omega)]; exact k1) (by rw [wd_get hN.1 (by omega)]; exact k2) (by rw [wd_get hN.2 (by omega)]; exact k3) (beq_ne q2) (beq_ne q3) (beq_ne q4) hm hp]
  rfl
theorem wtH_no {p : PW} {xs : List Value} {l : List UInt8} {W : XW} {w b : Nat} (hw : W.get w = some (wob w b l)) (hb : W.get b = some (rowW l)) (hwb : w ≠ b) (hp : p xs l = none) : wtH p (.pointer (some ⟨w, 0, none⟩) :: xs) W = none := by
  show wtO p xs W w (W.get w) = _
  rw [hw]
  show (bif Nat.beq 78 78 && Nat.beq w w && Nat.beq openCap openCap && !(Nat.beq w b) then wtR p xs W w b l.length (W.get b) else none) = _
  rw [Nat.beq_refl, Nat.beq_refl, Nat.beq_refl, beqF hwb, hb]
  show (bif Nat.beq 5 5 then wtL p xs W w b l.length (bytesOf (bvs l)) else none) = _
  rw [Nat.beq_refl, bytesOf_bvs]
  show (bif Nat.beq l.length l.length then wtK W w b (p xs l) else none) = _
  rw [Nat.beq_refl, hp]
  rfl
theorem wqH_go {p : PQ} {xs : List Value} {l : List UInt8} {v : Value} {W : XW} {w b : Nat} (hw : W.get w = some (wob w b l)) (hb : W.get b = some (rowW l)) (hwb : w ≠ b) (hp : p xs l = some v) : wqH p (.pointer (some ⟨w, 0, none⟩) :: xs) W = some (.ret v, W) := by
  show wqO p xs W w (W.get w) = _
  rw [hw]
  show (bif Nat.beq 78 78 && Nat.beq w w && Nat.beq openCap openCap && !(Nat.beq w b) then wqR p xs W w b l.length (W.get b) else none) = _
  rw [Nat.beq_refl, Nat.beq_refl, Nat.beq_refl, beqF hwb, hb]
  show (bif Nat.beq 5 5 then wqL p xs W w b l.length (bytesOf (bvs l)) else none) = _
  rw [Nat.beq_refl, bytesOf_bvs]
  show (bif Nat.beq l.length l.length then wqK W (p xs l) else none) = _
  rw [Nat.beq_refl, hp]
  rfl
theorem wkH_go {p : PQ} {xs : List Value} {l : List UInt8} {v : Value} {W : XW} {w b : Nat} (hw : W.get w = some (wob w b l)) (hb : W.get b = some (rowW l)) (hwb : w ≠ b) (hp : p xs l = some v) : wkH p (.pointer (some ⟨w, 0, none⟩) :: xs) W = some (.ret v, (W.put w none).put b none) := by
  show wkO p xs W w (W.get w) = _
  rw [hw]
  show (bif Nat.beq 78 78 && Nat.beq w w && Nat.beq openCap openCap && !(Nat.beq w b) then wkR p xs W w b l.length (W.get b) else none) = _
  rw [Nat.beq_refl, Nat.beq_refl, Nat.beq_refl, beqF hwb, hb]
  show (bif Nat.beq 5 5 then wkL p xs W w b l.length (bytesOf (bvs l)) else none) = _
  rw [Nat.beq_refl, bytesOf_bvs]
  show (bif Nat.beq l.length l.length then wkK W w b (p xs l) else none) = _
  rw [Nat.beq_refl, hp]
  rfl
section
variable {l l' : List UInt8} {v : Value} {L : List (Nat × Option XObj)} {N b nl : Nat} {lg : List Nat}
theorem go_ws1 {m : List UInt8} (h1 : 1 < N) (hN : b < N) (k1 : lk L 1 = some (wob 1 b l)) (k2 : lk L b = some (rowW l)) (hb : (Nat.ble N 1000 && !(Nat.beq 1 b)) = true) (hp : pWS [.string (str m)] l = some (v, l')) :
    orH (wtH pWS) (wqH pWS0) [.pointer (some ⟨1, 0, none⟩), .string (str m)] (wd L N lg nl) = some (.ret v, wd ((1, some (wob 1 N l')) :: (N, some (rowW l')) :: (b, none) :: L) (N + 1) (1 :: b :: lg) (nl + 1 + 1)) := by
  unfold orH
  rw [go_wt h1 hN k1 k2 hb hp]; rfl
theorem go_ws0 {m : List UInt8} (hm : m = []) (h1 : 1 < N) (hN : b < N) (k1 : lk L 1 = some (wob 1 b l)) (k2 : lk L b = some (rowW l)) (hb : (Nat.ble N 1000 && !(Nat.beq 1 b)) = true) (hp : pWS0 [.string (str [])] l = some v) :
    orH (wtH pWS) (wqH pWS0) [.pointer (some ⟨1, 0, none⟩), .string (str m)] (wd L N lg nl) = some (.ret v, wd L N lg nl) := by
  subst hm
  simp only [Bool.and_eq_true, Bool.not_eq_true'] at hb
  have hN2 := Nat.le_of_ble_eq_true hb.1
  have g1 : (wd L N lg nl).get 1 = some (wob 1 b l) := by rw [wd_get h1 (by omega)]; exact k1
  have g2 : (wd L N lg nl).get b = some (rowW l) := by rw [wd_get hN (by omega)]; exact k2
  unfold orH
  rw [wtH_no g1 g2 (beq_ne hb.2) (show pWS [.string (str [])] l = none from rfl), wqH_go g1 g2 (beq_ne hb.2) hp]
  rfl
theorem go_str (h1 : 1 < N) (hN : b < N) (k1 : lk L 1 = some (wob 1 b l)) (k2 : lk L b = some (rowW l)) (hb : (Nat.ble N 1000 && !(Nat.beq 1 b)) = true) (hp : pStr [] l = some v) :
    wkH pStr [.pointer (some ⟨1, 0, none⟩)] (wd L N lg nl) = some (.ret v, wd ((b, none) :: (1, none) :: L) N (b :: 1 :: lg) (nl + 1 + 1)) := by
  simp only [Bool.and_eq_true, Bool.not_eq_true'] at hb
  have hN2 := Nat.le_of_ble_eq_true hb.1
  rw [wkH_go (w := 1) (b := b) (l := l) (by rw [wd_get h1 (by omega)]; exact k1) (by rw [wd_get hN (by omega)]; exact k2) (beq_ne hb.2) hp]
  rfl
end
theorem go_we {n N nl : Nat} {L : List (Nat × Option XObj)} {lg : List Nat} (h1 : (Nat.ble N 1000 && Nat.blt 1 N) = true) (k1 : lk L 1 = some wob0) (hn : n < 256) :
    orH (wtH pWB) weH [.pointer (some ⟨1, 0, none⟩), .int .u8 (n : Int)] (wd L N lg nl) = some (.ret .nilIface, wd ((1, some (wob 1 N [UInt8.ofNat n])) :: (N, some (rowW [UInt8.ofNat n])) :: L) (N + 1) (1 :: lg) (nl + 1)) := by
  simp only [Bool.and_eq_true] at h1
  have hN2 := Nat.le_of_ble_eq_true h1.1
  have hN1 : 1 < N := Nat.le_of_ble_eq_true h1.2
  have g1 : (wd L N lg nl).get 1 = some wob0 := by rw [wd_get hN1 (by omega)]; exact k1
  have e1 : wtH pWB [.pointer (some ⟨1, 0, none⟩), .int .u8 (n : Int)] (wd L N lg nl) = none := by
    show wtO pWB _ _ 1 ((wd L N lg nl).get 1) = _
    rw [g1]; rfl
  unfold orH
  rw [e1, weH_go g1 hn]
  rfl
theorem pWC_to {vs : List Int} {l m : List UInt8} (ha : ∀ a ∈ vs, I64 a) (hn : vs.length ≤ 100) (hv : vs ≠ []) (hl : l.length < 800000000000) (hm : l ++ vs.flatMap cU = m) : pWC (ints vs) vs.length l = some (.tuple #[], m) := by
  rw [← hm]; exact pWC_eq ha hn hv hl
noncomputable def T29 (c : CommitL) : List (FuncId × HF) := [(24, pureH (pOne [.agg (encC c).toArray] (.bool (decide (canE c))))), (25, orH (wtH pWB) weH), (26, wtH pWM), (27, wtH pWH), (28, wsH pWC), (29, orH (wtH pWS) (wqH pWS0)), (30, wkH pStr)]
theorem base29' (c : CommitL) (hc : OkC c) : Base Tryz.prog (hooksOf (T29 c) []) := ⟨mixed, hooksOf_sim (.cons _ _ _ (okOne (enters_of (by kernel_rfl)) (bares_cons (bare_agg (bares_encC c)) bares_nil) (bare_flat 1 rfl) (encodesLocal c hc)) (.cons _ _ _ okWB (.cons _ _ _ okWM (.cons _ _ _ okWH (.cons _ _ _ okWC (.cons _ _ _ okWS (.cons _ _ _ okStr .nil))))))) .nil⟩
set_option maxHeartbeats 4000000 in
theorem encodeLocal (c : CommitL) (hc : OkC c) (hr : ∀ x ∈ c.edits, RgE x) : Local Tryz.prog 7 [.agg (encC c).toArray] (wd [] 0 [] 0) fun e W' => e = .ret (.string (str (encR c))) := by
  have base29 := base29' c hc
  refine lit_local base29 Tryz.func7 rfl (Nat.le_of_ble_eq_true rfl) ?_
  simp only [frOfL.eq_1, frOfL.eq_2, wd_next, Tryz.ntmps7, Nat.reduceAdd, encC]
  have htr := hc.t
  unfold encR
  refine xwp_seq (xwp_region (e := ?e1) (s' := ?s1) base29 ?h1 ?q1)
  case h1 =>
    simp (disch := first | decide | omega | (simp only [List.length_cons, List.length_nil, List.length_append, length_bvs, List.length_take, List.length_drop]; omega)) only [go_sem, Nat.reduceAdd, Nat.reduceMul, Nat.reduceSub]
    all_goals with_reducible rfl
  case q1 =>
  refine xwp_seq ?_
  refine xwp_seq (xwp_region (e := ?e2) (s' := ?s2) base29 ?h2 ?q2)
  case h2 =>
    simp (disch := first | decide | omega | (simp only [List.length_cons, List.length_nil, List.length_append, length_bvs, List.length_take, List.length_drop]; omega)) only [T29, encC, pureH_eq, pureK.eq_1, pOne_eq, one_gslV, htr, List.all_append, go_sem, Nat.reduceAdd, Nat.reduceMul, Nat.reduceSub]
    all_goals with_reducible rfl
  case q2 =>
  by_cases hcan : canE c
  case neg =>
    rw [decide_eq_false hcan, if_neg hcan]
    refine xwp_ct ?h3 ?q3
    case h3 =>
      simp (disch := first | decide | omega | (simp only [List.length_cons, List.length_nil, List.length_append, length_bvs, List.length_take, List.length_drop]; omega)) only [go_sem, Nat.reduceAdd, Nat.reduceMul, Nat.reduceSub]
      all_goals with_reducible rfl
    case q3 =>
    refine xwp_seq (xwp_region (e := ?e4) (s' := ?s4) base29 ?h4 ?q4)
    case h4 =>
      simp (disch := first | decide | omega | (simp only [List.length_cons, List.length_nil, List.length_append, length_bvs, List.length_take, List.length_drop]; omega)) only [go_sem, Nat.reduceAdd, Nat.reduceMul, Nat.reduceSub]
      all_goals with_reducible rfl
    case q4 =>
    refine xwp_ret ?_
    refine ⟨_, ?e5, ?W5, rfl, ?h5, ?q5⟩
    case h5 =>
      simp (disch := first | decide | omega | (simp only [List.length_cons, List.length_nil, List.length_append, length_bvs, List.length_take, List.length_drop]; omega)) only [Tryz.results7, go_sem, Nat.reduceAdd, Nat.reduceMul, Nat.reduceSub]
      all_goals with_reducible rfl
    case q5 =>
    rfl
  rw [decide_eq_true hcan, if_pos hcan]
  obtain ⟨h8, htx⟩ := hcan
  refine xwp_cf ?h6 ?q6
  case h6 =>
    simp (disch := first | decide | omega | (simp only [List.length_cons, List.length_nil, List.length_append, length_bvs, List.length_take, List.length_drop]; omega)) only [go_sem, Nat.reduceAdd, Nat.reduceMul, Nat.reduceSub]
    all_goals with_reducible rfl
  case q6 =>
  refine xwp_skip ?_
  have hnp := hc.np
  have hne := hc.ne
  refine xwp_seq (xwp_region (e := ?e7) (s' := ?s7) base29 ?h7 ?q7)
  case h7 =>
    simp (disch := first | decide | omega | (simp only [List.length_cons, List.length_nil, List.length_append, length_bvs, List.length_take, List.length_drop]; omega)) only [go_sem, Nat.reduceAdd, Nat.reduceMul, Nat.reduceSub]
    all_goals with_reducible rfl
  case q7 =>
  refine xwp_le (s' := ⟨frm [(1, some (.pointer (some ⟨0, 0, none⟩))), (3, some (.pointer (some ⟨1, 0, none⟩)))], wd [(0, some (.cells (gslV (rowB c.parents) c.parents.length :: gslV (rowE c.edits) c.edits.length :: (bvs c.tree ++ [.string (str c.text)])) 34 (0, 0))), (1, some wob0)] 2 [] 0, []⟩) (chle_lit (by simp (disch := decide) [AllLk, lk_hit, lk_miss, lk_nil]) (by simp (disch := decide) [AllLk, lk_hit, lk_miss, lk_nil, wob0]) (by decide)) ?_
  have hgo : orH (wtH pWB) weH [.pointer (some ⟨1, 0, none⟩), .int .u8 ((3 : Nat) : Int)] (wd [(0, some (.cells (gslV (rowB c.parents) c.parents.length :: gslV (rowE c.edits) c.edits.length :: (bvs c.tree ++ [.string (str c.text)])) 34 (0, 0))), (1, some wob0)] 2 [] 0) = some (.ret .nilIface, wd ((1, some (wob 1 2 [3])) :: (2, some (rowW [3])) :: [(0, some (.cells (gslV (rowB c.parents) c.parents.length :: gslV (rowE c.edits) c.edits.length :: (bvs c.tree ++ [.string (str c.text)])) 34 (0, 0))), (1, some wob0)]) 3 [1] 1) := go_we (n := 3) (by decide) (by simp (disch := first | decide | omega) only [lk_hit, lk_miss]) (by decide)
  refine xwp_seq (xwp_region (e := ?e8) (s' := ?s8) base29 ?h8 ?q8)
  case h8 =>
    simp (disch := first | decide | omega | (simp only [List.length_cons, List.length_nil, List.length_append, length_bvs, List.length_take, List.length_drop]; omega)) only [T29, hgo, go_sem, Nat.reduceAdd, Nat.reduceMul, Nat.reduceSub]
    all_goals with_reducible rfl
  case q8 =>
  refine xwp_le (s' := ⟨frm [(1, some (.pointer (some ⟨0, 0, none⟩))), (3, some (.pointer (some ⟨1, 0, none⟩)))], wd [(0, some (.cells (gslV (rowB c.parents) c.parents.length :: gslV (rowE c.edits) c.edits.length :: (bvs c.tree ++ [.string (str c.text)])) 34 (0, 0))), (1, some (wob 1 2 ([3]))), (2, some (rowW ([3])))] 3 [] 0, []⟩) (chle_lit (by simp (disch := decide) [AllLk, lk_hit, lk_miss, lk_nil]) (by simp (disch := decide) [AllLk, lk_hit, lk_miss, lk_nil]) (by decide)) ?_
  have hgo5 : wtH pWM [.pointer (some ⟨1, 0, none⟩), .int .i64 (c.parents.length : Int)] (wd [(0, some (.cells (gslV (rowB c.parents) c.parents.length :: gslV (rowE c.edits) c.edits.length :: (bvs c.tree ++ [.string (str c.text)])) 34 (0, 0))), (1, some (wob 1 2 ([3]))), (2, some (rowW ([3])))] 3 [] 0) = some (.ret (.tuple #[]), wd ((1, some (wob 1 3 (3 :: dU c.parents.length))) :: (3, some (rowW (3 :: dU c.parents.length))) :: (2, none) :: [(0, some (.cells (gslV (rowB c.parents) c.parents.length :: gslV (rowE c.edits) c.edits.length :: (bvs c.tree ++ [.string (str c.text)])) 34 (0, 0))), (1, some (wob 1 2 ([3]))), (2, some (rowW ([3])))]) (3 + 1) (1 :: 2 :: []) (0 + 1 + 1)) := go_wt (l := [3]) (by decide) (by decide) (by simp (disch := first | decide | omega) only [lk_hit, lk_miss]) (by simp (disch := first | decide | omega) only [lk_hit, lk_miss]) (by decide) (pWM_eq (by omega) (by decide))
  refine xwp_seq (xwp_region (e := ?e9) (s' := ?s9) base29 ?h9 ?q9)
  case h9 =>
    simp (disch := first | decide | omega | (simp only [List.length_cons, List.length_nil, List.length_append, length_bvs, List.length_take, List.length_drop]; omega)) only [T29, lenB_gslV, hgo5, go_sem, Nat.reduceAdd, Nat.reduceMul, Nat.reduceSub]
    all_goals with_reducible rfl
  case q9 =>
  refine xwp_le (s' := ⟨frm [(1, some (.pointer (some ⟨0, 0, none⟩))), (3, some (.pointer (some ⟨1, 0, none⟩)))], wd [(0, some (.cells (gslV (rowB c.parents) c.parents.length :: gslV (rowE c.edits) c.edits.length :: (bvs c.tree ++ [.string (str c.text)])) 34 (0, 0))), (1, some (wob 1 2 (3 :: dU c.parents.length))), (2, some (rowW (3 :: dU c.parents.length)))] 3 [] 0, []⟩) (chle_ren_lit [(0, some 0), (1, some 1), (3, some 2)] [(0, some 0), (1, some 1), (2, some 3)] (by decide) (by decide) (by decide) (allTv_cons (v := .pointer (some ⟨0, 0, none⟩)) (by decide) (by simp (disch := first | decide | omega) only [lk_hit, lk_miss]) (tv_ptr (by simp (disch := first | decide | omega) only [lk_hit, lk_miss])) (allTv_cons (v := .pointer (some ⟨1, 0, none⟩)) (by decide) (by simp (disch := first | decide | omega) only [lk_hit, lk_miss]) (tv_ptr (by simp (disch := first | decide | omega) only [lk_hit, lk_miss])) allTv_nil)) (allTo_cons (o := .cells (gslV (rowB c.parents) c.parents.length :: gslV (rowE c.edits) c.edits.length :: (bvs c.tree ++ [.string (str c.text)])) 34 (0, 0)) 0 (by simp (disch := first | decide | omega) only [lk_hit, lk_miss]) (by decide) (by decide) (by simp (disch := first | decide | omega) only [lk_hit, lk_miss]) (to_bareO names_fz (bareO_bares (bares_encC c))) (allTo_cons (o := wob 1 3 (3 :: dU c.parents.length)) 1 (by simp (disch := first | decide | omega) only [lk_hit, lk_miss]) (by decide) (by decide) (by simp (disch := first | decide | omega) only [lk_hit, lk_miss]) (to_tvs (tvs_cons (tv_ptr (by simp (disch := first | decide | omega) only [lk_hit, lk_miss])) (tvs_cons (tv_slice (by simp (disch := first | decide | omega) only [lk_hit, lk_miss])) tvs_nil))) (allTo_cons (o := rowW (3 :: dU c.parents.length)) 3 (by simp (disch := first | decide | omega) only [lk_hit, lk_miss]) (by decide) (by decide) (by simp (disch := first | decide | omega) only [lk_hit, lk_miss]) (bareO_rowW _ names_fz) allTo_nil))) .nil) ?_
  refine xwp_seq ?_
  refine xwp_seq (xwp_region (e := ?e10) (s' := ?s10) base29 ?h10 ?q10)
  case h10 =>
    simp (disch := first | decide | omega | (simp only [List.length_cons, List.length_nil, List.length_append, length_bvs, List.length_take, List.length_drop]; omega)) only [lenB_gslV, go_sem, Nat.reduceAdd, Nat.reduceMul, Nat.reduceSub]
    all_goals with_reducible rfl
  case q10 =>
  refine xwp_block ?_
  refine xwp_le (s' := ⟨frm [(1, some (.pointer (some ⟨0, 0, none⟩))), (3, some (.pointer (some ⟨1, 0, none⟩))), (27, some (gslV (rowB c.parents) c.parents.length)), (28, some (.int .i64 (c.parents.length : Int))), (29, some (.int .i64 ((0 : Nat) : Int)))], wd [(0, some (.cells (gslV (rowB c.parents) c.parents.length :: gslV (rowE c.edits) c.edits.length :: (bvs c.tree ++ [.string (str c.text)])) 34 (0, 0))), (1, some (wob 1 2 (3 :: dU c.parents.length))), (2, some (rowW (3 :: dU c.parents.length)))] 3 [] 0, []⟩) (chle_lit (by simp (disch := decide) [AllLk, lk_hit, lk_miss, lk_nil]) (by simp (disch := decide) [AllLk, lk_hit, lk_miss, lk_nil]) (by decide)) ?_
  refine xwp_loop (α := AccS id c.parents (3 :: dU c.parents.length)) (fun x => ⟨frm [(1, some (.pointer (some ⟨0, 0, none⟩))), (3, some (.pointer (some ⟨1, 0, none⟩))), (27, some (gslV (rowB c.parents) c.parents.length)), (28, some (.int .i64 (c.parents.length : Int))), (29, some (.int .i64 (x.i : Int)))], wd [(0, some (.cells (gslV (rowB c.parents) c.parents.length :: gslV (rowE c.edits) c.edits.length :: (bvs c.tree ++ [.string (str c.text)])) 34 (0, 0))), (1, some (wob 1 2 (x.acc))), (2, some (rowW (x.acc)))] 3 [] 0, []⟩) (fun x => c.parents.length - x.i) ?_ ⟨0, 3 :: dU c.parents.length, Nat.zero_le _, by simp⟩
  intro ⟨i, acc, hi, heq⟩
  simp only
  have hd1 : (dU c.parents.length).length ≤ 10 := dU_len10 (by omega)
  have hal := AccS.len (m := 32) heq fun x hx => by rw [id, hc.p x hx]; exact Nat.le_refl _
  rw [List.length_cons] at hal
  have hal : acc.length ≤ 40000 := by omega
  by_cases hlt : i < c.parents.length
  · refine xwp_seq (xwp_region (e := ?e11) (s' := ?s11) base29 ?h11 ?q11)
    case h11 =>
      simp (disch := first | decide | omega | (simp only [List.length_cons, List.length_nil, List.length_append, length_bvs, List.length_take, List.length_drop]; omega)) only [go_sem, Nat.reduceAdd, Nat.reduceMul, Nat.reduceSub]
      all_goals with_reducible rfl
    case q11 =>
    refine xwp_seq (xwp_ct ?h12 ?q12)
    case h12 =>
      simp (disch := first | decide | omega | (simp only [List.length_cons, List.length_nil, List.length_append, length_bvs, List.length_take, List.length_drop]; omega)) only [go_sem, Nat.reduceAdd, Nat.reduceMul, Nat.reduceSub]
      all_goals with_reducible rfl
    case q12 =>
    refine xwp_skip ?_
    refine xwp_seq (xwp_block ?_)
    have hh : (c.parents[i]).length = 32 := hc.p _ (List.getElem_mem hlt)
    have hrow := rowB_at hc.p hlt
    obtain ⟨h, hhe⟩ : ∃ h, h = c.parents[i] := ⟨_, rfl⟩
    rw [← hhe] at hrow hh
    refine xwp_seq (xwp_region (e := ?e13) (s' := ?s13) base29 ?h13 ?q13)
    case h13 =>
      simp (disch := first | decide | omega | (simp only [List.length_cons, List.length_nil, List.length_append, length_bvs, List.length_take, List.length_drop]; omega)) only [iad_gslV hlt, iadZ.eq_1, load_FP, hrow, hh, List.drop_eq_nil_of_le, go_sem, Nat.reduceAdd, Nat.reduceMul, Nat.reduceSub]
      all_goals with_reducible rfl
    case q13 =>
    refine xwp_le (s' := ⟨frm [(1, some (.pointer (some ⟨0, 0, none⟩))), (3, some (.pointer (some ⟨1, 0, none⟩))), (27, some (gslV (rowB c.parents) c.parents.length)), (28, some (.int .i64 (c.parents.length : Int))), (29, some (.int .i64 (i : Int))), (5, some (.pointer (some ⟨3, 0, none⟩)))], wd ((3, some (.cells (bvs h) 32 (0, 0))) :: [(0, some (.cells (gslV (rowB c.parents) c.parents.length :: gslV (rowE c.edits) c.edits.length :: (bvs c.tree ++ [.string (str c.text)])) 34 (0, 0))), (1, some (wob 1 2 (acc))), (2, some (rowW (acc)))]) 4 [] 0, []⟩) (chle_lit (by simp (disch := decide) [AllLk, lk_hit, lk_miss, lk_nil]) (by simp (disch := decide) [AllLk, lk_hit, lk_miss, lk_nil]) (by decide)) ?_
    have hgo9 : wtH pWH [.pointer (some ⟨1, 0, none⟩), .agg (bvs h).toArray] (wd ((3, some (.cells (bvs h) 32 (0, 0))) :: [(0, some (.cells (gslV (rowB c.parents) c.parents.length :: gslV (rowE c.edits) c.edits.length :: (bvs c.tree ++ [.string (str c.text)])) 34 (0, 0))), (1, some (wob 1 2 (acc))), (2, some (rowW (acc)))]) 4 [] 0) = some (.ret (.tuple #[]), wd ((1, some (wob 1 4 (acc ++ h))) :: (4, some (rowW (acc ++ h))) :: (2, none) :: ((3, some (.cells (bvs h) 32 (0, 0))) :: [(0, some (.cells (gslV (rowB c.parents) c.parents.length :: gslV (rowE c.edits) c.edits.length :: (bvs c.tree ++ [.string (str c.text)])) 34 (0, 0))), (1, some (wob 1 2 (acc))), (2, some (rowW (acc)))])) (4 + 1) (1 :: 2 :: []) (0 + 1 + 1)) := go_wt (l := acc) (by decide) (by decide) (by simp (disch := first | decide | omega) only [lk_hit, lk_miss]) (by simp (disch := first | decide | omega) only [lk_hit, lk_miss]) (by decide) (pWH_eq hh (by omega))
    refine xwp_region (e := ?e14) (s' := ?s14) base29 ?h14 ?q14
    case h14 =>
      simp (disch := first | decide | omega | (simp only [List.length_cons, List.length_nil, List.length_append, length_bvs, List.length_take, List.length_drop]; omega)) only [T29, hh, hgo9, go_sem, Nat.reduceAdd, Nat.reduceMul, Nat.reduceSub]
      all_goals with_reducible rfl
    case q14 =>
    show XWp _ _ _ _ _ _
    refine xwp_region (e := ?e15) (s' := ?s15) base29 ?h15 ?q15
    case h15 =>
      simp (disch := first | decide | omega | (simp only [List.length_cons, List.length_nil, List.length_append, length_bvs, List.length_take, List.length_drop]; omega)) only [go_sem, Nat.reduceAdd, Nat.reduceMul, Nat.reduceSub]
      all_goals with_reducible rfl
    case q15 =>
    refine ⟨⟨i + 1, acc ++ h, hlt, by rw [heq, List.append_assoc, hhe]; exact congrArg _ (flat_take (f := id) hlt)⟩, by simp only; omega, ?_⟩
    exact chle_ren_lit [(0, some 0), (1, some 1), (4, some 2)] [(0, some 0), (1, some 1), (2, some 4)] (by decide) (by decide) (by decide) (allTv_cons (v := .pointer (some ⟨0, 0, none⟩)) (by decide) (by simp (disch := first | decide | omega) only [lk_hit, lk_miss]) (tv_ptr (by simp (disch := first | decide | omega) only [lk_hit, lk_miss])) (allTv_cons (v := .pointer (some ⟨1, 0, none⟩)) (by decide) (by simp (disch := first | decide | omega) only [lk_hit, lk_miss]) (tv_ptr (by simp (disch := first | decide | omega) only [lk_hit, lk_miss])) (allTv_cons (v := gslV (rowB c.parents) c.parents.length) (by decide) (by simp (disch := first | decide | omega) only [lk_hit, lk_miss]) (bare_gslV (bares_rowB _) _ _ names_fz) (allTv_cons (v := .int .i64 (c.parents.length : Int)) (by decide) (by simp (disch := first | decide | omega) only [lk_hit, lk_miss]) (tv_flat 1 rfl) (allTv_cons (v := .int .i64 ((i + 1 : Nat) : Int)) (by decide) (by simp (disch := first | decide | omega) only [lk_hit, lk_miss]) (tv_flat 1 rfl) allTv_nil))))) (allTo_cons (o := .cells (gslV (rowB c.parents) c.parents.length :: gslV (rowE c.edits) c.edits.length :: (bvs c.tree ++ [.string (str c.text)])) 34 (0, 0)) 0 (by simp (disch := first | decide | omega) only [lk_hit, lk_miss]) (by decide) (by decide) (by simp (disch := first | decide | omega) only [lk_hit, lk_miss]) (to_bareO names_fz (bareO_bares (bares_encC c))) (allTo_cons (o := wob 1 4 (acc ++ h)) 1 (by simp (disch := first | decide | omega) only [lk_hit, lk_miss]) (by decide) (by decide) (by simp (disch := first | decide | omega) only [lk_hit, lk_miss]) (to_tvs (tvs_cons (tv_ptr (by simp (disch := first | decide | omega) only [lk_hit, lk_miss])) (tvs_cons (tv_slice (by simp (disch := first | decide | omega) only [lk_hit, lk_miss])) tvs_nil))) (allTo_cons (o := rowW (acc ++ h)) 4 (by simp (disch := first | decide | omega) only [lk_hit, lk_miss]) (by decide) (by decide) (by simp (disch := first | decide | omega) only [lk_hit, lk_miss]) (bareO_rowW _ names_fz) allTo_nil))) .nil
  refine xwp_seq (xwp_region (e := ?e16) (s' := ?s16) base29 ?h16 ?q16)
  case h16 =>
    simp (disch := first | decide | omega | (simp only [List.length_cons, List.length_nil, List.length_append, length_bvs, List.length_take, List.length_drop]; omega)) only [go_sem, Nat.reduceAdd, Nat.reduceMul, Nat.reduceSub]
    all_goals with_reducible rfl
  case q16 =>
  refine xwp_seq (xwp_cf ?h17 ?q17)
  case h17 =>
    simp (disch := first | decide | omega | (simp only [List.length_cons, List.length_nil, List.length_append, length_bvs, List.length_take, List.length_drop]; omega)) only [go_sem, Nat.reduceAdd, Nat.reduceMul, Nat.reduceSub]
    all_goals with_reducible rfl
  case q17 =>
  refine xwp_exit ?_
  show XWp _ _ _ _ _ _
  have hin : i = c.parents.length := by omega
  rw [hin, List.take_length] at heq
  clear hlt hi hin
  refine xwp_le (s' := ⟨frm [(1, some (.pointer (some ⟨0, 0, none⟩))), (3, some (.pointer (some ⟨1, 0, none⟩)))], wd [(0, some (.cells (gslV (rowB c.parents) c.parents.length :: gslV (rowE c.edits) c.edits.length :: (bvs c.tree ++ [.string (str c.text)])) 34 (0, 0))), (1, some (wob 1 2 (acc))), (2, some (rowW (acc)))] 3 [] 0, []⟩) (chle_lit (by simp (disch := decide) [AllLk, lk_hit, lk_miss, lk_nil]) (by simp (disch := decide) [AllLk, lk_hit, lk_miss, lk_nil]) (by decide)) ?_
  have hgo11 : wtH pWM [.pointer (some ⟨1, 0, none⟩), .int .i64 (c.edits.length : Int)] (wd [(0, some (.cells (gslV (rowB c.parents) c.parents.length :: gslV (rowE c.edits) c.edits.length :: (bvs c.tree ++ [.string (str c.text)])) 34 (0, 0))), (1, some (wob 1 2 (acc))), (2, some (rowW (acc)))] 3 [] 0) = some (.ret (.tuple #[]), wd ((1, some (wob 1 3 (acc ++ dU c.edits.length))) :: (3, some (rowW (acc ++ dU c.edits.length))) :: (2, none) :: [(0, some (.cells (gslV (rowB c.parents) c.parents.length :: gslV (rowE c.edits) c.edits.length :: (bvs c.tree ++ [.string (str c.text)])) 34 (0, 0))), (1, some (wob 1 2 (acc))), (2, some (rowW (acc)))]) (3 + 1) (1 :: 2 :: []) (0 + 1 + 1)) := go_wt (l := acc) (by decide) (by decide) (by simp (disch := first | decide | omega) only [lk_hit, lk_miss]) (by simp (disch := first | decide | omega) only [lk_hit, lk_miss]) (by decide) (pWM_eq (by omega) (by omega))
  refine xwp_seq (xwp_region (e := ?e18) (s' := ?s18) base29 ?h18 ?q18)
  case h18 =>
    simp (disch := first | decide | omega | (simp only [List.length_cons, List.length_nil, List.length_append, length_bvs, List.length_take, List.length_drop]; omega)) only [T29, lenB_gslV, hgo11, go_sem, Nat.reduceAdd, Nat.reduceMul, Nat.reduceSub]
    all_goals with_reducible rfl
  case q18 =>
  have hd2 : (dU c.edits.length).length ≤ 10 := dU_len10 (by omega)
  obtain ⟨bs, hbs⟩ : ∃ bs, bs = acc ++ dU c.edits.length := ⟨_, rfl⟩
  have hbl : bs.length ≤ 41000 := by rw [hbs, List.length_append]; omega
  rw [← hbs]
  refine xwp_le (s' := ⟨frm [(1, some (.pointer (some ⟨0, 0, none⟩))), (3, some (.pointer (some ⟨1, 0, none⟩)))], wd [(0, some (.cells (gslV (rowB c.parents) c.parents.length :: gslV (rowE c.edits) c.edits.length :: (bvs c.tree ++ [.string (str c.text)])) 34 (0, 0))), (1, some (wob 1 2 (bs))), (2, some (rowW (bs)))] 3 [] 0, []⟩) (chle_ren_lit [(0, some 0), (1, some 1), (3, some 2)] [(0, some 0), (1, some 1), (2, some 3)] (by decide) (by decide) (by decide) (allTv_cons (v := .pointer (some ⟨0, 0, none⟩)) (by decide) (by simp (disch := first | decide | omega) only [lk_hit, lk_miss]) (tv_ptr (by simp (disch := first | decide | omega) only [lk_hit, lk_miss])) (allTv_cons (v := .pointer (some ⟨1, 0, none⟩)) (by decide) (by simp (disch := first | decide | omega) only [lk_hit, lk_miss]) (tv_ptr (by simp (disch := first | decide | omega) only [lk_hit, lk_miss])) allTv_nil)) (allTo_cons (o := .cells (gslV (rowB c.parents) c.parents.length :: gslV (rowE c.edits) c.edits.length :: (bvs c.tree ++ [.string (str c.text)])) 34 (0, 0)) 0 (by simp (disch := first | decide | omega) only [lk_hit, lk_miss]) (by decide) (by decide) (by simp (disch := first | decide | omega) only [lk_hit, lk_miss]) (to_bareO names_fz (bareO_bares (bares_encC c))) (allTo_cons (o := wob 1 3 (bs)) 1 (by simp (disch := first | decide | omega) only [lk_hit, lk_miss]) (by decide) (by decide) (by simp (disch := first | decide | omega) only [lk_hit, lk_miss]) (to_tvs (tvs_cons (tv_ptr (by simp (disch := first | decide | omega) only [lk_hit, lk_miss])) (tvs_cons (tv_slice (by simp (disch := first | decide | omega) only [lk_hit, lk_miss])) tvs_nil))) (allTo_cons (o := rowW (bs)) 3 (by simp (disch := first | decide | omega) only [lk_hit, lk_miss]) (by decide) (by decide) (by simp (disch := first | decide | omega) only [lk_hit, lk_miss]) (bareO_rowW _ names_fz) allTo_nil))) .nil) ?_
  refine xwp_seq ?_
  refine xwp_seq (xwp_region (e := ?e19) (s' := ?s19) base29 ?h19 ?q19)
  case h19 =>
    simp (disch := first | decide | omega | (simp only [List.length_cons, List.length_nil, List.length_append, length_bvs, List.length_take, List.length_drop]; omega)) only [lenB_gslV, go_sem, Nat.reduceAdd, Nat.reduceMul, Nat.reduceSub]
    all_goals with_reducible rfl
  case q19 =>
  refine xwp_block ?_
  refine xwp_le (s' := ⟨frm [(1, some (.pointer (some ⟨0, 0, none⟩))), (3, some (.pointer (some ⟨1, 0, none⟩))), (43, some (gslV (rowE c.edits) c.edits.length)), (44, some (.int .i64 (c.edits.length : Int))), (45, some (.int .i64 ((0 : Nat) : Int)))], wd [(0, some (.cells (gslV (rowB c.parents) c.parents.length :: gslV (rowE c.edits) c.edits.length :: (bvs c.tree ++ [.string (str c.text)])) 34 (0, 0))), (1, some (wob 1 2 (bs))), (2, some (rowW (bs)))] 3 [] 0, []⟩) (chle_lit (by simp (disch := decide) [AllLk, lk_hit, lk_miss, lk_nil]) (by simp (disch := decide) [AllLk, lk_hit, lk_miss, lk_nil]) (by decide)) ?_
  refine xwp_loop (α := AccS encEd c.edits bs) (fun x => ⟨frm [(1, some (.pointer (some ⟨0, 0, none⟩))), (3, some (.pointer (some ⟨1, 0, none⟩))), (43, some (gslV (rowE c.edits) c.edits.length)), (44, some (.int .i64 (c.edits.length : Int))), (45, some (.int .i64 (x.i : Int)))], wd [(0, some (.cells (gslV (rowB c.parents) c.parents.length :: gslV (rowE c.edits) c.edits.length :: (bvs c.tree ++ [.string (str c.text)])) 34 (0, 0))), (1, some (wob 1 2 (x.acc))), (2, some (rowW (x.acc)))] 3 [] 0, []⟩) (fun x => c.edits.length - x.i) ?_ ⟨0, bs, Nat.zero_le _, by simp⟩
  intro ⟨k, acc2, hk, heq2⟩
  simp only
  have hal2 := AccS.len (m := 200000) heq2 fun x hx => encEd_len (hc.e x hx) (hr x hx)
  have hb2 : acc2.length ≤ 200050000 := by omega
  by_cases hlt : k < c.edits.length
  case neg =>
    refine xwp_seq (xwp_region (e := ?e20) (s' := ?s20) base29 ?h20 ?q20)
    case h20 =>
      simp (disch := first | decide | omega | (simp only [List.length_cons, List.length_nil, List.length_append, length_bvs, List.length_take, List.length_drop]; omega)) only [go_sem, Nat.reduceAdd, Nat.reduceMul, Nat.reduceSub]
      all_goals with_reducible rfl
    case q20 =>
    refine xwp_seq (xwp_cf ?h21 ?q21)
    case h21 =>
      simp (disch := first | decide | omega | (simp only [List.length_cons, List.length_nil, List.length_append, length_bvs, List.length_take, List.length_drop]; omega)) only [go_sem, Nat.reduceAdd, Nat.reduceMul, Nat.reduceSub]
      all_goals with_reducible rfl
    case q21 =>
    refine xwp_exit ?_
    show XWp _ _ _ _ _ _
    have hin : k = c.edits.length := by omega
    rw [hin, List.take_length] at heq2
    have hfin : encB c = acc2 ++ c.tree ++ dU c.text.length ++ c.text := by rw [heq2, hbs, heq]; rfl
    refine xwp_le (s' := ⟨frm [(1, some (.pointer (some ⟨0, 0, none⟩))), (3, some (.pointer (some ⟨1, 0, none⟩)))], wd [(0, some (.cells (gslV (rowB c.parents) c.parents.length :: gslV (rowE c.edits) c.edits.length :: (bvs c.tree ++ [.string (str c.text)])) 34 (0, 0))), (1, some (wob 1 2 (acc2))), (2, some (rowW (acc2)))] 3 [] 0, []⟩) (chle_lit (by simp (disch := decide) [AllLk, lk_hit, lk_miss, lk_nil]) (by simp (disch := decide) [AllLk, lk_hit, lk_miss, lk_nil]) (by decide)) ?_
    have hgo29 : wtH pWH [.pointer (some ⟨1, 0, none⟩), .agg (bvs c.tree).toArray] (wd [(0, some (.cells (gslV (rowB c.parents) c.parents.length :: gslV (rowE c.edits) c.edits.length :: (bvs c.tree ++ [.string (str c.text)])) 34 (0, 0))), (1, some (wob 1 2 (acc2))), (2, some (rowW (acc2)))] 3 [] 0) = some (.ret (.tuple #[]), wd ((1, some (wob 1 3 (acc2 ++ c.tree))) :: (3, some (rowW (acc2 ++ c.tree))) :: (2, none) :: [(0, some (.cells (gslV (rowB c.parents) c.parents.length :: gslV (rowE c.edits) c.edits.length :: (bvs c.tree ++ [.string (str c.text)])) 34 (0, 0))), (1, some (wob 1 2 (acc2))), (2, some (rowW (acc2)))]) (3 + 1) (1 :: 2 :: []) (0 + 1 + 1)) := go_wt (l := acc2) (by decide) (by decide) (by simp (disch := first | decide | omega) only [lk_hit, lk_miss]) (by simp (disch := first | decide | omega) only [lk_hit, lk_miss]) (by decide) (pWH_eq htr (by omega))
    refine xwp_seq (xwp_region (e := ?e22) (s' := ?s22) base29 ?h22 ?q22)
    case h22 =>
      simp (disch := first | decide | omega | (simp only [List.length_cons, List.length_nil, List.length_append, length_bvs, List.length_take, List.length_drop]; omega)) only [T29, htr, tk32 htr, List.drop_eq_nil_of_le, hgo29, go_sem, Nat.reduceAdd, Nat.reduceMul, Nat.reduceSub]
      all_goals with_reducible rfl
    case q22 =>
    refine xwp_le (s' := ⟨frm [(1, some (.pointer (some ⟨0, 0, none⟩))), (3, some (.pointer (some ⟨1, 0, none⟩)))], wd [(0, some (.cells (gslV (rowB c.parents) c.parents.length :: gslV (rowE c.edits) c.edits.length :: (bvs c.tree ++ [.string (str c.text)])) 34 (0, 0))), (1, some (wob 1 2 (acc2 ++ c.tree))), (2, some (rowW (acc2 ++ c.tree)))] 3 [] 0, []⟩) (chle_ren_lit [(0, some 0), (1, some 1), (3, some 2)] [(0, some 0), (1, some 1), (2, some 3)] (by decide) (by decide) (by decide) (allTv_cons (v := .pointer (some ⟨0, 0, none⟩)) (by decide) (by simp (disch := first | decide | omega) only [lk_hit, lk_miss]) (tv_ptr (by simp (disch := first | decide | omega) only [lk_hit, lk_miss])) (allTv_cons (v := .pointer (some ⟨1, 0, none⟩)) (by decide) (by simp (disch := first | decide | omega) only [lk_hit, lk_miss]) (tv_ptr (by simp (disch := first | decide | omega) only [lk_hit, lk_miss])) allTv_nil)) (allTo_cons (o := .cells (gslV (rowB c.parents) c.parents.length :: gslV (rowE c.edits) c.edits.length :: (bvs c.tree ++ [.string (str c.text)])) 34 (0, 0)) 0 (by simp (disch := first | decide | omega) only [lk_hit, lk_miss]) (by decide) (by decide) (by simp (disch := first | decide | omega) only [lk_hit, lk_miss]) (to_bareO names_fz (bareO_bares (bares_encC c))) (allTo_cons (o := wob 1 3 (acc2 ++ c.tree)) 1 (by simp (disch := first | decide | omega) only [lk_hit, lk_miss]) (by decide) (by decide) (by simp (disch := first | decide | omega) only [lk_hit, lk_miss]) (to_tvs (tvs_cons (tv_ptr (by simp (disch := first | decide | omega) only [lk_hit, lk_miss])) (tvs_cons (tv_slice (by simp (disch := first | decide | omega) only [lk_hit, lk_miss])) tvs_nil))) (allTo_cons (o := rowW (acc2 ++ c.tree)) 3 (by simp (disch := first | decide | omega) only [lk_hit, lk_miss]) (by decide) (by decide) (by simp (disch := first | decide | omega) only [lk_hit, lk_miss]) (bareO_rowW _ names_fz) allTo_nil))) .nil) ?_
    have hl3 : (acc2 ++ c.tree).length ≤ 200060000 := by rw [List.length_append]; omega
    have hd3 : (dU c.text.length).length ≤ 10 := dU_len10 (by omega)
    have hgo30 : wtH pWM [.pointer (some ⟨1, 0, none⟩), .int .i64 (c.text.length : Int)] (wd [(0, some (.cells (gslV (rowB c.parents) c.parents.length :: gslV (rowE c.edits) c.edits.length :: (bvs c.tree ++ [.string (str c.text)])) 34 (0, 0))), (1, some (wob 1 2 (acc2 ++ c.tree))), (2, some (rowW (acc2 ++ c.tree)))] 3 [] 0) = some (.ret (.tuple #[]), wd ((1, some (wob 1 3 (acc2 ++ c.tree ++ dU c.text.length))) :: (3, some (rowW (acc2 ++ c.tree ++ dU c.text.length))) :: (2, none) :: [(0, some (.cells (gslV (rowB c.parents) c.parents.length :: gslV (rowE c.edits) c.edits.length :: (bvs c.tree ++ [.string (str c.text)])) 34 (0, 0))), (1, some (wob 1 2 (acc2 ++ c.tree))), (2, some (rowW (acc2 ++ c.tree)))]) (3 + 1) (1 :: 2 :: []) (0 + 1 + 1)) := go_wt (l := acc2 ++ c.tree) (by decide) (by decide) (by simp (disch := first | decide | omega) only [lk_hit, lk_miss]) (by simp (disch := first | decide | omega) only [lk_hit, lk_miss]) (by decide) (pWM_eq (by omega) (by omega))
    refine xwp_seq (xwp_region (e := ?e23) (s' := ?s23) base29 ?h23 ?q23)
    case h23 =>
      simp (disch := first | decide | omega | (simp only [List.length_cons, List.length_nil, List.length_append, length_bvs, List.length_take, List.length_drop]; omega)) only [T29, htr, at32 htr, List.drop_eq_nil_of_le, hgo30, go_sem, Nat.reduceAdd, Nat.reduceMul, Nat.reduceSub]
      all_goals with_reducible rfl
    case q23 =>
    refine xwp_le (s' := ⟨frm [(1, some (.pointer (some ⟨0, 0, none⟩))), (3, some (.pointer (some ⟨1, 0, none⟩)))], wd [(0, some (.cells (gslV (rowB c.parents) c.parents.length :: gslV (rowE c.edits) c.edits.length :: (bvs c.tree ++ [.string (str c.text)])) 34 (0, 0))), (1, some (wob 1 2 (acc2 ++ c.tree ++ dU c.text.length))), (2, some (rowW (acc2 ++ c.tree ++ dU c.text.length)))] 3 [] 0, []⟩) (chle_ren_lit [(0, some 0), (1, some 1), (3, some 2)] [(0, some 0), (1, some 1), (2, some 3)] (by decide) (by decide) (by decide) (allTv_cons (v := .pointer (some ⟨0, 0, none⟩)) (by decide) (by simp (disch := first | decide | omega) only [lk_hit, lk_miss]) (tv_ptr (by simp (disch := first | decide | omega) only [lk_hit, lk_miss])) (allTv_cons (v := .pointer (some ⟨1, 0, none⟩)) (by decide) (by simp (disch := first | decide | omega) only [lk_hit, lk_miss]) (tv_ptr (by simp (disch := first | decide | omega) only [lk_hit, lk_miss])) allTv_nil)) (allTo_cons (o := .cells (gslV (rowB c.parents) c.parents.length :: gslV (rowE c.edits) c.edits.length :: (bvs c.tree ++ [.string (str c.text)])) 34 (0, 0)) 0 (by simp (disch := first | decide | omega) only [lk_hit, lk_miss]) (by decide) (by decide) (by simp (disch := first | decide | omega) only [lk_hit, lk_miss]) (to_bareO names_fz (bareO_bares (bares_encC c))) (allTo_cons (o := wob 1 3 (acc2 ++ c.tree ++ dU c.text.length)) 1 (by simp (disch := first | decide | omega) only [lk_hit, lk_miss]) (by decide) (by decide) (by simp (disch := first | decide | omega) only [lk_hit, lk_miss]) (to_tvs (tvs_cons (tv_ptr (by simp (disch := first | decide | omega) only [lk_hit, lk_miss])) (tvs_cons (tv_slice (by simp (disch := first | decide | omega) only [lk_hit, lk_miss])) tvs_nil))) (allTo_cons (o := rowW (acc2 ++ c.tree ++ dU c.text.length)) 3 (by simp (disch := first | decide | omega) only [lk_hit, lk_miss]) (by decide) (by decide) (by simp (disch := first | decide | omega) only [lk_hit, lk_miss]) (bareO_rowW _ names_fz) allTo_nil))) .nil) ?_
    have hl4 : (acc2 ++ c.tree ++ dU c.text.length).length ≤ 200070000 := by rw [List.length_append]; omega
    have hpos : 0 < (encB c).length := by show 0 < ((3 :: dU c.parents.length) ++ c.parents.flatMap id ++ dU c.edits.length ++ c.edits.flatMap encEd ++ c.tree ++ dU c.text.length ++ c.text).length; simp only [List.length_append, List.length_cons]; omega
    refine xwp_drawn_to base29 ⟨frm [(1, some (.pointer (some ⟨0, 0, none⟩))), (3, some (.pointer (some ⟨1, 0, none⟩)))], wd [(0, some (.cells (gslV (rowB c.parents) c.parents.length :: gslV (rowE c.edits) c.edits.length :: (bvs c.tree ++ [.string (str c.text)])) 34 (0, 0))), (1, some (wob 1 2 (encB c))), (2, some (rowW (encB c)))] 3 [] 0, []⟩ ?hda ?qda
    case hda =>
      by_cases h0 : c.text = []
      · have hfin : encB c = acc2 ++ c.tree ++ dU c.text.length := by rw [hfin, h0, List.append_nil]
        have hws := go_ws0 h0 (b := 2) (L := [(0, some (.cells (gslV (rowB c.parents) c.parents.length :: gslV (rowE c.edits) c.edits.length :: (bvs c.tree ++ [.string (str c.text)])) 34 (0, 0))), (1, some (wob 1 2 (acc2 ++ c.tree ++ dU c.text.length))), (2, some (rowW (acc2 ++ c.tree ++ dU c.text.length)))]) (N := 3) (lg := []) (nl := 0) (by decide) (by decide) (by simp (disch := first | decide | omega) only [lk_hit, lk_miss]) (by simp (disch := first | decide | omega) only [lk_hit, lk_miss]) (by decide) (pWS0_eq (l := acc2 ++ c.tree ++ dU c.text.length) (by omega))
        refine ⟨?rsa, ?sa, ?ha, ?ka, ?la⟩
        case ha =>
          simp (disch := first | decide | omega | (simp only [List.length_cons, List.length_nil, List.length_append, length_bvs, List.length_take, List.length_drop]; omega)) only [traceX.eq_1, traceX.eq_2, trc1.eq_1, trcK.eq_1, trcK.eq_2, traceD_nil, traceD_t, traceD_f, holeK.eq_1, holeK.eq_2, T29, htr, at32 htr, List.drop_eq_nil_of_le, hws, go_sem, Nat.reduceAdd, Nat.reduceMul, Nat.reduceSub]
          all_goals with_reducible rfl
        case ka => kernel_rfl
        case la => rw [hfin]; exact chle_lit (by simp (disch := decide) [AllLk, lk_hit, lk_miss, lk_nil]) (by simp (disch := decide) [AllLk, lk_hit, lk_miss, lk_nil]) (by decide)
      · have hws := go_ws1 (b := 2) (L := [(0, some (.cells (gslV (rowB c.parents) c.parents.length :: gslV (rowE c.edits) c.edits.length :: (bvs c.tree ++ [.string (str c.text)])) 34 (0, 0))), (1, some (wob 1 2 (acc2 ++ c.tree ++ dU c.text.length))), (2, some (rowW (acc2 ++ c.tree ++ dU c.text.length)))]) (N := 3) (lg := []) (nl := 0) (by decide) (by decide) (by simp (disch := first | decide | omega) only [lk_hit, lk_miss]) (by simp (disch := first | decide | omega) only [lk_hit, lk_miss]) (by decide) (pWS_eq (l := acc2 ++ c.tree ++ dU c.text.length) (m := c.text) (List.length_pos_iff.2 h0) (by omega))
        refine ⟨?rsb, ?sb, ?hb, ?kb, ?lb⟩
        case hb =>
          simp (disch := first | decide | omega | (simp only [List.length_cons, List.length_nil, List.length_append, length_bvs, List.length_take, List.length_drop]; omega)) only [traceX.eq_1, traceX.eq_2, trc1.eq_1, trcK.eq_1, trcK.eq_2, traceD_nil, traceD_t, traceD_f, holeK.eq_1, holeK.eq_2, T29, htr, at32 htr, List.drop_eq_nil_of_le, hws, go_sem, Nat.reduceAdd, Nat.reduceMul, Nat.reduceSub]
          all_goals with_reducible rfl
        case kb => kernel_rfl
        case lb =>
          rw [hfin]
          exact chle_ren_lit [(0, some 0), (1, some 1), (3, some 2)] [(0, some 0), (1, some 1), (2, some 3)] (by decide) (by decide) (by decide) (allTv_cons (v := .pointer (some ⟨0, 0, none⟩)) (by decide) (by simp (disch := first | decide | omega) only [lk_hit, lk_miss]) (tv_ptr (by simp (disch := first | decide | omega) only [lk_hit, lk_miss])) (allTv_cons (v := .pointer (some ⟨1, 0, none⟩)) (by decide) (by simp (disch := first | decide | omega) only [lk_hit, lk_miss]) (tv_ptr (by simp (disch := first | decide | omega) only [lk_hit, lk_miss])) allTv_nil)) (allTo_cons (o := .cells (gslV (rowB c.parents) c.parents.length :: gslV (rowE c.edits) c.edits.length :: (bvs c.tree ++ [.string (str c.text)])) 34 (0, 0)) 0 (by simp (disch := first | decide | omega) only [lk_hit, lk_miss]) (by decide) (by decide) (by simp (disch := first | decide | omega) only [lk_hit, lk_miss]) (to_bareO names_fz (bareO_bares (bares_encC c))) (allTo_cons (o := wob 1 3 (acc2 ++ c.tree ++ dU c.text.length ++ c.text)) 1 (by simp (disch := first | decide | omega) only [lk_hit, lk_miss]) (by decide) (by decide) (by simp (disch := first | decide | omega) only [lk_hit, lk_miss]) (to_tvs (tvs_cons (tv_ptr (by simp (disch := first | decide | omega) only [lk_hit, lk_miss])) (tvs_cons (tv_slice (by simp (disch := first | decide | omega) only [lk_hit, lk_miss])) tvs_nil))) (allTo_cons (o := rowW (acc2 ++ c.tree ++ dU c.text.length ++ c.text)) 3 (by simp (disch := first | decide | omega) only [lk_hit, lk_miss]) (by decide) (by decide) (by simp (disch := first | decide | omega) only [lk_hit, lk_miss]) (bareO_rowW _ names_fz) allTo_nil))) .nil
    case qda =>
    have hg32 := go_str (b := 2) (L := [(0, some (.cells (gslV (rowB c.parents) c.parents.length :: gslV (rowE c.edits) c.edits.length :: (bvs c.tree ++ [.string (str c.text)])) 34 (0, 0))), (1, some (wob 1 2 (encB c))), (2, some (rowW (encB c)))]) (N := 3) (lg := []) (nl := 0) (by decide) (by decide) (by simp (disch := first | decide | omega) only [lk_hit, lk_miss]) (by simp (disch := first | decide | omega) only [lk_hit, lk_miss]) (by decide) (pStr_eq (l := encB c) hpos (by rw [hfin, List.length_append]; omega))
    refine xwp_seq (xwp_region (e := ?e24) (s' := ?s24) base29 ?h24 ?q24)
    case h24 =>
      simp (disch := first | decide | omega | (simp only [List.length_cons, List.length_nil, List.length_append, length_bvs, List.length_take, List.length_drop]; omega)) only [T29, hg32, go_sem, Nat.reduceAdd, Nat.reduceMul, Nat.reduceSub]
      all_goals with_reducible rfl
    case q24 =>
    refine xwp_ret ?_
    refine ⟨_, ?e25, ?W25, rfl, ?h25, ?q25⟩
    case h25 =>
      simp (disch := first | decide | omega | (simp only [List.length_cons, List.length_nil, List.length_append, length_bvs, List.length_take, List.length_drop]; omega)) only [Tryz.results7, go_sem, Nat.reduceAdd, Nat.reduceMul, Nat.reduceSub]
      all_goals with_reducible rfl
    case q25 =>
    rfl
  refine xwp_seq (xwp_region (e := ?e26) (s' := ?s26) base29 ?h26 ?q26)
  case h26 =>
    simp (disch := first | decide | omega | (simp only [List.length_cons, List.length_nil, List.length_append, length_bvs, List.length_take, List.length_drop]; omega)) only [go_sem, Nat.reduceAdd, Nat.reduceMul, Nat.reduceSub]
    all_goals with_reducible rfl
  case q26 =>
  refine xwp_seq (xwp_ct ?h27 ?q27)
  case h27 =>
    simp (disch := first | decide | omega | (simp only [List.length_cons, List.length_nil, List.length_append, length_bvs, List.length_take, List.length_drop]; omega)) only [go_sem, Nat.reduceAdd, Nat.reduceMul, Nat.reduceSub]
    all_goals with_reducible rfl
  case q27 =>
  refine xwp_skip ?_
  refine xwp_seq (xwp_block ?_)
  obtain ⟨e, he⟩ : ∃ e, e = c.edits[k] := ⟨_, rfl⟩
  have hoe : OkE e := by rw [he]; exact hc.e _ (List.getElem_mem hlt)
  have hre : RgE e := by rw [he]; exact hr _ (List.getElem_mem hlt)
  have hrow := rowE_at hlt
  rw [← he] at hrow
  have hes := hoe.s
  have hep := hoe.p
  have hc1 := cU_len hre.a1
  have hc2 := cU_len hre.a2
  have hc3 := cU_len hre.a3
  have hc4 := cU_len hre.a4
  have hc5 := cU_len hre.a5
  have hd4 : (dU e.sides.length).length ≤ 10 := dU_len10 (by omega)
  have hd5 : (dU e.pairs.length).length ≤ 10 := dU_len10 (by omega)
  refine xwp_seq (xwp_region (e := ?e28) (s' := ?s28) base29 ?h28 ?q28)
  case h28 =>
    simp (disch := first | decide | omega | (simp only [List.length_cons, List.length_nil, List.length_append, length_bvs, List.length_take, List.length_drop]; omega)) only [iad_gslV hlt, iadZ.eq_1, load_FP, hrow, encEdit, one_slV, go_sem, Nat.reduceAdd, Nat.reduceMul, Nat.reduceSub]
    all_goals with_reducible rfl
  case q28 =>
  refine xwp_le (s' := ⟨frm [(1, some (.pointer (some ⟨0, 0, none⟩))), (3, some (.pointer (some ⟨1, 0, none⟩))), (43, some (gslV (rowE c.edits) c.edits.length)), (44, some (.int .i64 (c.edits.length : Int))), (45, some (.int .i64 (k : Int))), (7, some (.pointer (some ⟨3, 0, none⟩)))], wd [(0, some (.cells (gslV (rowB c.parents) c.parents.length :: gslV (rowE c.edits) c.edits.length :: (bvs c.tree ++ [.string (str c.text)])) 34 (0, 0))), (1, some (wob 1 2 (acc2))), (2, some (rowW (acc2))), (3, some (.cells [.int .i64 e.kind, .int .i64 e.cell, .int .i64 e.dim, .int .i64 e.new, .int .i64 e.other, slV e.sides, slV e.pairs] 64 (0, 0)))] 4 [] 0, []⟩) (chle_lit (by simp (disch := decide) [AllLk, lk_hit, lk_miss, lk_nil]) (by simp (disch := decide) [AllLk, lk_hit, lk_miss, lk_nil]) (by decide)) ?_
  have hgo15 : ∀ cp, 5 ≤ cp → wsH pWC [.pointer (some ⟨1, 0, none⟩), .slice (some ⟨4, 0, none⟩) 5 cp] (wd ((4, some (.cells [.int .i64 e.kind, .int .i64 e.cell, .int .i64 e.dim, .int .i64 e.new, .int .i64 e.other] 3 (0, 0))) :: [(0, some (.cells (gslV (rowB c.parents) c.parents.length :: gslV (rowE c.edits) c.edits.length :: (bvs c.tree ++ [.string (str c.text)])) 34 (0, 0))), (1, some (wob 1 2 (acc2))), (2, some (rowW (acc2))), (3, some (.cells [.int .i64 e.kind, .int .i64 e.cell, .int .i64 e.dim, .int .i64 e.new, .int .i64 e.other, slV e.sides, slV e.pairs] 64 (0, 0)))]) 5 [] 0) = some (.ret (.tuple #[]), wd ((1, some (wob 1 5 (acc2 ++ cU e.kind ++ cU e.cell ++ cU e.dim ++ cU e.new ++ cU e.other))) :: (5, some (rowW (acc2 ++ cU e.kind ++ cU e.cell ++ cU e.dim ++ cU e.new ++ cU e.other))) :: (2, none) :: (4, none) :: ((4, some (.cells [.int .i64 e.kind, .int .i64 e.cell, .int .i64 e.dim, .int .i64 e.new, .int .i64 e.other] 3 (0, 0))) :: [(0, some (.cells (gslV (rowB c.parents) c.parents.length :: gslV (rowE c.edits) c.edits.length :: (bvs c.tree ++ [.string (str c.text)])) 34 (0, 0))), (1, some (wob 1 2 (acc2))), (2, some (rowW (acc2))), (3, some (.cells [.int .i64 e.kind, .int .i64 e.cell, .int .i64 e.dim, .int .i64 e.new, .int .i64 e.other, slV e.sides, slV e.pairs] 64 (0, 0)))])) (5 + 1) (1 :: 2 :: 4 :: []) (0 + 1 + 1 + 1)) := fun cp hcp => go_ws (l := acc2) (vs := [e.kind, e.cell, e.dim, e.new, e.other]) (by decide) (by decide) (by decide) (by simp (disch := first | decide | omega) only [lk_hit, lk_miss]) (by simp (disch := first | decide | omega) only [lk_hit, lk_miss]) rfl hcp (pWC_to (fun a ha => by simp only [List.mem_cons, List.not_mem_nil, or_false] at ha; rcases ha with rfl | rfl | rfl | rfl | rfl <;> first | exact hre.a1 | exact hre.a2 | exact hre.a3 | exact hre.a4 | exact hre.a5) (Nat.le_of_ble_eq_true rfl) (fun h => by cases h) (by omega) (by simp only [List.flatMap_cons, List.flatMap_nil, List.append_nil, List.append_assoc]))
  refine xwp_seq (xwp_region (e := ?e29) (s' := ?s29) base29 ?h29 ?q29)
  case h29 =>
    simp (disch := first | decide | omega | (simp only [List.length_cons, List.length_nil, List.length_append, length_bvs, List.length_take, List.length_drop]; omega)) only [T29, hgo15, go_sem, Nat.reduceAdd, Nat.reduceMul, Nat.reduceSub]
    all_goals with_reducible rfl
  case q29 =>
  refine xwp_le (s' := ⟨frm [(1, some (.pointer (some ⟨0, 0, none⟩))), (3, some (.pointer (some ⟨1, 0, none⟩))), (43, some (gslV (rowE c.edits) c.edits.length)), (44, some (.int .i64 (c.edits.length : Int))), (45, some (.int .i64 (k : Int))), (7, some (.pointer (some ⟨3, 0, none⟩)))], wd [(0, some (.cells (gslV (rowB c.parents) c.parents.length :: gslV (rowE c.edits) c.edits.length :: (bvs c.tree ++ [.string (str c.text)])) 34 (0, 0))), (1, some (wob 1 2 (acc2 ++ cU e.kind ++ cU e.cell ++ cU e.dim ++ cU e.new ++ cU e.other))), (2, some (rowW (acc2 ++ cU e.kind ++ cU e.cell ++ cU e.dim ++ cU e.new ++ cU e.other))), (3, some (.cells [.int .i64 e.kind, .int .i64 e.cell, .int .i64 e.dim, .int .i64 e.new, .int .i64 e.other, slV e.sides, slV e.pairs] 64 (0, 0)))] 4 [] 0, []⟩) (chle_ren_lit [(0, some 0), (1, some 1), (5, some 2), (3, some 3)] [(0, some 0), (1, some 1), (2, some 5), (3, some 3)] (by decide) (by decide) (by decide) (allTv_cons (v := .pointer (some ⟨0, 0, none⟩)) (by decide) (by simp (disch := first | decide | omega) only [lk_hit, lk_miss]) (tv_ptr (by simp (disch := first | decide | omega) only [lk_hit, lk_miss])) (allTv_cons (v := .pointer (some ⟨1, 0, none⟩)) (by decide) (by simp (disch := first | decide | omega) only [lk_hit, lk_miss]) (tv_ptr (by simp (disch := first | decide | omega) only [lk_hit, lk_miss])) (allTv_cons (v := gslV (rowE c.edits) c.edits.length) (by decide) (by simp (disch := first | decide | omega) only [lk_hit, lk_miss]) (bare_gslV (bares_rowE _) _ _ names_fz) (allTv_cons (v := .int .i64 (c.edits.length : Int)) (by decide) (by simp (disch := first | decide | omega) only [lk_hit, lk_miss]) (tv_flat 1 rfl) (allTv_cons (v := .int .i64 (k : Int)) (by decide) (by simp (disch := first | decide | omega) only [lk_hit, lk_miss]) (tv_flat 1 rfl) (allTv_cons (v := .pointer (some ⟨3, 0, none⟩)) (by decide) (by simp (disch := first | decide | omega) only [lk_hit, lk_miss]) (tv_ptr (by simp (disch := first | decide | omega) only [lk_hit, lk_miss])) allTv_nil)))))) (allTo_cons (o := .cells (gslV (rowB c.parents) c.parents.length :: gslV (rowE c.edits) c.edits.length :: (bvs c.tree ++ [.string (str c.text)])) 34 (0, 0)) 0 (by simp (disch := first | decide | omega) only [lk_hit, lk_miss]) (by decide) (by decide) (by simp (disch := first | decide | omega) only [lk_hit, lk_miss]) (to_bareO names_fz (bareO_bares (bares_encC c))) (allTo_cons (o := wob 1 5 (acc2 ++ cU e.kind ++ cU e.cell ++ cU e.dim ++ cU e.new ++ cU e.other)) 1 (by simp (disch := first | decide | omega) only [lk_hit, lk_miss]) (by decide) (by decide) (by simp (disch := first | decide | omega) only [lk_hit, lk_miss]) (to_tvs (tvs_cons (tv_ptr (by simp (disch := first | decide | omega) only [lk_hit, lk_miss])) (tvs_cons (tv_slice (by simp (disch := first | decide | omega) only [lk_hit, lk_miss])) tvs_nil))) (allTo_cons (o := rowW (acc2 ++ cU e.kind ++ cU e.cell ++ cU e.dim ++ cU e.new ++ cU e.other)) 5 (by simp (disch := first | decide | omega) only [lk_hit, lk_miss]) (by decide) (by decide) (by simp (disch := first | decide | omega) only [lk_hit, lk_miss]) (bareO_rowW _ names_fz) (allTo_cons (o := .cells [.int .i64 e.kind, .int .i64 e.cell, .int .i64 e.dim, .int .i64 e.new, .int .i64 e.other, slV e.sides, slV e.pairs] 64 (0, 0)) 3 (by simp (disch := first | decide | omega) only [lk_hit, lk_miss]) (by decide) (by decide) (by simp (disch := first | decide | omega) only [lk_hit, lk_miss]) (to_bareO names_fz (bareO_bares (bares_encEdit e))) allTo_nil)))) .nil) ?_
  obtain ⟨a3, ha3⟩ : ∃ a3, a3 = acc2 ++ cU e.kind ++ cU e.cell ++ cU e.dim ++ cU e.new ++ cU e.other := ⟨_, rfl⟩
  have hb3 : a3.length ≤ 200050100 := by rw [ha3]; simp only [List.length_append]; omega
  rw [← ha3]
  have hgms : wtH pWM [.pointer (some ⟨1, 0, none⟩), .int .i64 (e.sides.length : Int)] (wd [(0, some (.cells (gslV (rowB c.parents) c.parents.length :: gslV (rowE c.edits) c.edits.length :: (bvs c.tree ++ [.string (str c.text)])) 34 (0, 0))), (1, some (wob 1 2 (a3))), (2, some (rowW (a3))), (3, some (.cells [.int .i64 e.kind, .int .i64 e.cell, .int .i64 e.dim, .int .i64 e.new, .int .i64 e.other, slV e.sides, slV e.pairs] 64 (0, 0)))] 4 [] 0) = some (.ret (.tuple #[]), wd ((1, some (wob 1 4 (a3 ++ dU e.sides.length))) :: (4, some (rowW (a3 ++ dU e.sides.length))) :: (2, none) :: [(0, some (.cells (gslV (rowB c.parents) c.parents.length :: gslV (rowE c.edits) c.edits.length :: (bvs c.tree ++ [.string (str c.text)])) 34 (0, 0))), (1, some (wob 1 2 (a3))), (2, some (rowW (a3))), (3, some (.cells [.int .i64 e.kind, .int .i64 e.cell, .int .i64 e.dim, .int .i64 e.new, .int .i64 e.other, slV e.sides, slV e.pairs] 64 (0, 0)))]) (4 + 1) (1 :: 2 :: []) (0 + 1 + 1)) := go_wt (l := a3) (by decide) (by decide) (by simp (disch := first | decide | omega) only [lk_hit, lk_miss]) (by simp (disch := first | decide | omega) only [lk_hit, lk_miss]) (by decide) (pWM_eq (by omega) (by omega))
  refine xwp_seq (xwp_region (e := ?e30) (s' := ?s30) base29 ?h30 ?q30)
  case h30 =>
    simp (disch := first | decide | omega | (simp only [List.length_cons, List.length_nil, List.length_append, length_bvs, List.length_take, List.length_drop]; omega)) only [T29, lenB_slV, hgms, go_sem, Nat.reduceAdd, Nat.reduceMul, Nat.reduceSub]
    all_goals with_reducible rfl
  case q30 =>
  obtain ⟨b4, hb4⟩ : ∃ x, x = a3 ++ dU e.sides.length := ⟨_, rfl⟩
  have hls : b4.length ≤ 200051060 := by rw [hb4, List.length_append]; omega
  rw [← hb4]
  refine xwp_le (s' := ⟨frm [(1, some (.pointer (some ⟨0, 0, none⟩))), (3, some (.pointer (some ⟨1, 0, none⟩))), (43, some (gslV (rowE c.edits) c.edits.length)), (44, some (.int .i64 (c.edits.length : Int))), (45, some (.int .i64 (k : Int))), (7, some (.pointer (some ⟨3, 0, none⟩)))], wd [(0, some (.cells (gslV (rowB c.parents) c.parents.length :: gslV (rowE c.edits) c.edits.length :: (bvs c.tree ++ [.string (str c.text)])) 34 (0, 0))), (1, some (wob 1 2 (b4))), (2, some (rowW (b4))), (3, some (.cells [.int .i64 e.kind, .int .i64 e.cell, .int .i64 e.dim, .int .i64 e.new, .int .i64 e.other, slV e.sides, slV e.pairs] 64 (0, 0)))] 4 [] 0, []⟩) (chle_ren_lit [(0, some 0), (1, some 1), (4, some 2), (3, some 3)] [(0, some 0), (1, some 1), (2, some 4), (3, some 3)] (by decide) (by decide) (by decide) (allTv_cons (v := .pointer (some ⟨0, 0, none⟩)) (by decide) (by simp (disch := first | decide | omega) only [lk_hit, lk_miss]) (tv_ptr (by simp (disch := first | decide | omega) only [lk_hit, lk_miss])) (allTv_cons (v := .pointer (some ⟨1, 0, none⟩)) (by decide) (by simp (disch := first | decide | omega) only [lk_hit, lk_miss]) (tv_ptr (by simp (disch := first | decide | omega) only [lk_hit, lk_miss])) (allTv_cons (v := gslV (rowE c.edits) c.edits.length) (by decide) (by simp (disch := first | decide | omega) only [lk_hit, lk_miss]) (bare_gslV (bares_rowE _) _ _ names_fz) (allTv_cons (v := .int .i64 (c.edits.length : Int)) (by decide) (by simp (disch := first | decide | omega) only [lk_hit, lk_miss]) (tv_flat 1 rfl) (allTv_cons (v := .int .i64 (k : Int)) (by decide) (by simp (disch := first | decide | omega) only [lk_hit, lk_miss]) (tv_flat 1 rfl) (allTv_cons (v := .pointer (some ⟨3, 0, none⟩)) (by decide) (by simp (disch := first | decide | omega) only [lk_hit, lk_miss]) (tv_ptr (by simp (disch := first | decide | omega) only [lk_hit, lk_miss])) allTv_nil)))))) (allTo_cons (o := .cells (gslV (rowB c.parents) c.parents.length :: gslV (rowE c.edits) c.edits.length :: (bvs c.tree ++ [.string (str c.text)])) 34 (0, 0)) 0 (by simp (disch := first | decide | omega) only [lk_hit, lk_miss]) (by decide) (by decide) (by simp (disch := first | decide | omega) only [lk_hit, lk_miss]) (to_bareO names_fz (bareO_bares (bares_encC c))) (allTo_cons (o := wob 1 4 (b4)) 1 (by simp (disch := first | decide | omega) only [lk_hit, lk_miss]) (by decide) (by decide) (by simp (disch := first | decide | omega) only [lk_hit, lk_miss]) (to_tvs (tvs_cons (tv_ptr (by simp (disch := first | decide | omega) only [lk_hit, lk_miss])) (tvs_cons (tv_slice (by simp (disch := first | decide | omega) only [lk_hit, lk_miss])) tvs_nil))) (allTo_cons (o := rowW (b4)) 4 (by simp (disch := first | decide | omega) only [lk_hit, lk_miss]) (by decide) (by decide) (by simp (disch := first | decide | omega) only [lk_hit, lk_miss]) (bareO_rowW _ names_fz) (allTo_cons (o := .cells [.int .i64 e.kind, .int .i64 e.cell, .int .i64 e.dim, .int .i64 e.new, .int .i64 e.other, slV e.sides, slV e.pairs] 64 (0, 0)) 3 (by simp (disch := first | decide | omega) only [lk_hit, lk_miss]) (by decide) (by decide) (by simp (disch := first | decide | omega) only [lk_hit, lk_miss]) (to_bareO names_fz (bareO_bares (bares_encEdit e))) allTo_nil)))) .nil) ?_
  refine xwp_seq ?_
  refine xwp_seq (xwp_region (e := ?e31) (s' := ?s31) base29 ?h31 ?q31)
  case h31 =>
    simp (disch := first | decide | omega | (simp only [List.length_cons, List.length_nil, List.length_append, length_bvs, List.length_take, List.length_drop]; omega)) only [lenB_slV, go_sem, Nat.reduceAdd, Nat.reduceMul, Nat.reduceSub]
    all_goals with_reducible rfl
  case q31 =>
  refine xwp_block ?_
  refine xwp_le (s' := ⟨frm [(1, some (.pointer (some ⟨0, 0, none⟩))), (3, some (.pointer (some ⟨1, 0, none⟩))), (43, some (gslV (rowE c.edits) c.edits.length)), (44, some (.int .i64 (c.edits.length : Int))), (45, some (.int .i64 (k : Int))), (7, some (.pointer (some ⟨3, 0, none⟩))), (68, some (slV e.sides)), (69, some (.int .i64 (e.sides.length : Int))), (70, some (.int .i64 ((0 : Nat) : Int)))], wd [(0, some (.cells (gslV (rowB c.parents) c.parents.length :: gslV (rowE c.edits) c.edits.length :: (bvs c.tree ++ [.string (str c.text)])) 34 (0, 0))), (1, some (wob 1 2 (b4))), (2, some (rowW (b4))), (3, some (.cells [.int .i64 e.kind, .int .i64 e.cell, .int .i64 e.dim, .int .i64 e.new, .int .i64 e.other, slV e.sides, slV e.pairs] 64 (0, 0)))] 4 [] 0, []⟩) (chle_lit (by simp (disch := decide) [AllLk, lk_hit, lk_miss, lk_nil]) (by simp (disch := decide) [AllLk, lk_hit, lk_miss, lk_nil]) (by decide)) ?_
  refine xwp_loop (α := AccS encPr e.sides b4) (fun x => ⟨frm [(1, some (.pointer (some ⟨0, 0, none⟩))), (3, some (.pointer (some ⟨1, 0, none⟩))), (43, some (gslV (rowE c.edits) c.edits.length)), (44, some (.int .i64 (c.edits.length : Int))), (45, some (.int .i64 (k : Int))), (7, some (.pointer (some ⟨3, 0, none⟩))), (68, some (slV e.sides)), (69, some (.int .i64 (e.sides.length : Int))), (70, some (.int .i64 (x.i : Int)))], wd [(0, some (.cells (gslV (rowB c.parents) c.parents.length :: gslV (rowE c.edits) c.edits.length :: (bvs c.tree ++ [.string (str c.text)])) 34 (0, 0))), (1, some (wob 1 2 (x.acc))), (2, some (rowW (x.acc))), (3, some (.cells [.int .i64 e.kind, .int .i64 e.cell, .int .i64 e.dim, .int .i64 e.new, .int .i64 e.other, slV e.sides, slV e.pairs] 64 (0, 0)))] 4 [] 0, []⟩) (fun x => e.sides.length - x.i) ?_ ⟨0, b4, Nat.zero_le _, by simp⟩
  intro ⟨j, acs, hjs, heqs⟩
  simp only
  have hals := AccS.len (m := 20) heqs fun x hx => encPr_len (hre.s x hx)
  have hbs : acs.length ≤ 200131060 := by omega
  by_cases hlts : j < e.sides.length
  · refine xwp_seq (xwp_region (e := ?e32) (s' := ?s32) base29 ?h32 ?q32)
    case h32 =>
      simp (disch := first | decide | omega | (simp only [List.length_cons, List.length_nil, List.length_append, length_bvs, List.length_take, List.length_drop]; omega)) only [go_sem, Nat.reduceAdd, Nat.reduceMul, Nat.reduceSub]
      all_goals with_reducible rfl
    case q32 =>
    refine xwp_seq (xwp_ct ?h33 ?q33)
    case h33 =>
      simp (disch := first | decide | omega | (simp only [List.length_cons, List.length_nil, List.length_append, length_bvs, List.length_take, List.length_drop]; omega)) only [go_sem, Nat.reduceAdd, Nat.reduceMul, Nat.reduceSub]
      all_goals with_reducible rfl
    case q33 =>
    refine xwp_skip ?_
    refine xwp_seq (xwp_block ?_)
    have hrv := rowV_at hlts
    have hpp := hre.s _ (List.getElem_mem hlts)
    have hst := flat_take (f := encPr) hlts
    obtain ⟨p, hp⟩ : ∃ p, p = e.sides[j] := ⟨_, rfl⟩
    rw [← hp] at hrv hpp hst
    have hq1 := cU_len hpp.1
    have hq2 := cU_len hpp.2
    refine xwp_seq (xwp_region (e := ?e34) (s' := ?s34) base29 ?h34 ?q34)
    case h34 =>
      simp (disch := first | decide | omega | (simp only [List.length_cons, List.length_nil, List.length_append, length_bvs, List.length_take, List.length_drop]; omega)) only [iad_slV hlts, iadZ.eq_1, load_FP, hrv, go_sem, Nat.reduceAdd, Nat.reduceMul, Nat.reduceSub]
      all_goals with_reducible rfl
    case q34 =>
    refine xwp_le (s' := ⟨frm [(1, some (.pointer (some ⟨0, 0, none⟩))), (3, some (.pointer (some ⟨1, 0, none⟩))), (43, some (gslV (rowE c.edits) c.edits.length)), (44, some (.int .i64 (c.edits.length : Int))), (45, some (.int .i64 (k : Int))), (7, some (.pointer (some ⟨3, 0, none⟩))), (68, some (slV e.sides)), (69, some (.int .i64 (e.sides.length : Int))), (70, some (.int .i64 (j : Int))), (9, some (.pointer (some ⟨4, 0, none⟩)))], wd [(0, some (.cells (gslV (rowB c.parents) c.parents.length :: gslV (rowE c.edits) c.edits.length :: (bvs c.tree ++ [.string (str c.text)])) 34 (0, 0))), (1, some (wob 1 2 (acs))), (2, some (rowW (acs))), (3, some (.cells [.int .i64 e.kind, .int .i64 e.cell, .int .i64 e.dim, .int .i64 e.new, .int .i64 e.other, slV e.sides, slV e.pairs] 64 (0, 0))), (4, some (.cells [.int .i64 p.1, .int .i64 p.2] 70 (0, 0)))] 5 [] 0, []⟩) (chle_lit (by simp (disch := decide) [AllLk, lk_hit, lk_miss, lk_nil]) (by simp (disch := decide) [AllLk, lk_hit, lk_miss, lk_nil]) (by decide)) ?_
    have hgcs : ∀ cp, 2 ≤ cp → wsH pWC [.pointer (some ⟨1, 0, none⟩), .slice (some ⟨5, 0, none⟩) 2 cp] (wd ((5, some (.cells [.int .i64 p.1, .int .i64 p.2] 3 (0, 0))) :: [(0, some (.cells (gslV (rowB c.parents) c.parents.length :: gslV (rowE c.edits) c.edits.length :: (bvs c.tree ++ [.string (str c.text)])) 34 (0, 0))), (1, some (wob 1 2 (acs))), (2, some (rowW (acs))), (3, some (.cells [.int .i64 e.kind, .int .i64 e.cell, .int .i64 e.dim, .int .i64 e.new, .int .i64 e.other, slV e.sides, slV e.pairs] 64 (0, 0))), (4, some (.cells [.int .i64 p.1, .int .i64 p.2] 70 (0, 0)))]) 6 [] 0) = some (.ret (.tuple #[]), wd ((1, some (wob 1 6 (acs ++ encPr p))) :: (6, some (rowW (acs ++ encPr p))) :: (2, none) :: (5, none) :: ((5, some (.cells [.int .i64 p.1, .int .i64 p.2] 3 (0, 0))) :: [(0, some (.cells (gslV (rowB c.parents) c.parents.length :: gslV (rowE c.edits) c.edits.length :: (bvs c.tree ++ [.string (str c.text)])) 34 (0, 0))), (1, some (wob 1 2 (acs))), (2, some (rowW (acs))), (3, some (.cells [.int .i64 e.kind, .int .i64 e.cell, .int .i64 e.dim, .int .i64 e.new, .int .i64 e.other, slV e.sides, slV e.pairs] 64 (0, 0))), (4, some (.cells [.int .i64 p.1, .int .i64 p.2] 70 (0, 0)))])) (6 + 1) (1 :: 2 :: 5 :: []) (0 + 1 + 1 + 1)) := fun cp hcp => go_ws (l := acs) (vs := [p.1, p.2]) (by decide) (by decide) (by decide) (by simp (disch := first | decide | omega) only [lk_hit, lk_miss]) (by simp (disch := first | decide | omega) only [lk_hit, lk_miss]) rfl hcp (pWC_to (fun a ha => by simp only [List.mem_cons, List.not_mem_nil, or_false] at ha; rcases ha with rfl | rfl <;> first | exact hpp.1 | exact hpp.2) (Nat.le_of_ble_eq_true rfl) (fun h => by cases h) (by omega) (by simp only [List.flatMap_cons, List.flatMap_nil, List.append_nil, encPr]))
    refine xwp_region (e := ?e35) (s' := ?s35) base29 ?h35 ?q35
    case h35 =>
      simp (disch := first | decide | omega | (simp only [List.length_cons, List.length_nil, List.length_append, length_bvs, List.length_take, List.length_drop]; omega)) only [T29, iad_arr, hgcs, go_sem, Nat.reduceAdd, Nat.reduceMul, Nat.reduceSub]
      all_goals with_reducible rfl
    case q35 =>
    show XWp _ _ _ _ _ _
    refine xwp_region (e := ?e36) (s' := ?s36) base29 ?h36 ?q36
    case h36 =>
      simp (disch := first | decide | omega | (simp only [List.length_cons, List.length_nil, List.length_append, length_bvs, List.length_take, List.length_drop]; omega)) only [go_sem, Nat.reduceAdd, Nat.reduceMul, Nat.reduceSub]
      all_goals with_reducible rfl
    case q36 =>
    refine ⟨⟨j + 1, acs ++ encPr p, hlts, by rw [heqs, List.append_assoc, ← hst]⟩, by simp only; omega, ?_⟩
    exact chle_ren_lit [(0, some 0), (1, some 1), (6, some 2), (3, some 3)] [(0, some 0), (1, some 1), (2, some 6), (3, some 3)] (by decide) (by decide) (by decide) (allTv_cons (v := .pointer (some ⟨0, 0, none⟩)) (by decide) (by simp (disch := first | decide | omega) only [lk_hit, lk_miss]) (tv_ptr (by simp (disch := first | decide | omega) only [lk_hit, lk_miss])) (allTv_cons (v := .pointer (some ⟨1, 0, none⟩)) (by decide) (by simp (disch := first | decide | omega) only [lk_hit, lk_miss]) (tv_ptr (by simp (disch := first | decide | omega) only [lk_hit, lk_miss])) (allTv_cons (v := gslV (rowE c.edits) c.edits.length) (by decide) (by simp (disch := first | decide | omega) only [lk_hit, lk_miss]) (bare_gslV (bares_rowE _) _ _ names_fz) (allTv_cons (v := .int .i64 (c.edits.length : Int)) (by decide) (by simp (disch := first | decide | omega) only [lk_hit, lk_miss]) (tv_flat 1 rfl) (allTv_cons (v := .int .i64 (k : Int)) (by decide) (by simp (disch := first | decide | omega) only [lk_hit, lk_miss]) (tv_flat 1 rfl) (allTv_cons (v := .pointer (some ⟨3, 0, none⟩)) (by decide) (by simp (disch := first | decide | omega) only [lk_hit, lk_miss]) (tv_ptr (by simp (disch := first | decide | omega) only [lk_hit, lk_miss])) (allTv_cons (v := slV e.sides) (by decide) (by simp (disch := first | decide | omega) only [lk_hit, lk_miss]) (bare_slV _ _ names_fz) (allTv_cons (v := .int .i64 (e.sides.length : Int)) (by decide) (by simp (disch := first | decide | omega) only [lk_hit, lk_miss]) (tv_flat 1 rfl) (allTv_cons (v := .int .i64 ((j + 1 : Nat) : Int)) (by decide) (by simp (disch := first | decide | omega) only [lk_hit, lk_miss]) (tv_flat 1 rfl) allTv_nil))))))))) (allTo_cons (o := .cells (gslV (rowB c.parents) c.parents.length :: gslV (rowE c.edits) c.edits.length :: (bvs c.tree ++ [.string (str c.text)])) 34 (0, 0)) 0 (by simp (disch := first | decide | omega) only [lk_hit, lk_miss]) (by decide) (by decide) (by simp (disch := first | decide | omega) only [lk_hit, lk_miss]) (to_bareO names_fz (bareO_bares (bares_encC c))) (allTo_cons (o := wob 1 6 (acs ++ encPr p)) 1 (by simp (disch := first | decide | omega) only [lk_hit, lk_miss]) (by decide) (by decide) (by simp (disch := first | decide | omega) only [lk_hit, lk_miss]) (to_tvs (tvs_cons (tv_ptr (by simp (disch := first | decide | omega) only [lk_hit, lk_miss])) (tvs_cons (tv_slice (by simp (disch := first | decide | omega) only [lk_hit, lk_miss])) tvs_nil))) (allTo_cons (o := rowW (acs ++ encPr p)) 6 (by simp (disch := first | decide | omega) only [lk_hit, lk_miss]) (by decide) (by decide) (by simp (disch := first | decide | omega) only [lk_hit, lk_miss]) (bareO_rowW _ names_fz) (allTo_cons (o := .cells [.int .i64 e.kind, .int .i64 e.cell, .int .i64 e.dim, .int .i64 e.new, .int .i64 e.other, slV e.sides, slV e.pairs] 64 (0, 0)) 3 (by simp (disch := first | decide | omega) only [lk_hit, lk_miss]) (by decide) (by decide) (by simp (disch := first | decide | omega) only [lk_hit, lk_miss]) (to_bareO names_fz (bareO_bares (bares_encEdit e))) allTo_nil)))) .nil
  refine xwp_seq (xwp_region (e := ?e37) (s' := ?s37) base29 ?h37 ?q37)
  case h37 =>
    simp (disch := first | decide | omega | (simp only [List.length_cons, List.length_nil, List.length_append, length_bvs, List.length_take, List.length_drop]; omega)) only [go_sem, Nat.reduceAdd, Nat.reduceMul, Nat.reduceSub]
    all_goals with_reducible rfl
  case q37 =>
  refine xwp_seq (xwp_cf ?h38 ?q38)
  case h38 =>
    simp (disch := first | decide | omega | (simp only [List.length_cons, List.length_nil, List.length_append, length_bvs, List.length_take, List.length_drop]; omega)) only [go_sem, Nat.reduceAdd, Nat.reduceMul, Nat.reduceSub]
    all_goals with_reducible rfl
  case q38 =>
  refine xwp_exit ?_
  show XWp _ _ _ _ _ _
  have hins : j = e.sides.length := by omega
  rw [hins, List.take_length] at heqs
  refine xwp_le (s' := ⟨frm [(1, some (.pointer (some ⟨0, 0, none⟩))), (3, some (.pointer (some ⟨1, 0, none⟩))), (43, some (gslV (rowE c.edits) c.edits.length)), (44, some (.int .i64 (c.edits.length : Int))), (45, some (.int .i64 (k : Int))), (7, some (.pointer (some ⟨3, 0, none⟩)))], wd [(0, some (.cells (gslV (rowB c.parents) c.parents.length :: gslV (rowE c.edits) c.edits.length :: (bvs c.tree ++ [.string (str c.text)])) 34 (0, 0))), (1, some (wob 1 2 (acs))), (2, some (rowW (acs))), (3, some (.cells [.int .i64 e.kind, .int .i64 e.cell, .int .i64 e.dim, .int .i64 e.new, .int .i64 e.other, slV e.sides, slV e.pairs] 64 (0, 0)))] 4 [] 0, []⟩) (chle_lit (by simp (disch := decide) [AllLk, lk_hit, lk_miss, lk_nil]) (by simp (disch := decide) [AllLk, lk_hit, lk_miss, lk_nil]) (by decide)) ?_
  clear hlts hjs hins
  clear j
  have hgmw : wtH pWM [.pointer (some ⟨1, 0, none⟩), .int .i64 (e.pairs.length : Int)] (wd [(0, some (.cells (gslV (rowB c.parents) c.parents.length :: gslV (rowE c.edits) c.edits.length :: (bvs c.tree ++ [.string (str c.text)])) 34 (0, 0))), (1, some (wob 1 2 (acs))), (2, some (rowW (acs))), (3, some (.cells [.int .i64 e.kind, .int .i64 e.cell, .int .i64 e.dim, .int .i64 e.new, .int .i64 e.other, slV e.sides, slV e.pairs] 64 (0, 0)))] 4 [] 0) = some (.ret (.tuple #[]), wd ((1, some (wob 1 4 (acs ++ dU e.pairs.length))) :: (4, some (rowW (acs ++ dU e.pairs.length))) :: (2, none) :: [(0, some (.cells (gslV (rowB c.parents) c.parents.length :: gslV (rowE c.edits) c.edits.length :: (bvs c.tree ++ [.string (str c.text)])) 34 (0, 0))), (1, some (wob 1 2 (acs))), (2, some (rowW (acs))), (3, some (.cells [.int .i64 e.kind, .int .i64 e.cell, .int .i64 e.dim, .int .i64 e.new, .int .i64 e.other, slV e.sides, slV e.pairs] 64 (0, 0)))]) (4 + 1) (1 :: 2 :: []) (0 + 1 + 1)) := go_wt (l := acs) (by decide) (by decide) (by simp (disch := first | decide | omega) only [lk_hit, lk_miss]) (by simp (disch := first | decide | omega) only [lk_hit, lk_miss]) (by decide) (pWM_eq (by omega) (by omega))
  refine xwp_seq (xwp_region (e := ?e39) (s' := ?s39) base29 ?h39 ?q39)
  case h39 =>
    simp (disch := first | decide | omega | (simp only [List.length_cons, List.length_nil, List.length_append, length_bvs, List.length_take, List.length_drop]; omega)) only [T29, lenB_slV, hgmw, go_sem, Nat.reduceAdd, Nat.reduceMul, Nat.reduceSub]
    all_goals with_reducible rfl
  case q39 =>
  obtain ⟨b5, hb5⟩ : ∃ x, x = acs ++ dU e.pairs.length := ⟨_, rfl⟩
  have hlw : b5.length ≤ 200132070 := by rw [hb5, List.length_append]; omega
  rw [← hb5]
  refine xwp_le (s' := ⟨frm [(1, some (.pointer (some ⟨0, 0, none⟩))), (3, some (.pointer (some ⟨1, 0, none⟩))), (43, some (gslV (rowE c.edits) c.edits.length)), (44, some (.int .i64 (c.edits.length : Int))), (45, some (.int .i64 (k : Int))), (7, some (.pointer (some ⟨3, 0, none⟩)))], wd [(0, some (.cells (gslV (rowB c.parents) c.parents.length :: gslV (rowE c.edits) c.edits.length :: (bvs c.tree ++ [.string (str c.text)])) 34 (0, 0))), (1, some (wob 1 2 (b5))), (2, some (rowW (b5))), (3, some (.cells [.int .i64 e.kind, .int .i64 e.cell, .int .i64 e.dim, .int .i64 e.new, .int .i64 e.other, slV e.sides, slV e.pairs] 64 (0, 0)))] 4 [] 0, []⟩) (chle_ren_lit [(0, some 0), (1, some 1), (4, some 2), (3, some 3)] [(0, some 0), (1, some 1), (2, some 4), (3, some 3)] (by decide) (by decide) (by decide) (allTv_cons (v := .pointer (some ⟨0, 0, none⟩)) (by decide) (by simp (disch := first | decide | omega) only [lk_hit, lk_miss]) (tv_ptr (by simp (disch := first | decide | omega) only [lk_hit, lk_miss])) (allTv_cons (v := .pointer (some ⟨1, 0, none⟩)) (by decide) (by simp (disch := first | decide | omega) only [lk_hit, lk_miss]) (tv_ptr (by simp (disch := first | decide | omega) only [lk_hit, lk_miss])) (allTv_cons (v := gslV (rowE c.edits) c.edits.length) (by decide) (by simp (disch := first | decide | omega) only [lk_hit, lk_miss]) (bare_gslV (bares_rowE _) _ _ names_fz) (allTv_cons (v := .int .i64 (c.edits.length : Int)) (by decide) (by simp (disch := first | decide | omega) only [lk_hit, lk_miss]) (tv_flat 1 rfl) (allTv_cons (v := .int .i64 (k : Int)) (by decide) (by simp (disch := first | decide | omega) only [lk_hit, lk_miss]) (tv_flat 1 rfl) (allTv_cons (v := .pointer (some ⟨3, 0, none⟩)) (by decide) (by simp (disch := first | decide | omega) only [lk_hit, lk_miss]) (tv_ptr (by simp (disch := first | decide | omega) only [lk_hit, lk_miss])) allTv_nil)))))) (allTo_cons (o := .cells (gslV (rowB c.parents) c.parents.length :: gslV (rowE c.edits) c.edits.length :: (bvs c.tree ++ [.string (str c.text)])) 34 (0, 0)) 0 (by simp (disch := first | decide | omega) only [lk_hit, lk_miss]) (by decide) (by decide) (by simp (disch := first | decide | omega) only [lk_hit, lk_miss]) (to_bareO names_fz (bareO_bares (bares_encC c))) (allTo_cons (o := wob 1 4 (b5)) 1 (by simp (disch := first | decide | omega) only [lk_hit, lk_miss]) (by decide) (by decide) (by simp (disch := first | decide | omega) only [lk_hit, lk_miss]) (to_tvs (tvs_cons (tv_ptr (by simp (disch := first | decide | omega) only [lk_hit, lk_miss])) (tvs_cons (tv_slice (by simp (disch := first | decide | omega) only [lk_hit, lk_miss])) tvs_nil))) (allTo_cons (o := rowW (b5)) 4 (by simp (disch := first | decide | omega) only [lk_hit, lk_miss]) (by decide) (by decide) (by simp (disch := first | decide | omega) only [lk_hit, lk_miss]) (bareO_rowW _ names_fz) (allTo_cons (o := .cells [.int .i64 e.kind, .int .i64 e.cell, .int .i64 e.dim, .int .i64 e.new, .int .i64 e.other, slV e.sides, slV e.pairs] 64 (0, 0)) 3 (by simp (disch := first | decide | omega) only [lk_hit, lk_miss]) (by decide) (by decide) (by simp (disch := first | decide | omega) only [lk_hit, lk_miss]) (to_bareO names_fz (bareO_bares (bares_encEdit e))) allTo_nil)))) .nil) ?_
  refine xwp_seq (xwp_region (e := ?e40) (s' := ?s40) base29 ?h40 ?q40)
  case h40 =>
    simp (disch := first | decide | omega | (simp only [List.length_cons, List.length_nil, List.length_append, length_bvs, List.length_take, List.length_drop]; omega)) only [lenB_slV, go_sem, Nat.reduceAdd, Nat.reduceMul, Nat.reduceSub]
    all_goals with_reducible rfl
  case q40 =>
  refine xwp_block ?_
  refine xwp_le (s' := ⟨frm [(1, some (.pointer (some ⟨0, 0, none⟩))), (3, some (.pointer (some ⟨1, 0, none⟩))), (43, some (gslV (rowE c.edits) c.edits.length)), (44, some (.int .i64 (c.edits.length : Int))), (45, some (.int .i64 (k : Int))), (7, some (.pointer (some ⟨3, 0, none⟩))), (88, some (slV e.pairs)), (89, some (.int .i64 (e.pairs.length : Int))), (90, some (.int .i64 ((0 : Nat) : Int)))], wd [(0, some (.cells (gslV (rowB c.parents) c.parents.length :: gslV (rowE c.edits) c.edits.length :: (bvs c.tree ++ [.string (str c.text)])) 34 (0, 0))), (1, some (wob 1 2 (b5))), (2, some (rowW (b5))), (3, some (.cells [.int .i64 e.kind, .int .i64 e.cell, .int .i64 e.dim, .int .i64 e.new, .int .i64 e.other, slV e.sides, slV e.pairs] 64 (0, 0)))] 4 [] 0, []⟩) (chle_lit (by simp (disch := decide) [AllLk, lk_hit, lk_miss, lk_nil]) (by simp (disch := decide) [AllLk, lk_hit, lk_miss, lk_nil]) (by decide)) ?_
  refine xwp_loop (α := AccS encPr e.pairs b5) (fun x => ⟨frm [(1, some (.pointer (some ⟨0, 0, none⟩))), (3, some (.pointer (some ⟨1, 0, none⟩))), (43, some (gslV (rowE c.edits) c.edits.length)), (44, some (.int .i64 (c.edits.length : Int))), (45, some (.int .i64 (k : Int))), (7, some (.pointer (some ⟨3, 0, none⟩))), (88, some (slV e.pairs)), (89, some (.int .i64 (e.pairs.length : Int))), (90, some (.int .i64 (x.i : Int)))], wd [(0, some (.cells (gslV (rowB c.parents) c.parents.length :: gslV (rowE c.edits) c.edits.length :: (bvs c.tree ++ [.string (str c.text)])) 34 (0, 0))), (1, some (wob 1 2 (x.acc))), (2, some (rowW (x.acc))), (3, some (.cells [.int .i64 e.kind, .int .i64 e.cell, .int .i64 e.dim, .int .i64 e.new, .int .i64 e.other, slV e.sides, slV e.pairs] 64 (0, 0)))] 4 [] 0, []⟩) (fun x => e.pairs.length - x.i) ?_ ⟨0, b5, Nat.zero_le _, by simp⟩
  intro ⟨j, acw, hjw, heqw⟩
  simp only
  have halw := AccS.len (m := 20) heqw fun x hx => encPr_len (hre.p x hx)
  have hbw : acw.length ≤ 200212070 := by omega
  by_cases hltw : j < e.pairs.length
  · refine xwp_seq (xwp_region (e := ?e41) (s' := ?s41) base29 ?h41 ?q41)
    case h41 =>
      simp (disch := first | decide | omega | (simp only [List.length_cons, List.length_nil, List.length_append, length_bvs, List.length_take, List.length_drop]; omega)) only [go_sem, Nat.reduceAdd, Nat.reduceMul, Nat.reduceSub]
      all_goals with_reducible rfl
    case q41 =>
    refine xwp_seq (xwp_ct ?h42 ?q42)
    case h42 =>
      simp (disch := first | decide | omega | (simp only [List.length_cons, List.length_nil, List.length_append, length_bvs, List.length_take, List.length_drop]; omega)) only [go_sem, Nat.reduceAdd, Nat.reduceMul, Nat.reduceSub]
      all_goals with_reducible rfl
    case q42 =>
    refine xwp_skip ?_
    refine xwp_seq (xwp_block ?_)
    have hrv := rowV_at hltw
    have hpp := hre.p _ (List.getElem_mem hltw)
    have hst := flat_take (f := encPr) hltw
    obtain ⟨p, hp⟩ : ∃ p, p = e.pairs[j] := ⟨_, rfl⟩
    rw [← hp] at hrv hpp hst
    have hq1 := cU_len hpp.1
    have hq2 := cU_len hpp.2
    refine xwp_seq (xwp_region (e := ?e43) (s' := ?s43) base29 ?h43 ?q43)
    case h43 =>
      simp (disch := first | decide | omega | (simp only [List.length_cons, List.length_nil, List.length_append, length_bvs, List.length_take, List.length_drop]; omega)) only [iad_slV hltw, iadZ.eq_1, load_FP, hrv, go_sem, Nat.reduceAdd, Nat.reduceMul, Nat.reduceSub]
      all_goals with_reducible rfl
    case q43 =>
    refine xwp_le (s' := ⟨frm [(1, some (.pointer (some ⟨0, 0, none⟩))), (3, some (.pointer (some ⟨1, 0, none⟩))), (43, some (gslV (rowE c.edits) c.edits.length)), (44, some (.int .i64 (c.edits.length : Int))), (45, some (.int .i64 (k : Int))), (7, some (.pointer (some ⟨3, 0, none⟩))), (88, some (slV e.pairs)), (89, some (.int .i64 (e.pairs.length : Int))), (90, some (.int .i64 (j : Int))), (11, some (.pointer (some ⟨4, 0, none⟩)))], wd [(0, some (.cells (gslV (rowB c.parents) c.parents.length :: gslV (rowE c.edits) c.edits.length :: (bvs c.tree ++ [.string (str c.text)])) 34 (0, 0))), (1, some (wob 1 2 (acw))), (2, some (rowW (acw))), (3, some (.cells [.int .i64 e.kind, .int .i64 e.cell, .int .i64 e.dim, .int .i64 e.new, .int .i64 e.other, slV e.sides, slV e.pairs] 64 (0, 0))), (4, some (.cells [.int .i64 p.1, .int .i64 p.2] 71 (0, 0)))] 5 [] 0, []⟩) (chle_lit (by simp (disch := decide) [AllLk, lk_hit, lk_miss, lk_nil]) (by simp (disch := decide) [AllLk, lk_hit, lk_miss, lk_nil]) (by decide)) ?_
    have hgcw : ∀ cp, 2 ≤ cp → wsH pWC [.pointer (some ⟨1, 0, none⟩), .slice (some ⟨5, 0, none⟩) 2 cp] (wd ((5, some (.cells [.int .i64 p.1, .int .i64 p.2] 3 (0, 0))) :: [(0, some (.cells (gslV (rowB c.parents) c.parents.length :: gslV (rowE c.edits) c.edits.length :: (bvs c.tree ++ [.string (str c.text)])) 34 (0, 0))), (1, some (wob 1 2 (acw))), (2, some (rowW (acw))), (3, some (.cells [.int .i64 e.kind, .int .i64 e.cell, .int .i64 e.dim, .int .i64 e.new, .int .i64 e.other, slV e.sides, slV e.pairs] 64 (0, 0))), (4, some (.cells [.int .i64 p.1, .int .i64 p.2] 71 (0, 0)))]) 6 [] 0) = some (.ret (.tuple #[]), wd ((1, some (wob 1 6 (acw ++ encPr p))) :: (6, some (rowW (acw ++ encPr p))) :: (2, none) :: (5, none) :: ((5, some (.cells [.int .i64 p.1, .int .i64 p.2] 3 (0, 0))) :: [(0, some (.cells (gslV (rowB c.parents) c.parents.length :: gslV (rowE c.edits) c.edits.length :: (bvs c.tree ++ [.string (str c.text)])) 34 (0, 0))), (1, some (wob 1 2 (acw))), (2, some (rowW (acw))), (3, some (.cells [.int .i64 e.kind, .int .i64 e.cell, .int .i64 e.dim, .int .i64 e.new, .int .i64 e.other, slV e.sides, slV e.pairs] 64 (0, 0))), (4, some (.cells [.int .i64 p.1, .int .i64 p.2] 71 (0, 0)))])) (6 + 1) (1 :: 2 :: 5 :: []) (0 + 1 + 1 + 1)) := fun cp hcp => go_ws (l := acw) (vs := [p.1, p.2]) (by decide) (by decide) (by decide) (by simp (disch := first | decide | omega) only [lk_hit, lk_miss]) (by simp (disch := first | decide | omega) only [lk_hit, lk_miss]) rfl hcp (pWC_to (fun a ha => by simp only [List.mem_cons, List.not_mem_nil, or_false] at ha; rcases ha with rfl | rfl <;> first | exact hpp.1 | exact hpp.2) (Nat.le_of_ble_eq_true rfl) (fun h => by cases h) (by omega) (by simp only [List.flatMap_cons, List.flatMap_nil, List.append_nil, encPr]))
    refine xwp_region (e := ?e44) (s' := ?s44) base29 ?h44 ?q44
    case h44 =>
      simp (disch := first | decide | omega | (simp only [List.length_cons, List.length_nil, List.length_append, length_bvs, List.length_take, List.length_drop]; omega)) only [T29, iad_arr, hgcw, go_sem, Nat.reduceAdd, Nat.reduceMul, Nat.reduceSub]
      all_goals with_reducible rfl
    case q44 =>
    show XWp _ _ _ _ _ _
    refine xwp_region (e := ?e45) (s' := ?s45) base29 ?h45 ?q45
    case h45 =>
      simp (disch := first | decide | omega | (simp only [List.length_cons, List.length_nil, List.length_append, length_bvs, List.length_take, List.length_drop]; omega)) only [go_sem, Nat.reduceAdd, Nat.reduceMul, Nat.reduceSub]
      all_goals with_reducible rfl
    case q45 =>
    refine ⟨⟨j + 1, acw ++ encPr p, hltw, by rw [heqw, List.append_assoc, ← hst]⟩, by simp only; omega, ?_⟩
    exact chle_ren_lit [(0, some 0), (1, some 1), (6, some 2), (3, some 3)] [(0, some 0), (1, some 1), (2, some 6), (3, some 3)] (by decide) (by decide) (by decide) (allTv_cons (v := .pointer (some ⟨0, 0, none⟩)) (by decide) (by simp (disch := first | decide | omega) only [lk_hit, lk_miss]) (tv_ptr (by simp (disch := first | decide | omega) only [lk_hit, lk_miss])) (allTv_cons (v := .pointer (some ⟨1, 0, none⟩)) (by decide) (by simp (disch := first | decide | omega) only [lk_hit, lk_miss]) (tv_ptr (by simp (disch := first | decide | omega) only [lk_hit, lk_miss])) (allTv_cons (v := gslV (rowE c.edits) c.edits.length) (by decide) (by simp (disch := first | decide | omega) only [lk_hit, lk_miss]) (bare_gslV (bares_rowE _) _ _ names_fz) (allTv_cons (v := .int .i64 (c.edits.length : Int)) (by decide) (by simp (disch := first | decide | omega) only [lk_hit, lk_miss]) (tv_flat 1 rfl) (allTv_cons (v := .int .i64 (k : Int)) (by decide) (by simp (disch := first | decide | omega) only [lk_hit, lk_miss]) (tv_flat 1 rfl) (allTv_cons (v := .pointer (some ⟨3, 0, none⟩)) (by decide) (by simp (disch := first | decide | omega) only [lk_hit, lk_miss]) (tv_ptr (by simp (disch := first | decide | omega) only [lk_hit, lk_miss])) (allTv_cons (v := slV e.pairs) (by decide) (by simp (disch := first | decide | omega) only [lk_hit, lk_miss]) (bare_slV _ _ names_fz) (allTv_cons (v := .int .i64 (e.pairs.length : Int)) (by decide) (by simp (disch := first | decide | omega) only [lk_hit, lk_miss]) (tv_flat 1 rfl) (allTv_cons (v := .int .i64 ((j + 1 : Nat) : Int)) (by decide) (by simp (disch := first | decide | omega) only [lk_hit, lk_miss]) (tv_flat 1 rfl) allTv_nil))))))))) (allTo_cons (o := .cells (gslV (rowB c.parents) c.parents.length :: gslV (rowE c.edits) c.edits.length :: (bvs c.tree ++ [.string (str c.text)])) 34 (0, 0)) 0 (by simp (disch := first | decide | omega) only [lk_hit, lk_miss]) (by decide) (by decide) (by simp (disch := first | decide | omega) only [lk_hit, lk_miss]) (to_bareO names_fz (bareO_bares (bares_encC c))) (allTo_cons (o := wob 1 6 (acw ++ encPr p)) 1 (by simp (disch := first | decide | omega) only [lk_hit, lk_miss]) (by decide) (by decide) (by simp (disch := first | decide | omega) only [lk_hit, lk_miss]) (to_tvs (tvs_cons (tv_ptr (by simp (disch := first | decide | omega) only [lk_hit, lk_miss])) (tvs_cons (tv_slice (by simp (disch := first | decide | omega) only [lk_hit, lk_miss])) tvs_nil))) (allTo_cons (o := rowW (acw ++ encPr p)) 6 (by simp (disch := first | decide | omega) only [lk_hit, lk_miss]) (by decide) (by decide) (by simp (disch := first | decide | omega) only [lk_hit, lk_miss]) (bareO_rowW _ names_fz) (allTo_cons (o := .cells [.int .i64 e.kind, .int .i64 e.cell, .int .i64 e.dim, .int .i64 e.new, .int .i64 e.other, slV e.sides, slV e.pairs] 64 (0, 0)) 3 (by simp (disch := first | decide | omega) only [lk_hit, lk_miss]) (by decide) (by decide) (by simp (disch := first | decide | omega) only [lk_hit, lk_miss]) (to_bareO names_fz (bareO_bares (bares_encEdit e))) allTo_nil)))) .nil
  refine xwp_seq (xwp_region (e := ?e46) (s' := ?s46) base29 ?h46 ?q46)
  case h46 =>
    simp (disch := first | decide | omega | (simp only [List.length_cons, List.length_nil, List.length_append, length_bvs, List.length_take, List.length_drop]; omega)) only [go_sem, Nat.reduceAdd, Nat.reduceMul, Nat.reduceSub]
    all_goals with_reducible rfl
  case q46 =>
  refine xwp_seq (xwp_cf ?h47 ?q47)
  case h47 =>
    simp (disch := first | decide | omega | (simp only [List.length_cons, List.length_nil, List.length_append, length_bvs, List.length_take, List.length_drop]; omega)) only [go_sem, Nat.reduceAdd, Nat.reduceMul, Nat.reduceSub]
    all_goals with_reducible rfl
  case q47 =>
  refine xwp_exit ?_
  show XWp _ _ _ _ _ _
  have hinw : j = e.pairs.length := by omega
  rw [hinw, List.take_length] at heqw
  refine xwp_le (s' := ⟨frm [(1, some (.pointer (some ⟨0, 0, none⟩))), (3, some (.pointer (some ⟨1, 0, none⟩))), (43, some (gslV (rowE c.edits) c.edits.length)), (44, some (.int .i64 (c.edits.length : Int))), (45, some (.int .i64 (k : Int))), (7, some (.pointer (some ⟨3, 0, none⟩)))], wd [(0, some (.cells (gslV (rowB c.parents) c.parents.length :: gslV (rowE c.edits) c.edits.length :: (bvs c.tree ++ [.string (str c.text)])) 34 (0, 0))), (1, some (wob 1 2 (acw))), (2, some (rowW (acw))), (3, some (.cells [.int .i64 e.kind, .int .i64 e.cell, .int .i64 e.dim, .int .i64 e.new, .int .i64 e.other, slV e.sides, slV e.pairs] 64 (0, 0)))] 4 [] 0, []⟩) (chle_lit (by simp (disch := decide) [AllLk, lk_hit, lk_miss, lk_nil]) (by simp (disch := decide) [AllLk, lk_hit, lk_miss, lk_nil]) (by decide)) ?_
  clear hltw hjw hinw
  clear j
  refine xwp_region (e := ?e48) (s' := ?s48) base29 ?h48 ?q48
  case h48 =>
    simp (disch := first | decide | omega | (simp only [List.length_cons, List.length_nil, List.length_append, length_bvs, List.length_take, List.length_drop]; omega)) only [go_sem, Nat.reduceAdd, Nat.reduceMul, Nat.reduceSub]
    all_goals with_reducible rfl
  case q48 =>
  refine ⟨⟨k + 1, acw, hlt, ?_⟩, by simp only; omega, ?_⟩
  · rw [heqw, hb5, heqs, hb4, ha3, heq2, ← flat_take hlt, ← he]
    simp only [encEd, List.append_assoc]
  exact chle_ren_lit [(0, some 0), (1, some 1), (2, some 2)] [(0, some 0), (1, some 1), (2, some 2)] (by decide) (by decide) (by decide) (allTv_cons (v := .pointer (some ⟨0, 0, none⟩)) (by decide) (by simp (disch := first | decide | omega) only [lk_hit, lk_miss]) (tv_ptr (by simp (disch := first | decide | omega) only [lk_hit, lk_miss])) (allTv_cons (v := .pointer (some ⟨1, 0, none⟩)) (by decide) (by simp (disch := first | decide | omega) only [lk_hit, lk_miss]) (tv_ptr (by simp (disch := first | decide | omega) only [lk_hit, lk_miss])) (allTv_cons (v := gslV (rowE c.edits) c.edits.length) (by decide) (by simp (disch := first | decide | omega) only [lk_hit, lk_miss]) (bare_gslV (bares_rowE _) _ _ names_fz) (allTv_cons (v := .int .i64 (c.edits.length : Int)) (by decide) (by simp (disch := first | decide | omega) only [lk_hit, lk_miss]) (tv_flat 1 rfl) (allTv_cons (v := .int .i64 ((k + 1 : Nat) : Int)) (by decide) (by simp (disch := first | decide | omega) only [lk_hit, lk_miss]) (tv_flat 1 rfl) allTv_nil))))) (allTo_cons (o := .cells (gslV (rowB c.parents) c.parents.length :: gslV (rowE c.edits) c.edits.length :: (bvs c.tree ++ [.string (str c.text)])) 34 (0, 0)) 0 (by simp (disch := first | decide | omega) only [lk_hit, lk_miss]) (by decide) (by decide) (by simp (disch := first | decide | omega) only [lk_hit, lk_miss]) (to_bareO names_fz (bareO_bares (bares_encC c))) (allTo_cons (o := wob 1 2 (acw)) 1 (by simp (disch := first | decide | omega) only [lk_hit, lk_miss]) (by decide) (by decide) (by simp (disch := first | decide | omega) only [lk_hit, lk_miss]) (to_tvs (tvs_cons (tv_ptr (by simp (disch := first | decide | omega) only [lk_hit, lk_miss])) (tvs_cons (tv_slice (by simp (disch := first | decide | omega) only [lk_hit, lk_miss])) tvs_nil))) (allTo_cons (o := rowW (acw)) 2 (by simp (disch := first | decide | omega) only [lk_hit, lk_miss]) (by decide) (by decide) (by simp (disch := first | decide | omega) only [lk_hit, lk_miss]) (bareO_rowW _ names_fz) allTo_nil))) .nil
end Go.Proofs.YthlkgmdkabelpaaGreatDoor.X
namespace Go.Proofs.YthlkgmdkabelpaaGreatDoor.X
open Go Go.RowKit
theorem rdU_dU : ∀ (n k acc : Nat) (s : List UInt8), n * 2 ^ (7 * k) < 18446744073709551616 → (k = 0 ∨ 0 < n) → rdU k acc (dU n ++ s) = some (acc + n * 2 ^ (7 * k), s) := by
  intro n
  induction n using Nat.strongRecOn with
  | _ n ih =>
    intro k acc s hn hk
    have h9 : 9 ≤ k → n < 2 := fun h => by
      have h2 : (2 : Nat) ^ 63 ≤ 2 ^ (7 * k) := Nat.pow_le_pow_right (by decide) (by omega)
      rcases Nat.lt_or_ge n 2 with q | q
      · exact q
      · have h3 : 2 * 2 ^ 63 ≤ n * 2 ^ (7 * k) := Nat.mul_le_mul q h2
        have h4 : (2 : Nat) ^ 63 = 9223372036854775808 := rfl
        omega
    by_cases hb : 128 ≤ n
    · have hnk : ¬ 9 ≤ k := fun h => by have := h9 h; omega
      have hto : (UInt8.ofNat (n % 128 + 128)).toNat = n % 128 + 128 := by
        rw [UInt8.toNat_ofNat']; omega
      rw [dU_big hb, List.cons_append]
      unfold rdU
      rw [hto, if_neg (by omega), if_neg (by omega)]
      have hm : (n % 128 + 128) % 128 = n % 128 := by omega
      have e1 : (2 : Nat) ^ (7 * (k + 1)) = 128 * 2 ^ (7 * k) := by
        rw [Nat.mul_succ, Nat.pow_add]; omega
      have e2 : n / 128 * (128 * 2 ^ (7 * k)) + n % 128 * 2 ^ (7 * k) = n * 2 ^ (7 * k) := by
        rw [← Nat.mul_assoc, ← Nat.add_mul, Nat.mul_comm (n / 128) 128, Nat.div_add_mod]
      rw [hm, ih (n / 128) (by omega) (k + 1) _ s (by rw [e1]; omega) (.inr (by omega)), e1]
      refine congrArg some (Prod.ext ?_ rfl)
      show acc + n % 128 * 2 ^ (7 * k) + n / 128 * (128 * 2 ^ (7 * k)) = acc + n * 2 ^ (7 * k)
      omega
    · have hto : (UInt8.ofNat n).toNat = n := by
        rw [UInt8.toNat_ofNat']; omega
      rw [dU_small (by omega)]
      show rdU k acc (UInt8.ofNat n :: s) = _
      unfold rdU
      rw [hto, if_neg (fun h => by have := h9 h.1; omega), if_pos (by omega), if_neg (by omega), Nat.mod_eq_of_lt (by omega)]
theorem rdU_dU0 {n : Nat} {s : List UInt8} (h : n < 18446744073709551616) : rdU 0 0 (dU n ++ s) = some (n, s) := by
  rw [rdU_dU n 0 0 s (by omega) (.inl rfl)]
  simp
theorem rdM_dU {most n : Nat} {s : List UInt8} (h : n ≤ most) (hm : most < 18446744073709551616) : rdM most (dU n ++ s) = some (n, s) := rdM_ok (rdU_dU0 (by omega)) h
theorem rdI_cU {a : Int} {s : List UInt8} (h : I64 a) : rdI (cU a ++ s) = some (a, s) := by
  obtain ⟨h1, h2⟩ := h
  unfold rdI cU
  have hz : zz a < 18446744073709551616 := by unfold zz; split <;> omega
  rw [rdU_dU0 hz]
  have : unz (zz a) = a := by unfold unz zz; split <;> split <;> omega
  show some (unz (zz a), s) = _
  rw [this]
theorem rdP_flat : ∀ (l : List (Int × Int)) (s : List UInt8), (∀ x ∈ l, I64 x.1 ∧ I64 x.2) → rdP l.length (l.flatMap encPr ++ s) = some (l, s)
  | [], s, _ => rfl
  | (a, b) :: l, s, h => by
    obtain ⟨h1, h2⟩ := h (a, b) List.mem_cons_self
    rw [List.length_cons, List.flatMap_cons, List.append_assoc]
    show rdP (l.length + 1) ((cU a ++ cU b) ++ (l.flatMap encPr ++ s)) = _
    rw [List.append_assoc, rdP_ok (rdI_cU h1) (rdI_cU h2), rdP_flat l s fun x hx => h x (List.mem_cons_of_mem _ hx)]
    rfl
theorem rdE_encEd {e : EditL} {s : List UInt8} (h : OkE e) (hr : RgE e) : rdE (encEd e ++ s) = some (e, s) := by
  unfold encEd rdE
  simp only [List.append_assoc]
  rw [rdI_cU hr.a1]; simp only
  rw [rdI_cU hr.a2]; simp only
  rw [rdI_cU hr.a3]; simp only
  rw [rdI_cU hr.a4]; simp only
  rw [rdI_cU hr.a5]; simp only
  rw [rdM_dU h.s (by decide)]; simp only
  rw [rdP_flat _ _ hr.s]; simp only
  rw [rdM_dU h.p (by decide)]; simp only
  rw [rdP_flat _ _ hr.p]
theorem rdL_flat {α : Type} {p : List UInt8 → Option (α × List UInt8)} {f : α → List UInt8} : ∀ (l : List α) (s : List UInt8), (∀ x ∈ l, ∀ s, p (f x ++ s) = some (x, s)) → rdL p l.length (l.flatMap f ++ s) = some (l, s)
  | [], s, _ => rfl
  | a :: l, s, h => by
    rw [List.length_cons, List.flatMap_cons, List.append_assoc, rdL_ok (h a List.mem_cons_self _), rdL_flat l s fun x hx => h x (List.mem_cons_of_mem _ hx)]
    rfl
theorem rdB_app {h s : List UInt8} (hh : h.length = 32) : rdB (h ++ s) = some (h, s) := by
  unfold rdB
  rw [if_pos (by rw [List.length_append]; omega), List.take_left' hh, List.drop_left' hh]
theorem dec_encB {c : CommitL} (hc : OkC c) (hr : ∀ x ∈ c.edits, RgE x) (hcan : canE c) : encB c = 3 :: (encB c).tail ∧ dec (encB c).tail = some c := by
  obtain ⟨h8, htx⟩ := hcan
  refine ⟨rfl, ?_⟩
  have e : (encB c).tail = dU c.parents.length ++ (c.parents.flatMap id ++ (dU c.edits.length ++ (c.edits.flatMap encEd ++ (c.tree ++ (dU c.text.length ++ c.text))))) := by
    unfold encB
    simp only [List.append_assoc, List.cons_append, List.tail_cons]
  rw [e]
  unfold dec
  rw [rdM_dU h8 (by decide)]; simp only
  rw [rdL_flat (f := id) _ _ fun x hx s => rdB_app (hc.p x hx)]; simp only
  rw [rdM_dU hc.ne (by decide)]; simp only
  rw [rdL_flat _ _ fun x hx s => rdE_encEd (hc.e x hx) (hr x hx)]; simp only
  rw [rdB_app hc.t]; simp only
  rw [rdM_dU htx (by decide)]; simp only
  rw [if_pos ⟨Nat.le_refl _, List.drop_eq_nil_of_le (Nat.le_refl _)⟩, List.take_of_length_le (Nat.le_refl _)]
end Go.Proofs.YthlkgmdkabelpaaGreatDoor.X
