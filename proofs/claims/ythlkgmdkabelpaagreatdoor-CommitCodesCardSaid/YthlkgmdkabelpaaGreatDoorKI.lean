/-
  Commits encoded: the law's commit by numbers.
  Commits encoded: the law's commit by numbers, walked.
  No condition.
-/
import Derived.Test.YthlkgmdkabelpaaGreatDoorKH
set_option linter.all false
set_option linter.unusedVariables false
set_option linter.unusedSimpArgs false
namespace Go.Proofs.YthlkgmdkabelpaaGreatDoor.X
open Go Go.RowKit
structure ArgSl (v : Value) (cs : List Value) (n : Nat) : Prop where
  one : oneC v = true
  len : ∀ (W : XW) (e : TypeId), lenB W v (some (.slice e)) = some (.val (some (.int .i64 (n : Int))))
  iad : ∀ (P : Program) (e : TypeId) (i : Nat) (j : IntKind), i < n → iadX P (some (.slice e)) (some v) (some (.int j ((i : Nat) : Int))) = iadZ cs i n (sz P e)
  bare : Bare v
structure N7 where
  a0 : Int
  a1 : Int
  a2 : Int
  a3 : Int
  a4 : Int
  a5 : Int
  a6 : Int
def enc7 (n : N7) : List Value := [.int .i64 n.a0, .int .i64 n.a1, .int .i64 n.a2, .int .i64 n.a3, .int .i64 n.a4, .int .i64 n.a5, .int .i64 n.a6]
def row7 (l : List N7) : List Value := l.flatMap enc7
structure MadeL where
  ps : List UInt8
  es : List N7
  text : List UInt8
  tree : List UInt8
  vp : Value
  ve : Value
structure OkM (x : MadeL) : Prop where
  p : ArgSl x.vp (bvs x.ps) x.ps.length
  e : ArgSl x.ve (row7 x.es) x.es.length
  t : x.tree.length = 32
  np : x.ps.length < 9223372036854775808
  ne : x.es.length < 9223372036854775808
def encM (x : MadeL) : List Value := x.vp :: x.ve :: .string (str x.text) :: bvs x.tree
def mkH (p : UInt8) : List UInt8 := p :: 7 :: List.replicate 30 0
def mkS (n : N7) : List (Int × Int) := if 0 < n.a5.tmod 3 then [(n.a5, n.a6), (n.a6, 1)] else []
def mkP (n : N7) : List (Int × Int) := if n.a6.tmod 2 = 1 then [(n.a5, n.a6)] else []
def mkE (n : N7) : EditL := ⟨n.a0, n.a1, n.a2, n.a3, n.a4, mkS n, mkP n⟩
def mkC (x : MadeL) : CommitL := ⟨(x.ps.take 10).map mkH, (x.es.take 20).map mkE, x.tree, x.text⟩
theorem bvs_flatM : ∀ l : List UInt8, bvs l = l.flatMap (fun b : UInt8 => [Value.int .u8 ((b.toNat : Nat) : Int)])
  | [] => rfl
  | a :: l => by rw [List.flatMap_cons, ← bvs_flatM l]; rfl
theorem byte_at {l : List UInt8} {i : Nat} (h : i < l.length) : ((bvs l).drop (i * 1)).take 1 = [.int .u8 ((l[i].toNat : Nat) : Int)] := by
  rw [bvs_flatM]
  exact row_at (g := fun b : UInt8 => [Value.int .u8 ((b.toNat : Nat) : Int)]) (m := 1) (l := l) (fun x _ => rfl) h
theorem row7_at {l : List N7} {i : Nat} (h : i < l.length) : ((row7 l).drop (i * 7)).take 7 = enc7 l[i] := row_at (g := enc7) (m := 7) (fun x _ => rfl) h
theorem bvs_mkH {p : UInt8} : bvs (mkH p) = [.int .u8 ((p.toNat : Nat) : Int), .int .u8 ((7 : Nat) : Int), .int .u8 0, .int .u8 0, .int .u8 0, .int .u8 0, .int .u8 0, .int .u8 0, .int .u8 0, .int .u8 0, .int .u8 0, .int .u8 0, .int .u8 0, .int .u8 0, .int .u8 0, .int .u8 0, .int .u8 0, .int .u8 0, .int .u8 0, .int .u8 0, .int .u8 0, .int .u8 0, .int .u8 0, .int .u8 0, .int .u8 0, .int .u8 0, .int .u8 0, .int .u8 0, .int .u8 0, .int .u8 0, .int .u8 0, .int .u8 0] := rfl
theorem okB_mkH (p : UInt8) : okB (mkH p) := rfl
theorem okC_mkC {x : MadeL} (hx : OkM x) : OkC (mkC x) where
  t := hx.t
  p := fun h hh => by
    obtain ⟨p, _, rfl⟩ := List.mem_map.1 hh
    exact okB_mkH p
  np := by show ((x.ps.take 10).map mkH).length ≤ 1000; rw [List.length_map, List.length_take]; omega
  ne := by show ((x.es.take 20).map mkE).length ≤ 1000; rw [List.length_map, List.length_take]; omega
  e := fun e he => by
    obtain ⟨n, _, rfl⟩ := List.mem_map.1 he
    refine ⟨?_, ?_⟩
    · show (mkS n).length ≤ 4000; unfold mkS; split <;> simp
    · show (mkP n).length ≤ 4000; unfold mkP; split <;> simp
theorem take_snoc {α β : Type} {f : α → β} {l : List α} {m i : Nat} (h : i < l.length) (hm : i < m) : ((l.take m).take i).map f ++ [f l[i]] = ((l.take m).take (i + 1)).map f := by
  rw [List.take_take, List.take_take, Nat.min_eq_left (by omega), Nat.min_eq_left (by omega), List.take_succ_eq_append_getElem h, List.map_append]
  rfl
end Go.Proofs.YthlkgmdkabelpaaGreatDoor.X
namespace Go.Proofs.YthlkgmdkabelpaaGreatDoor.X
open Go Go.RowKit
def zc35 : List Value := .slice none 0 0 :: .slice none 0 0 :: zt
theorem bares_zc35 : Bares zc35 := bares_cons (bare_flat 1 rfl) (bares_cons (bare_flat 1 rfl) bares_zt)
theorem bares_encM {x : MadeL} (hx : OkM x) : Bares (encM x) := bares_cons hx.p.bare (bares_cons hx.e.bare (bares_cons bare_str (bares_bvs _)))
theorem xwp_seq_to {P : Program} {N k : Nat} {c d : Code} {s : XS} {Q : XQ} (S : XS) (h : XWp P N k c s fun e s' => e = .norm ∧ ChLe P k s' S) (q : XWp P N k d S Q) : XWp P N k (.seq c d) s Q :=
  xwp_seq (xwp_mono (fun e s1 hx => by
    obtain ⟨rfl, hl⟩ := hx
    exact xwp_le hl q) h)
theorem allLk_cons {α : Type} {b t : Nat} {v : Option α} {F F' : List (Nat × Option α)} (h : t < b) (hl : lk F t = v) (hs : AllLk b F F') : AllLk b F ((t, v) :: F') := by
  cases v with
  | none => exact hs
  | some v => exact ⟨⟨h, hl⟩, hs⟩
theorem chle_frame {P : Program} {k : Nat} {F F' : List (Nat × Option Value)} {W : XW} {ds : List XDef} (h : AllLk 511 F F') : ChLe P k ⟨frm F, W, ds⟩ ⟨frm F', W, ds⟩ :=
  chle_sub (fun t v e => by
    obtain ⟨h1, h2⟩ := h.mem _ _ (lk_mem (frm_some e))
    show (frm F).get t = some v
    rw [frm_get h1]; exact h2) (fun n o e => e) (Nat.le_refl _) rfl
structure LM {α β : Type} (f : α → β) (l : List α) where
  i : Nat
  m : List β
  hi : i ≤ l.length
  hm : m = (l.take i).map f
set_option maxHeartbeats 1000000 in
theorem madeLocal (x : MadeL) (hx : OkM x) : Local Tryz.prog 6 [.agg (encM x).toArray] (wd [] 0 [] 0) fun e W' => e = .ret (.agg (encC (mkC x)).toArray) := by
  refine lit_local base0 Tryz.func6 rfl (Nat.le_of_ble_eq_true rfl) ?_
  simp only [frOfL.eq_1, frOfL.eq_2, wd_next, Tryz.ntmps6, Nat.reduceAdd, encM]
  have htr := hx.t
  have hpo := hx.p.one
  have hpl := hx.p.len
  have hpi := hx.p.iad
  have heo := hx.e.one
  have hel := hx.e.len
  have hei := hx.e.iad
  have hnp := hx.np
  have hnq := hx.ne
  refine xwp_seq (xwp_region (e := ?e1) (s' := ?s1) base0 ?h1 ?q1)
  case h1 =>
    simp (disch := first | decide | omega | (simp only [List.length_cons, List.length_nil, List.length_append, length_bvs, List.length_take, List.length_drop]; omega)) only [hpo, heo, htr, go_sem, Nat.reduceAdd, Nat.reduceMul, Nat.reduceSub]
    all_goals with_reducible rfl
  case q1 =>
  refine xwp_seq (xwp_region (e := ?e2) (s' := ?s2) base0 ?h2 ?q2)
  case h2 =>
    simp (disch := first | decide | omega | (simp only [List.length_cons, List.length_nil, List.length_append, length_bvs, List.length_take, List.length_drop]; omega)) only [htr, one_str, List.drop_eq_nil_of_le, List.all_append, one_bvs, go_sem, Nat.reduceAdd, Nat.reduceMul, Nat.reduceSub]
    all_goals with_reducible rfl
  case q2 =>
  refine xwp_le (s' := ⟨frm [(1, some (.pointer (some ⟨0, 0, none⟩))), (2, some (.pointer (some ⟨1, 0, none⟩))), (3, some (.pointer (some ⟨2, 0, none⟩)))], wd [(0, some (.cells (x.vp :: x.ve :: .string (str x.text) :: bvs x.tree) 26 (0, 0))), (1, some (.cells zc35 34 (0, 0))), (2, some (.cells (.slice none 0 0 :: .slice none 0 0 :: (bvs x.tree ++ [.string (str x.text)])) 34 (0, 0)))] 3 [] 0, []⟩) (chle_lit (by simp (disch := decide) [AllLk, lk_hit, lk_miss, lk_nil]) ⟨⟨by decide, rfl⟩, ⟨by decide, rfl⟩, ⟨by decide, rfl⟩, trivial⟩ (by decide)) ?_
  obtain ⟨q, hq⟩ : ∃ q, q = x.ps.take 10 := ⟨_, rfl⟩
  have hql : q.length = min 10 x.ps.length := by rw [hq, List.length_take]
  refine xwp_seq ?_
  refine xwp_seq (xwp_region (e := ?e3) (s' := ?s3) base0 ?h3 ?q3)
  case h3 =>
    simp (disch := first | decide | omega | (simp only [List.length_cons, List.length_nil, List.length_append, length_bvs, List.length_take, List.length_drop]; omega)) only [go_sem, Nat.reduceAdd, Nat.reduceMul, Nat.reduceSub]
    all_goals with_reducible rfl
  case q3 =>
  refine xwp_block ?_
  refine xwp_le (s' := ⟨frm [(1, some (.pointer (some ⟨0, 0, none⟩))), (2, some (.pointer (some ⟨1, 0, none⟩))), (3, some (.pointer (some ⟨2, 0, none⟩))), (4, some (.int .i64 ((0 : Nat) : Int)))], wd [(0, some (.cells (x.vp :: x.ve :: .string (str x.text) :: bvs x.tree) 26 (0, 0))), (1, some (.cells zc35 34 (0, 0))), (2, some (.cells (gsv 3 0 :: .slice none 0 0 :: (bvs x.tree ++ [.string (str x.text)])) 34 (0, 0))), (3, growO 32 (rowB []) 0)] 4 [] 0, []⟩) (chle_lit (by simp (disch := decide) [AllLk, lk_hit, lk_miss, lk_nil]) (by simp (disch := decide) [AllLk, lk_hit, lk_miss, lk_nil, gsv, growO]) (by decide)) ?_
  refine xwp_loop (α := LM mkH q) (fun y => ⟨frm [(1, some (.pointer (some ⟨0, 0, none⟩))), (2, some (.pointer (some ⟨1, 0, none⟩))), (3, some (.pointer (some ⟨2, 0, none⟩))), (4, some (.int .i64 (y.i : Int)))], wd [(0, some (.cells (x.vp :: x.ve :: .string (str x.text) :: bvs x.tree) 26 (0, 0))), (1, some (.cells zc35 34 (0, 0))), (2, some (.cells (gsv 3 y.m.length :: .slice none 0 0 :: (bvs x.tree ++ [.string (str x.text)])) 34 (0, 0))), (3, growO 32 (rowB y.m) y.m.length)] 4 [] 0, []⟩) (fun y => q.length - y.i) ?_ ⟨0, [], Nat.zero_le _, rfl⟩
  intro ⟨i, m, hi, hm⟩
  simp only
  have hml : m.length = i := by rw [hm, List.length_map, List.length_take]; omega
  have hmo : ∀ h ∈ m, okB h := fun h hh => by
    rw [hm] at hh
    obtain ⟨p, _, rfl⟩ := List.mem_map.1 hh
    exact okB_mkH p
  by_cases hgo : i < x.ps.length ∧ i < 10
  · obtain ⟨h1, h2⟩ := hgo
    refine xwp_seq ?_
    refine xwp_seq (xwp_region (e := ?e4) (s' := ?s4) base0 ?h4 ?q4)
    case h4 =>
      simp (disch := first | decide | omega | (simp only [List.length_cons, List.length_nil, List.length_append, length_bvs, List.length_take, List.length_drop]; omega)) only [hpl, go_sem, Nat.reduceAdd, Nat.reduceMul, Nat.reduceSub]
      all_goals with_reducible rfl
    case q4 =>
    refine xwp_ct ?h5 ?q5
    case h5 =>
      simp (disch := first | decide | omega | (simp only [List.length_cons, List.length_nil, List.length_append, length_bvs, List.length_take, List.length_drop]; omega)) only [go_sem, Nat.reduceAdd, Nat.reduceMul, Nat.reduceSub]
      all_goals with_reducible rfl
    case q5 =>
    refine xwp_skip ?_
    have hpb := byte_at h1
    have hm1 : m ++ [mkH x.ps[i]] = (q.take (i + 1)).map mkH := by rw [hm, hq]; exact take_snoc h1 h2
    obtain ⟨p, hp⟩ : ∃ p, p = x.ps[i] := ⟨_, rfl⟩
    rw [← hp] at hpb hm1
    refine xwp_bdrawn_to base0 ⟨frm [(1, some (.pointer (some ⟨0, 0, none⟩))), (2, some (.pointer (some ⟨1, 0, none⟩))), (3, some (.pointer (some ⟨2, 0, none⟩))), (4, some (.int .i64 (i : Int)))], wd [(0, some (.cells (x.vp :: x.ve :: .string (str x.text) :: bvs x.tree) 26 (0, 0))), (1, some (.cells zc35 34 (0, 0))), (2, some (.cells (.slice (some ⟨5, 0, none⟩) (m.length + 1) openCap :: .slice none 0 0 :: (bvs x.tree ++ [.string (str x.text)])) 34 (0, 0))), (5, some (.cells (rowB (m ++ [mkH p])) 32 (0, 0)))] 6 [] 0, []⟩ ?hdu ?qdu
    case hdu =>
      rcases m with _ | ⟨a, m'⟩
      · refine ⟨?rsx, ?sx, ?hx, ?kx, ?lx⟩
        case hx =>
          simp (disch := first | decide | omega | (simp only [List.length_cons, List.length_nil, List.length_append, length_bvs, List.length_take, List.length_drop]; omega)) only [traceX.eq_1, traceX.eq_2, trc1.eq_1, trcK.eq_1, trcK.eq_2, traceD_nil, traceD_t, traceD_f, holeK.eq_1, holeK.eq_2, hpl, hpi, hpb, iadZ.eq_1, load_FP, gsv.eq_1, growO.eq_1, rowB_nil, go_sem, Nat.reduceAdd, Nat.reduceMul, Nat.reduceSub]
          all_goals with_reducible rfl
        case kx => kernel_rfl
        case lx => exact chle_lit (by simp (disch := decide) [AllLk, lk_hit, lk_miss, lk_nil]) ⟨⟨by decide, rfl⟩, ⟨by decide, rfl⟩, ⟨by decide, rfl⟩, ⟨by decide, rfl⟩, trivial⟩ (by decide)
      · have hlen := rowB_length (l := a :: m') hmo
        simp only [List.length_cons] at hlen hml
        refine ⟨?rsy, ?sy, ?hy, ?ky, ?ly⟩
        case hy =>
          simp (disch := first | decide | omega | (simp only [List.length_cons, List.length_nil, List.length_append, length_bvs, List.length_take, List.length_drop]; omega)) only [traceX.eq_1, traceX.eq_2, trc1.eq_1, trcK.eq_1, trcK.eq_2, traceD_nil, traceD_t, traceD_f, holeK.eq_1, holeK.eq_2, hpl, hpi, hpb, iadZ.eq_1, load_FP, gsv.eq_2, growO.eq_2, List.length_cons, go_sem, Nat.reduceAdd, Nat.reduceMul, Nat.reduceSub]
          all_goals with_reducible rfl
        case ky => kernel_rfl
        case ly => exact chle_lit (by simp (disch := decide) [AllLk, lk_hit, lk_miss, lk_nil]) ⟨⟨by decide, rfl⟩, ⟨by decide, rfl⟩, ⟨by decide, rfl⟩, ⟨by decide, by rw [← rowB_snoc]; rfl⟩, trivial⟩ (by decide)
    case qdu =>
    refine xwp_region (e := ?e6) (s' := ?s6) base0 ?h6 ?q6
    case h6 =>
      simp (disch := first | decide | omega | (simp only [List.length_cons, List.length_nil, List.length_append, length_bvs, List.length_take, List.length_drop]; omega)) only [go_sem, Nat.reduceAdd, Nat.reduceMul, Nat.reduceSub]
      all_goals with_reducible rfl
    case q6 =>
    refine ⟨⟨i + 1, m ++ [mkH p], by omega, hm1⟩, by simp only; omega, ?_⟩
    simp only [List.length_append, List.length_cons, List.length_nil, Nat.zero_add, gsv.eq_2, growO.eq_2]
    exact chle_ren_lit [(0, some 0), (1, some 1), (2, some 2), (5, some 3)] [(0, some 0), (1, some 1), (2, some 2), (3, some 5)] (by decide) (by decide) (by decide) (allTv_cons (v := .pointer (some ⟨0, 0, none⟩)) (by decide) (by simp (disch := first | decide | omega) only [lk_hit, lk_miss]) (tv_ptr (by simp (disch := first | decide | omega) only [lk_hit, lk_miss])) (allTv_cons (v := .pointer (some ⟨1, 0, none⟩)) (by decide) (by simp (disch := first | decide | omega) only [lk_hit, lk_miss]) (tv_ptr (by simp (disch := first | decide | omega) only [lk_hit, lk_miss])) (allTv_cons (v := .pointer (some ⟨2, 0, none⟩)) (by decide) (by simp (disch := first | decide | omega) only [lk_hit, lk_miss]) (tv_ptr (by simp (disch := first | decide | omega) only [lk_hit, lk_miss])) (allTv_cons (v := .int .i64 ((i + 1 : Nat) : Int)) (by decide) (by simp (disch := first | decide | omega) only [lk_hit, lk_miss]) (tv_flat 1 rfl) allTv_nil))))
      (allTo_cons (o := .cells (x.vp :: x.ve :: .string (str x.text) :: bvs x.tree) 26 (0, 0)) 0 (by simp (disch := first | decide | omega) only [lk_hit, lk_miss]) (by decide) (by decide) (by simp (disch := first | decide | omega) only [lk_hit, lk_miss]) (to_bareO names_fz (bareO_bares (bares_encM hx)))
      (allTo_cons (o := .cells zc35 34 (0, 0)) 1 (by simp (disch := first | decide | omega) only [lk_hit, lk_miss]) (by decide) (by decide) (by simp (disch := first | decide | omega) only [lk_hit, lk_miss]) (to_bareO names_fz (bareO_bares (bares_zc35)))
      (allTo_cons (o := .cells (.slice (some ⟨5, 0, none⟩) (m.length + 1) openCap :: .slice none 0 0 :: (bvs x.tree ++ [.string (str x.text)])) 34 (0, 0)) 2 (by simp (disch := first | decide | omega) only [lk_hit, lk_miss]) (by decide) (by decide) (by simp (disch := first | decide | omega) only [lk_hit, lk_miss]) (to_tvs (tvs_cons (tv_slice (by simp (disch := first | decide | omega) only [lk_hit, lk_miss])) (tvs_cons (tv_flat 1 rfl) (bares_append (bares_bvs _) (bares_cons bare_str bares_nil) _ names_fz))))
      (allTo_cons (o := .cells (rowB (m ++ [mkH p])) 32 (0, 0)) 5 (by simp (disch := first | decide | omega) only [lk_hit, lk_miss]) (by decide) (by decide) (by simp (disch := first | decide | omega) only [lk_hit, lk_miss]) (to_bareO names_fz (bareO_bares (bares_rowB _))) allTo_nil)))) .nil
  · have hin : i = q.length := by omega
    refine xwp_seq ?_
    refine xwp_region_to base0 ⟨frm [(1, some (.pointer (some ⟨0, 0, none⟩))), (2, some (.pointer (some ⟨1, 0, none⟩))), (3, some (.pointer (some ⟨2, 0, none⟩))), (21, some (.bool false))], wd [(0, some (.cells (x.vp :: x.ve :: .string (str x.text) :: bvs x.tree) 26 (0, 0))), (1, some (.cells zc35 34 (0, 0))), (2, some (.cells (gsv 3 m.length :: .slice none 0 0 :: (bvs x.tree ++ [.string (str x.text)])) 34 (0, 0))), (3, growO 32 (rowB m) m.length)] 4 [] 0, []⟩ ?hsu ?qsu
    case hsu =>
      by_cases h1 : i < x.ps.length
      · have h2 : ¬ i < 10 := fun h => hgo ⟨h1, h⟩
        refine ⟨?sya, ?aya, ?bya⟩
        case aya =>
          simp (disch := first | decide | omega | (simp only [List.length_cons, List.length_nil, List.length_append, length_bvs, List.length_take, List.length_drop]; omega)) only [hpl, go_sem, Nat.reduceAdd, Nat.reduceMul, Nat.reduceSub]
          all_goals with_reducible rfl
        case bya => exact chle_frame (by simp (disch := decide) [AllLk, lk_hit, lk_miss, lk_nil])
      · refine ⟨?syb, ?ayb, ?byb⟩
        case ayb =>
          simp (disch := first | decide | omega | (simp only [List.length_cons, List.length_nil, List.length_append, length_bvs, List.length_take, List.length_drop]; omega)) only [hpl, go_sem, Nat.reduceAdd, Nat.reduceMul, Nat.reduceSub]
          all_goals with_reducible rfl
        case byb => exact chle_frame (by simp (disch := decide) [AllLk, lk_hit, lk_miss, lk_nil])
    case qsu =>
    refine xwp_cf ?h7 ?q7
    case h7 =>
      simp (disch := first | decide | omega | (simp only [List.length_cons, List.length_nil, List.length_append, length_bvs, List.length_take, List.length_drop]; omega)) only [go_sem, Nat.reduceAdd, Nat.reduceMul, Nat.reduceSub]
      all_goals with_reducible rfl
    case q7 =>
    refine xwp_exit ?_
    show XWp _ _ _ _ _ _
    have hmq : m = q.map mkH := by rw [hm, hin, List.take_length]
    refine xwp_le (ChLe.trans (freeze_row (c := rowB m) (d := (gsv 3 m.length :: .slice none 0 0 :: (bvs x.tree ++ [.string (str x.text)]))) (e := 32) (e2 := 34) (fr2 := (0, 0)) (k := m.length) (L' := [(0, some (.cells (x.vp :: x.ve :: .string (str x.text) :: bvs x.tree) 26 (0, 0))), (1, some (.cells zc35 34 (0, 0))), (2, some (.cells (gslV (rowB m) m.length :: .slice none 0 0 :: (bvs x.tree ++ [.string (str x.text)])) 34 (0, 0)))]) 3 2 0 (by simp (disch := first | decide | omega) only [lk_hit, lk_miss]) (by simp (disch := first | decide | omega) only [lk_hit, lk_miss]) rfl (by decide) (by decide) (by decide) (by decide) (by show m.length ≤ 4611686018427387904; omega) .nil (by simp (disch := decide) [AllLk, lk_hit, lk_miss, lk_nil]))
      (chle_lit (F' := [(1, some (.pointer (some ⟨0, 0, none⟩))), (2, some (.pointer (some ⟨1, 0, none⟩))), (3, some (.pointer (some ⟨2, 0, none⟩)))]) (L' := [(0, some (.cells (x.vp :: x.ve :: .string (str x.text) :: bvs x.tree) 26 (0, 0))), (1, some (.cells zc35 34 (0, 0))), (2, some (.cells (gslV (rowB m) m.length :: .slice none 0 0 :: (bvs x.tree ++ [.string (str x.text)])) 34 (0, 0)))]) (n' := 4) (lg' := []) (nl' := 0) (by simp (disch := decide) [AllLk, lk_hit, lk_miss, lk_nil]) (by simp (disch := decide) [AllLk, lk_hit, lk_miss, lk_nil]) (by decide))) ?_
    have hml10 : m.length ≤ 10 := by omega
    clear hi hm hml hin hgo hmo
    clear i
    obtain ⟨r, hr⟩ : ∃ r, r = x.es.take 20 := ⟨_, rfl⟩
    have hrl : r.length = min 20 x.es.length := by rw [hr, List.length_take]
    refine xwp_seq ?_
    refine xwp_seq (xwp_region (e := ?e8) (s' := ?s8) base0 ?h8 ?q8)
    case h8 =>
      simp (disch := first | decide | omega | (simp only [List.length_cons, List.length_nil, List.length_append, length_bvs, List.length_take, List.length_drop]; omega)) only [go_sem, Nat.reduceAdd, Nat.reduceMul, Nat.reduceSub]
      all_goals with_reducible rfl
    case q8 =>
    refine xwp_block ?_
    refine xwp_le (s' := ⟨frm [(1, some (.pointer (some ⟨0, 0, none⟩))), (2, some (.pointer (some ⟨1, 0, none⟩))), (3, some (.pointer (some ⟨2, 0, none⟩))), (5, some (.int .i64 ((0 : Nat) : Int)))], wd [(0, some (.cells (x.vp :: x.ve :: .string (str x.text) :: bvs x.tree) 26 (0, 0))), (1, some (.cells zc35 34 (0, 0))), (2, some (.cells (gslV (rowB m) m.length :: gsv 3 0 :: (bvs x.tree ++ [.string (str x.text)])) 34 (0, 0))), (3, growO 64 (rowE []) 0)] 4 [] 0, []⟩) (chle_lit (by simp (disch := decide) [AllLk, lk_hit, lk_miss, lk_nil]) (by simp (disch := decide) [AllLk, lk_hit, lk_miss, lk_nil, gsv, growO]) (by decide)) ?_
    refine xwp_loop (α := LM mkE r) (fun y => ⟨frm [(1, some (.pointer (some ⟨0, 0, none⟩))), (2, some (.pointer (some ⟨1, 0, none⟩))), (3, some (.pointer (some ⟨2, 0, none⟩))), (5, some (.int .i64 (y.i : Int)))], wd [(0, some (.cells (x.vp :: x.ve :: .string (str x.text) :: bvs x.tree) 26 (0, 0))), (1, some (.cells zc35 34 (0, 0))), (2, some (.cells (gslV (rowB m) m.length :: gsv 3 y.m.length :: (bvs x.tree ++ [.string (str x.text)])) 34 (0, 0))), (3, growO 64 (rowE y.m) y.m.length)] 4 [] 0, []⟩) (fun y => r.length - y.i) ?_ ⟨0, [], Nat.zero_le _, rfl⟩
    intro ⟨i, g, hi, hg⟩
    simp only
    have hgl : g.length = i := by rw [hg, List.length_map, List.length_take]; omega
    by_cases hgo : i < x.es.length ∧ i < 20
    · obtain ⟨h1, h2⟩ := hgo
      refine xwp_seq ?_
      refine xwp_seq (xwp_region (e := ?e9) (s' := ?s9) base0 ?h9 ?q9)
      case h9 =>
        simp (disch := first | decide | omega | (simp only [List.length_cons, List.length_nil, List.length_append, length_bvs, List.length_take, List.length_drop]; omega)) only [hel, go_sem, Nat.reduceAdd, Nat.reduceMul, Nat.reduceSub]
        all_goals with_reducible rfl
      case q9 =>
      refine xwp_ct ?h10 ?q10
      case h10 =>
        simp (disch := first | decide | omega | (simp only [List.length_cons, List.length_nil, List.length_append, length_bvs, List.length_take, List.length_drop]; omega)) only [go_sem, Nat.reduceAdd, Nat.reduceMul, Nat.reduceSub]
        all_goals with_reducible rfl
      case q10 =>
      refine xwp_skip ?_
      have hpb := row7_at h1
      have hg1 : g ++ [mkE x.es[i]] = (r.take (i + 1)).map mkE := by rw [hg, hr]; exact take_snoc h1 h2
      obtain ⟨n, hn⟩ : ∃ n, n = x.es[i] := ⟨_, rfl⟩
      rw [← hn] at hpb hg1
      refine xwp_seq_to ⟨frm [(1, some (.pointer (some ⟨0, 0, none⟩))), (2, some (.pointer (some ⟨1, 0, none⟩))), (3, some (.pointer (some ⟨2, 0, none⟩))), (5, some (.int .i64 (i : Int)))], wd [(0, some (.cells (x.vp :: x.ve :: .string (str x.text) :: bvs x.tree) 26 (0, 0))), (1, some (.cells zc35 34 (0, 0))), (2, some (.cells (gslV (rowB m) m.length :: .slice (some ⟨11, 0, none⟩) (g.length + 1) openCap :: (bvs x.tree ++ [.string (str x.text)])) 34 (0, 0))), (11, some (.cells (rowE (g ++ [mkE n])) 64 (0, 0)))] 12 [] 0, []⟩ (xwp_block ?cy) ?cz
      case cy =>
        refine xwp_seq (xwp_region (e := ?e11) (s' := ?s11) base0 ?h11 ?q11)
        case h11 =>
          simp (disch := first | decide | omega | (simp only [List.length_cons, List.length_nil, List.length_append, length_bvs, List.length_take, List.length_drop]; omega)) only [hel, hei, hpb, iadZ.eq_1, load_FP, enc7, go_sem, Nat.reduceAdd, Nat.reduceMul, Nat.reduceSub]
          all_goals with_reducible rfl
        case q11 =>
        refine xwp_seq (xwp_region (e := ?e12) (s' := ?s12) base0 ?h12 ?q12)
        case h12 =>
          simp (disch := first | decide | omega | (simp only [List.length_cons, List.length_nil, List.length_append, length_bvs, List.length_take, List.length_drop]; omega)) only [iad_arr, go_sem, Nat.reduceAdd, Nat.reduceMul, Nat.reduceSub]
          all_goals with_reducible rfl
        case q12 =>
        refine xwp_le (s' := ⟨frm [(1, some (.pointer (some ⟨0, 0, none⟩))), (2, some (.pointer (some ⟨1, 0, none⟩))), (3, some (.pointer (some ⟨2, 0, none⟩))), (5, some (.int .i64 (i : Int))), (6, some (.pointer (some ⟨4, 0, none⟩))), (7, some (.pointer (some ⟨5, 0, none⟩)))], wd [(0, some (.cells (x.vp :: x.ve :: .string (str x.text) :: bvs x.tree) 26 (0, 0))), (1, some (.cells zc35 34 (0, 0))), (2, some (.cells (gslV (rowB m) m.length :: gsv 3 g.length :: (bvs x.tree ++ [.string (str x.text)])) 34 (0, 0))), (3, growO 64 (rowE g) g.length), (4, some (.cells [.int .i64 n.a0, .int .i64 n.a1, .int .i64 n.a2, .int .i64 n.a3, .int .i64 n.a4, .int .i64 n.a5, .int .i64 n.a6] 68 (0, 0))), (5, some (.cells [.int .i64 n.a0, .int .i64 n.a1, .int .i64 n.a2, .int .i64 n.a3, .int .i64 n.a4, .slice none 0 0, .slice none 0 0] 64 (0, 0)))] 6 [] 0, []⟩) (chle_lit (by simp (disch := decide) [AllLk, lk_hit, lk_miss, lk_nil]) (allLk_cons (by decide) rfl (allLk_cons (by decide) rfl (allLk_cons (by decide) rfl (allLk_cons (by decide) rfl (allLk_cons (by decide) rfl (allLk_cons (by decide) rfl trivial)))))) (by decide)) ?_
        refine xwp_seq_to ⟨frm [(1, some (.pointer (some ⟨0, 0, none⟩))), (2, some (.pointer (some ⟨1, 0, none⟩))), (3, some (.pointer (some ⟨2, 0, none⟩))), (5, some (.int .i64 (i : Int))), (6, some (.pointer (some ⟨4, 0, none⟩))), (7, some (.pointer (some ⟨5, 0, none⟩)))], wd [(0, some (.cells (x.vp :: x.ve :: .string (str x.text) :: bvs x.tree) 26 (0, 0))), (1, some (.cells zc35 34 (0, 0))), (2, some (.cells (gslV (rowB m) m.length :: gsv 3 g.length :: (bvs x.tree ++ [.string (str x.text)])) 34 (0, 0))), (3, growO 64 (rowE g) g.length), (4, some (.cells [.int .i64 n.a0, .int .i64 n.a1, .int .i64 n.a2, .int .i64 n.a3, .int .i64 n.a4, .int .i64 n.a5, .int .i64 n.a6] 68 (0, 0))), (5, some (.cells [.int .i64 n.a0, .int .i64 n.a1, .int .i64 n.a2, .int .i64 n.a3, .int .i64 n.a4, slV (mkS n), .slice none 0 0] 64 (0, 0)))] 8 [] 0, []⟩ ?ca ?cb
        case ca =>
          by_cases hs : 0 < n.a5.tmod 3
          · have hs' : ((0 : Nat) : Int) < n.a5.tmod ((3 : Nat) : Int) := hs
            have hk : mkS n = [(n.a5, n.a6), (n.a6, 1)] := if_pos hs
            refine xwp_seq (xwp_region (e := ?e13) (s' := ?s13) base0 ?h13 ?q13)
            case h13 =>
              simp (disch := first | decide | omega | (simp only [List.length_cons, List.length_nil, List.length_append, length_bvs, List.length_take, List.length_drop]; omega)) only [iad_arr, hs', go_sem, Nat.reduceAdd, Nat.reduceMul, Nat.reduceSub]
              all_goals with_reducible rfl
            case q13 =>
            refine xwp_ct ?h14 ?q14
            case h14 =>
              simp (disch := first | decide | omega | (simp only [List.length_cons, List.length_nil, List.length_append, length_bvs, List.length_take, List.length_drop]; omega)) only [go_sem, Nat.reduceAdd, Nat.reduceMul, Nat.reduceSub]
              all_goals with_reducible rfl
            case q14 =>
            refine xwp_region (e := ?e15) (s' := ?s15) base0 ?h15 ?q15
            case h15 =>
              simp (disch := first | decide | omega | (simp only [List.length_cons, List.length_nil, List.length_append, length_bvs, List.length_take, List.length_drop]; omega)) only [iad_arr, go_sem, Nat.reduceAdd, Nat.reduceMul, Nat.reduceSub]
              all_goals with_reducible rfl
            case q15 =>
            refine ⟨rfl, ?_⟩
            rw [hk]
            exact ChLe.trans (chle_lit (F' := [(1, some (.pointer (some ⟨0, 0, none⟩))), (2, some (.pointer (some ⟨1, 0, none⟩))), (3, some (.pointer (some ⟨2, 0, none⟩))), (5, some (.int .i64 (i : Int))), (6, some (.pointer (some ⟨4, 0, none⟩))), (7, some (.pointer (some ⟨5, 0, none⟩)))]) (L' := [(0, some (.cells (x.vp :: x.ve :: .string (str x.text) :: bvs x.tree) 26 (0, 0))), (1, some (.cells zc35 34 (0, 0))), (2, some (.cells (gslV (rowB m) m.length :: gsv 3 g.length :: (bvs x.tree ++ [.string (str x.text)])) 34 (0, 0))), (3, growO 64 (rowE g) g.length), (4, some (.cells [.int .i64 n.a0, .int .i64 n.a1, .int .i64 n.a2, .int .i64 n.a3, .int .i64 n.a4, .int .i64 n.a5, .int .i64 n.a6] 68 (0, 0))), (5, some (.cells [.int .i64 n.a0, .int .i64 n.a1, .int .i64 n.a2, .int .i64 n.a3, .int .i64 n.a4, .slice (some ⟨7, 0, none⟩) 2 openCap, .slice none 0 0] 64 (0, 0))), (7, some (.cells (rowV [(n.a5, n.a6), (n.a6, 1)]) 70 (0, 0)))]) (n' := 8) (lg' := []) (nl' := 0) (by simp (disch := decide) [AllLk, lk_hit, lk_miss, lk_nil]) (allLk_cons (by decide) rfl (allLk_cons (by decide) rfl (allLk_cons (by decide) rfl (allLk_cons (by decide) rfl (allLk_cons (by decide) rfl (allLk_cons (by decide) rfl (allLk_cons (by decide) rfl trivial))))))) (by decide)) (freeze_row (c := rowV [(n.a5, n.a6), (n.a6, 1)]) (e2 := 64) (fr2 := (0, 0)) (k := 2) (L' := [(0, some (.cells (x.vp :: x.ve :: .string (str x.text) :: bvs x.tree) 26 (0, 0))), (1, some (.cells zc35 34 (0, 0))), (2, some (.cells (gslV (rowB m) m.length :: gsv 3 g.length :: (bvs x.tree ++ [.string (str x.text)])) 34 (0, 0))), (3, growO 64 (rowE g) g.length), (4, some (.cells [.int .i64 n.a0, .int .i64 n.a1, .int .i64 n.a2, .int .i64 n.a3, .int .i64 n.a4, .int .i64 n.a5, .int .i64 n.a6] 68 (0, 0))), (5, some (.cells [.int .i64 n.a0, .int .i64 n.a1, .int .i64 n.a2, .int .i64 n.a3, .int .i64 n.a4, slV [(n.a5, n.a6), (n.a6, 1)], .slice none 0 0] 64 (0, 0)))]) 7 5 5 rfl rfl rfl (by decide) (by decide) (by decide) (by decide) (by decide) .nil (allLk_cons (by decide) rfl (allLk_cons (by decide) rfl (allLk_cons (by decide) rfl (allLk_cons (by decide) rfl (allLk_cons (by decide) rfl (allLk_cons (by decide) rfl trivial)))))))
          · have hs' : ¬ ((0 : Nat) : Int) < n.a5.tmod ((3 : Nat) : Int) := hs
            have hk : mkS n = [] := if_neg hs
            refine xwp_seq (xwp_region (e := ?e16) (s' := ?s16) base0 ?h16 ?q16)
            case h16 =>
              simp (disch := first | decide | omega | (simp only [List.length_cons, List.length_nil, List.length_append, length_bvs, List.length_take, List.length_drop]; omega)) only [iad_arr, hs', go_sem, Nat.reduceAdd, Nat.reduceMul, Nat.reduceSub]
              all_goals with_reducible rfl
            case q16 =>
            refine xwp_cf ?h17 ?q17
            case h17 =>
              simp (disch := first | decide | omega | (simp only [List.length_cons, List.length_nil, List.length_append, length_bvs, List.length_take, List.length_drop]; omega)) only [go_sem, Nat.reduceAdd, Nat.reduceMul, Nat.reduceSub]
              all_goals with_reducible rfl
            case q17 =>
            refine xwp_skip ⟨rfl, ?_⟩
            rw [hk]
            exact chle_lit (by simp (disch := decide) [AllLk, lk_hit, lk_miss, lk_nil]) (allLk_cons (by decide) rfl (allLk_cons (by decide) rfl (allLk_cons (by decide) rfl (allLk_cons (by decide) rfl (allLk_cons (by decide) rfl (allLk_cons (by decide) rfl trivial)))))) (by decide)
        case cb =>
        refine xwp_seq_to ⟨frm [(1, some (.pointer (some ⟨0, 0, none⟩))), (2, some (.pointer (some ⟨1, 0, none⟩))), (3, some (.pointer (some ⟨2, 0, none⟩))), (5, some (.int .i64 (i : Int))), (6, some (.pointer (some ⟨4, 0, none⟩))), (7, some (.pointer (some ⟨5, 0, none⟩)))], wd [(0, some (.cells (x.vp :: x.ve :: .string (str x.text) :: bvs x.tree) 26 (0, 0))), (1, some (.cells zc35 34 (0, 0))), (2, some (.cells (gslV (rowB m) m.length :: gsv 3 g.length :: (bvs x.tree ++ [.string (str x.text)])) 34 (0, 0))), (3, growO 64 (rowE g) g.length), (4, some (.cells [.int .i64 n.a0, .int .i64 n.a1, .int .i64 n.a2, .int .i64 n.a3, .int .i64 n.a4, .int .i64 n.a5, .int .i64 n.a6] 68 (0, 0))), (5, some (.cells [.int .i64 n.a0, .int .i64 n.a1, .int .i64 n.a2, .int .i64 n.a3, .int .i64 n.a4, slV (mkS n), slV (mkP n)] 64 (0, 0)))] 10 [] 0, []⟩ ?cc ?cd
        case cc =>
          by_cases hs : n.a6.tmod 2 = 1
          · have hs' : n.a6.tmod ((2 : Nat) : Int) = ((1 : Nat) : Int) := hs
            have hk : mkP n = [(n.a5, n.a6)] := if_pos hs
            refine xwp_seq (xwp_region (e := ?e18) (s' := ?s18) base0 ?h18 ?q18)
            case h18 =>
              simp (disch := first | decide | omega | (simp only [List.length_cons, List.length_nil, List.length_append, length_bvs, List.length_take, List.length_drop]; omega)) only [iad_arr, ieq_t hs', go_sem, Nat.reduceAdd, Nat.reduceMul, Nat.reduceSub]
              all_goals with_reducible rfl
            case q18 =>
            refine xwp_ct ?h19 ?q19
            case h19 =>
              simp (disch := first | decide | omega | (simp only [List.length_cons, List.length_nil, List.length_append, length_bvs, List.length_take, List.length_drop]; omega)) only [go_sem, Nat.reduceAdd, Nat.reduceMul, Nat.reduceSub]
              all_goals with_reducible rfl
            case q19 =>
            refine xwp_region (e := ?e20) (s' := ?s20) base0 ?h20 ?q20
            case h20 =>
              simp (disch := first | decide | omega | (simp only [List.length_cons, List.length_nil, List.length_append, length_bvs, List.length_take, List.length_drop]; omega)) only [iad_arr, one_slV, go_sem, Nat.reduceAdd, Nat.reduceMul, Nat.reduceSub]
              all_goals with_reducible rfl
            case q20 =>
            refine ⟨rfl, ?_⟩
            rw [hk]
            exact ChLe.trans (chle_lit (F' := [(1, some (.pointer (some ⟨0, 0, none⟩))), (2, some (.pointer (some ⟨1, 0, none⟩))), (3, some (.pointer (some ⟨2, 0, none⟩))), (5, some (.int .i64 (i : Int))), (6, some (.pointer (some ⟨4, 0, none⟩))), (7, some (.pointer (some ⟨5, 0, none⟩)))]) (L' := [(0, some (.cells (x.vp :: x.ve :: .string (str x.text) :: bvs x.tree) 26 (0, 0))), (1, some (.cells zc35 34 (0, 0))), (2, some (.cells (gslV (rowB m) m.length :: gsv 3 g.length :: (bvs x.tree ++ [.string (str x.text)])) 34 (0, 0))), (3, growO 64 (rowE g) g.length), (4, some (.cells [.int .i64 n.a0, .int .i64 n.a1, .int .i64 n.a2, .int .i64 n.a3, .int .i64 n.a4, .int .i64 n.a5, .int .i64 n.a6] 68 (0, 0))), (5, some (.cells [.int .i64 n.a0, .int .i64 n.a1, .int .i64 n.a2, .int .i64 n.a3, .int .i64 n.a4, slV (mkS n), .slice (some ⟨9, 0, none⟩) 1 openCap] 64 (0, 0))), (9, some (.cells (rowV [(n.a5, n.a6)]) 71 (0, 0)))]) (n' := 10) (lg' := []) (nl' := 0) (by simp (disch := decide) [AllLk, lk_hit, lk_miss, lk_nil]) (allLk_cons (by decide) rfl (allLk_cons (by decide) rfl (allLk_cons (by decide) rfl (allLk_cons (by decide) rfl (allLk_cons (by decide) rfl (allLk_cons (by decide) rfl (allLk_cons (by decide) rfl trivial))))))) (by decide)) (freeze_row (c := rowV [(n.a5, n.a6)]) (e2 := 64) (fr2 := (0, 0)) (k := 1) (L' := [(0, some (.cells (x.vp :: x.ve :: .string (str x.text) :: bvs x.tree) 26 (0, 0))), (1, some (.cells zc35 34 (0, 0))), (2, some (.cells (gslV (rowB m) m.length :: gsv 3 g.length :: (bvs x.tree ++ [.string (str x.text)])) 34 (0, 0))), (3, growO 64 (rowE g) g.length), (4, some (.cells [.int .i64 n.a0, .int .i64 n.a1, .int .i64 n.a2, .int .i64 n.a3, .int .i64 n.a4, .int .i64 n.a5, .int .i64 n.a6] 68 (0, 0))), (5, some (.cells [.int .i64 n.a0, .int .i64 n.a1, .int .i64 n.a2, .int .i64 n.a3, .int .i64 n.a4, slV (mkS n), slV [(n.a5, n.a6)]] 64 (0, 0)))]) 9 5 6 rfl rfl rfl (by decide) (by decide) (by decide) (by decide) (by decide) .nil (allLk_cons (by decide) rfl (allLk_cons (by decide) rfl (allLk_cons (by decide) rfl (allLk_cons (by decide) rfl (allLk_cons (by decide) rfl (allLk_cons (by decide) rfl trivial)))))))
          · have hs' : ¬ n.a6.tmod ((2 : Nat) : Int) = ((1 : Nat) : Int) := hs
            have hk : mkP n = [] := if_neg hs
            refine xwp_seq (xwp_region (e := ?e21) (s' := ?s21) base0 ?h21 ?q21)
            case h21 =>
              simp (disch := first | decide | omega | (simp only [List.length_cons, List.length_nil, List.length_append, length_bvs, List.length_take, List.length_drop]; omega)) only [iad_arr, ieq_f hs', go_sem, Nat.reduceAdd, Nat.reduceMul, Nat.reduceSub]
              all_goals with_reducible rfl
            case q21 =>
            refine xwp_cf ?h22 ?q22
            case h22 =>
              simp (disch := first | decide | omega | (simp only [List.length_cons, List.length_nil, List.length_append, length_bvs, List.length_take, List.length_drop]; omega)) only [go_sem, Nat.reduceAdd, Nat.reduceMul, Nat.reduceSub]
              all_goals with_reducible rfl
            case q22 =>
            refine xwp_skip ⟨rfl, ?_⟩
            rw [hk]
            exact chle_lit (by simp (disch := decide) [AllLk, lk_hit, lk_miss, lk_nil]) (allLk_cons (by decide) rfl (allLk_cons (by decide) rfl (allLk_cons (by decide) rfl (allLk_cons (by decide) rfl (allLk_cons (by decide) rfl (allLk_cons (by decide) rfl trivial)))))) (by decide)
        case cd =>
        rcases g with _ | ⟨a, g'⟩
        · refine xwp_region (e := ?e23) (s' := ?s23) base0 ?h23 ?q23
          case h23 =>
            simp (disch := first | decide | omega | (simp only [List.length_cons, List.length_nil, List.length_append, length_bvs, List.length_take, List.length_drop]; omega)) only [gsv.eq_1, growO.eq_1, one_slV, one_gslV, List.length_nil, go_sem, Nat.reduceAdd, Nat.reduceMul, Nat.reduceSub]
            all_goals with_reducible rfl
          case q23 =>
          refine ⟨rfl, chle_lit (by simp (disch := decide) [AllLk, lk_hit, lk_miss, lk_nil]) (allLk_cons (by decide) rfl (allLk_cons (by decide) rfl (allLk_cons (by decide) rfl (allLk_cons (by decide) rfl trivial)))) (by decide)⟩
        · have hlen := rowE_length (l := a :: g') fun _ _ => trivial
          simp only [List.length_cons] at hlen hgl
          refine xwp_region (e := ?e24) (s' := ?s24) base0 ?h24 ?q24
          case h24 =>
            simp (disch := first | decide | omega | (simp only [List.length_cons, List.length_nil, List.length_append, length_bvs, List.length_take, List.length_drop]; omega)) only [gsv.eq_2, growO.eq_2, one_slV, one_gslV, List.length_cons, go_sem, Nat.reduceAdd, Nat.reduceMul, Nat.reduceSub]
            all_goals with_reducible rfl
          case q24 =>
          refine ⟨rfl, chle_lit (by simp (disch := decide) [AllLk, lk_hit, lk_miss, lk_nil]) (allLk_cons (by decide) rfl (allLk_cons (by decide) rfl (allLk_cons (by decide) rfl (allLk_cons (by decide) (by rw [← rowE_snoc]; rfl) trivial)))) (by decide)⟩
      case cz =>
      refine xwp_region (e := ?e25) (s' := ?s25) base0 ?h25 ?q25
      case h25 =>
        simp (disch := first | decide | omega | (simp only [List.length_cons, List.length_nil, List.length_append, length_bvs, List.length_take, List.length_drop]; omega)) only [go_sem, Nat.reduceAdd, Nat.reduceMul, Nat.reduceSub]
        all_goals with_reducible rfl
      case q25 =>
      refine ⟨⟨i + 1, g ++ [mkE n], by omega, hg1⟩, by simp only; omega, ?_⟩
      simp only [List.length_append, List.length_cons, List.length_nil, Nat.zero_add, gsv.eq_2, growO.eq_2]
      exact chle_ren_lit [(0, some 0), (1, some 1), (2, some 2), (11, some 3)] [(0, some 0), (1, some 1), (2, some 2), (3, some 11)] (by decide) (by decide) (by decide) (allTv_cons (v := .pointer (some ⟨0, 0, none⟩)) (by decide) (by simp (disch := first | decide | omega) only [lk_hit, lk_miss]) (tv_ptr (by simp (disch := first | decide | omega) only [lk_hit, lk_miss])) (allTv_cons (v := .pointer (some ⟨1, 0, none⟩)) (by decide) (by simp (disch := first | decide | omega) only [lk_hit, lk_miss]) (tv_ptr (by simp (disch := first | decide | omega) only [lk_hit, lk_miss])) (allTv_cons (v := .pointer (some ⟨2, 0, none⟩)) (by decide) (by simp (disch := first | decide | omega) only [lk_hit, lk_miss]) (tv_ptr (by simp (disch := first | decide | omega) only [lk_hit, lk_miss])) (allTv_cons (v := .int .i64 ((i + 1 : Nat) : Int)) (by decide) (by simp (disch := first | decide | omega) only [lk_hit, lk_miss]) (tv_flat 1 rfl) allTv_nil))))
        (allTo_cons (o := .cells (x.vp :: x.ve :: .string (str x.text) :: bvs x.tree) 26 (0, 0)) 0 (by simp (disch := first | decide | omega) only [lk_hit, lk_miss]) (by decide) (by decide) (by simp (disch := first | decide | omega) only [lk_hit, lk_miss]) (to_bareO names_fz (bareO_bares (bares_encM hx)))
        (allTo_cons (o := .cells zc35 34 (0, 0)) 1 (by simp (disch := first | decide | omega) only [lk_hit, lk_miss]) (by decide) (by decide) (by simp (disch := first | decide | omega) only [lk_hit, lk_miss]) (to_bareO names_fz (bareO_bares (bares_zc35)))
        (allTo_cons (o := .cells (gslV (rowB m) m.length :: .slice (some ⟨11, 0, none⟩) (g.length + 1) openCap :: (bvs x.tree ++ [.string (str x.text)])) 34 (0, 0)) 2 (by simp (disch := first | decide | omega) only [lk_hit, lk_miss]) (by decide) (by decide) (by simp (disch := first | decide | omega) only [lk_hit, lk_miss]) (to_tvs (tvs_cons (bare_gslV (bares_rowB _) _ _ names_fz) (tvs_cons (tv_slice (by simp (disch := first | decide | omega) only [lk_hit, lk_miss])) (bares_append (bares_bvs _) (bares_cons bare_str bares_nil) _ names_fz))))
        (allTo_cons (o := .cells (rowE (g ++ [mkE n])) 64 (0, 0)) 11 (by simp (disch := first | decide | omega) only [lk_hit, lk_miss]) (by decide) (by decide) (by simp (disch := first | decide | omega) only [lk_hit, lk_miss]) (to_bareO names_fz (bareO_bares (bares_rowE _))) allTo_nil)))) .nil
    · have hin : i = r.length := by omega
      refine xwp_seq ?_
      refine xwp_region_to base0 ⟨frm [(1, some (.pointer (some ⟨0, 0, none⟩))), (2, some (.pointer (some ⟨1, 0, none⟩))), (3, some (.pointer (some ⟨2, 0, none⟩))), (43, some (.bool false))], wd [(0, some (.cells (x.vp :: x.ve :: .string (str x.text) :: bvs x.tree) 26 (0, 0))), (1, some (.cells zc35 34 (0, 0))), (2, some (.cells (gslV (rowB m) m.length :: gsv 3 g.length :: (bvs x.tree ++ [.string (str x.text)])) 34 (0, 0))), (3, growO 64 (rowE g) g.length)] 4 [] 0, []⟩ ?hsv ?qsv
      case hsv =>
        by_cases h1 : i < x.es.length
        · have h2 : ¬ i < 20 := fun h => hgo ⟨h1, h⟩
          refine ⟨?syc, ?ayc, ?byc⟩
          case ayc =>
            simp (disch := first | decide | omega | (simp only [List.length_cons, List.length_nil, List.length_append, length_bvs, List.length_take, List.length_drop]; omega)) only [hel, go_sem, Nat.reduceAdd, Nat.reduceMul, Nat.reduceSub]
            all_goals with_reducible rfl
          case byc => exact chle_frame (by simp (disch := decide) [AllLk, lk_hit, lk_miss, lk_nil])
        · refine ⟨?syd, ?ayd, ?byd⟩
          case ayd =>
            simp (disch := first | decide | omega | (simp only [List.length_cons, List.length_nil, List.length_append, length_bvs, List.length_take, List.length_drop]; omega)) only [hel, go_sem, Nat.reduceAdd, Nat.reduceMul, Nat.reduceSub]
            all_goals with_reducible rfl
          case byd => exact chle_frame (by simp (disch := decide) [AllLk, lk_hit, lk_miss, lk_nil])
      case qsv =>
      refine xwp_cf ?h26 ?q26
      case h26 =>
        simp (disch := first | decide | omega | (simp only [List.length_cons, List.length_nil, List.length_append, length_bvs, List.length_take, List.length_drop]; omega)) only [go_sem, Nat.reduceAdd, Nat.reduceMul, Nat.reduceSub]
        all_goals with_reducible rfl
      case q26 =>
      refine xwp_exit ?_
      show XWp _ _ _ _ _ _
      have hgq : g = r.map mkE := by rw [hg, hin, List.take_length]
      refine xwp_le (ChLe.trans (freeze_row (c := rowE g) (d := (gslV (rowB m) m.length :: gsv 3 g.length :: (bvs x.tree ++ [.string (str x.text)]))) (e := 64) (e2 := 34) (fr2 := (0, 0)) (k := g.length) (L' := [(0, some (.cells (x.vp :: x.ve :: .string (str x.text) :: bvs x.tree) 26 (0, 0))), (1, some (.cells zc35 34 (0, 0))), (2, some (.cells (gslV (rowB m) m.length :: gslV (rowE g) g.length :: (bvs x.tree ++ [.string (str x.text)])) 34 (0, 0)))]) 3 2 1 (by simp (disch := first | decide | omega) only [lk_hit, lk_miss]) (by simp (disch := first | decide | omega) only [lk_hit, lk_miss]) rfl (by decide) (by decide) (by decide) (by decide) (by show g.length ≤ 4611686018427387904; omega) .nil (by simp (disch := decide) [AllLk, lk_hit, lk_miss, lk_nil]))
        (chle_lit (F' := [(1, some (.pointer (some ⟨0, 0, none⟩))), (2, some (.pointer (some ⟨1, 0, none⟩))), (3, some (.pointer (some ⟨2, 0, none⟩)))]) (L' := [(0, some (.cells (x.vp :: x.ve :: .string (str x.text) :: bvs x.tree) 26 (0, 0))), (1, some (.cells zc35 34 (0, 0))), (2, some (.cells (gslV (rowB m) m.length :: gslV (rowE g) g.length :: (bvs x.tree ++ [.string (str x.text)])) 34 (0, 0)))]) (n' := 4) (lg' := []) (nl' := 0) (by simp (disch := decide) [AllLk, lk_hit, lk_miss, lk_nil]) (by simp (disch := decide) [AllLk, lk_hit, lk_miss, lk_nil]) (by decide))) ?_
      have hz35 : zc35.length = 35 := rfl
      refine xwp_seq (xwp_region (e := ?e27) (s' := ?s27) base0 ?h27 ?q27)
      case h27 =>
        simp (disch := first | decide | omega | (simp only [List.length_cons, List.length_nil, List.length_append, length_bvs, List.length_take, List.length_drop]; omega)) only [one_gslV, htr, hz35, one_str, List.drop_eq_nil_of_le, List.all_append, one_bvs, go_sem, Nat.reduceAdd, Nat.reduceMul, Nat.reduceSub]
        all_goals with_reducible rfl
      case q27 =>
      refine xwp_ret ?_
      refine ⟨_, ?e28, ?W28, rfl, ?h28, ?q28⟩
      case h28 =>
        simp (disch := first | decide | omega | (simp only [List.length_cons, List.length_nil, List.length_append, length_bvs, List.length_take, List.length_drop]; omega)) only [Tryz.results6, go_sem, Nat.reduceAdd, Nat.reduceMul, Nat.reduceSub]
        all_goals with_reducible rfl
      case q28 =>
      have hC : mkC x = ⟨m, g, x.tree, x.text⟩ := by unfold mkC; rw [hmq, hgq, hq, hr]
      rw [hC]
      rfl
end Go.Proofs.YthlkgmdkabelpaaGreatDoor.X
