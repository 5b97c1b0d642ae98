/-
  CommitCodes: the law walked.
  CommitCodes: the law's arguments, opened: a commit by numbers, an array of three numbers; and the call in any world.
  CommitCodes: the law's call in any world.
  No condition.
-/
import Derived.Test.YthlkgmdkabelpaaGreatDoorKK
import Derived.ProofKit
import Derived.OpenShut
import Derived.Deep.Slices
import Derived.Deep.Fields
set_option linter.all false
set_option linter.unusedVariables false
set_option linter.unusedSimpArgs false
namespace Go.Proofs.YthlkgmdkabelpaaGreatDoor.X
open Go Go.RowKit
noncomputable def T34 (x : MadeL) (c : CommitL) (s : List UInt8) : List (FuncId × HF) := [(5, pureH (pOne [] (.bool true))), (6, pureH (pOne [.agg (encM x).toArray] (.agg (encC c).toArray))), (7, pureH (pOne [.agg (encC c).toArray] (.string (str s)))), (8, pureH (pOne [.agg (encC c).toArray] (.string (str s)))), (9, pureH pDec), (11, pureH pDec), (10, pureH pSame)]
structure LawIn where
  x : MadeL
  raw : List UInt8
  q0 : Nat
  q1 : Nat
  q2 : Nat
structure OkIn (i : LawIn) : Prop where
  x : OkM i.x
  r : ∀ n ∈ i.x.es, I64 n.a0 ∧ I64 n.a1 ∧ I64 n.a2 ∧ I64 n.a3 ∧ I64 n.a4 ∧ I64 n.a5 ∧ I64 n.a6
  raw : i.raw.length < 4611686018427387904
  h0 : i.q0 < 65536
  h1 : i.q1 < 65536
  h2 : i.q2 < 65536
theorem base34' (x : MadeL) (hx : OkM x) (hr : ∀ e ∈ (mkC x).edits, RgE e) (c : CommitL) (hc : c = mkC x) (s : List UInt8) (hs : s = encR c) : Base Tryz.prog (hooksOf (T34 x c s) []) := by
  subst hs
  subst hc
  exact ⟨mixed, hooksOf_sim (.cons _ _ _ okSan (.cons _ _ _ (okOne (enters_of (by kernel_rfl)) (bares_cons (bare_agg (bares_encM hx)) bares_nil) (bare_agg (bares_encC _)) (madeLocal x hx)) (.cons _ _ _ (okOne (enters_of (by kernel_rfl)) (bares_cons (bare_agg (bares_encC _)) bares_nil) bare_str (encodeLocal _ (okC_mkC hx) hr)) (.cons _ _ _ (okOne (enters_of (by kernel_rfl)) (bares_cons (bare_agg (bares_encC _)) bares_nil) bare_str (rEncodeLocal _ (okC_mkC hx) hr)) (.cons _ _ _ okDec (.cons _ _ _ okFDec (.cons _ _ _ okSame .nil))))))) .nil⟩
def inV (i : LawIn) : List Value := [.agg (encM i.x).toArray, .string (str i.raw), .agg [Value.int .u16 (i.q0 : Int), .int .u16 (i.q1 : Int), .int .u16 (i.q2 : Int)].toArray]
def xb (a b : Int) : UInt8 := UInt8.ofNat (bitsI .xor .u8 a b).toNat
theorem bits_xb {a b : Int} : bitsI .xor .u8 a b = (((xb a b).toNat : Nat) : Int) := by
  unfold xb
  rw [UInt8.toNat_ofNat']
  have h : 0 ≤ bitsI .xor .u8 a b ∧ bitsI .xor .u8 a b < 256 := by
    unfold bitsI
    simp only
    rw [IntKind.wrap_u8]
    omega
  omega
theorem set_bvs {l : List UInt8} {i : Nat} {v : UInt8} (h : i < l.length) : (bvs l).take i ++ (Value.int .u8 ((v.toNat : Nat) : Int) :: (bvs l).drop (i + 1)) = bvs (l.set i v) := by
  rw [List.set_eq_take_append_cons_drop, if_pos h]
  unfold bvs
  rw [List.map_append, List.map_cons, List.map_take, List.map_drop]
  rfl
theorem bvs_at {l : List UInt8} {i : Nat} (h : i < l.length) : (bvs l)[i]? = some (Value.int .u8 ((l[i].toNat : Nat) : Int)) := by
  unfold bvs
  rw [List.getElem?_map, List.getElem?_eq_getElem h]
  rfl
structure LK (n : Nat) where
  k : Nat
  hk : k ≤ n
set_option maxHeartbeats 4000000 in
theorem codesLocal (i : LawIn) (hi : OkIn i) : Local Tryz.prog 3 (inV i) (wd [] 0 [] 0) fun e W' => e = .ret (.bool true) := by
  obtain ⟨x, raw, q0, q1, q2⟩ := i
  obtain ⟨hx, hr, hraw, hq0, hq1, hq2⟩ := hi
  simp only at hx hr hraw hq0 hq1 hq2
  have hrg := rgE_mkE hr
  obtain ⟨c, hcm⟩ : ∃ c, c = mkC x := ⟨_, rfl⟩
  obtain ⟨s, hs⟩ : ∃ s, s = encR c := ⟨_, rfl⟩
  have base34 := base34' x hx hrg c hcm s hs
  have hc : OkC c := by rw [hcm]; exact okC_mkC hx
  rw [← hcm] at hrg
  have hsl : s.length ≤ 200200000 := by rw [hs]; exact encR_len hc hrg
  have hdec : s ≠ [] → decP s = (c, 0) := fun hn => by
    rw [hs] at hn ⊢
    unfold encR at hn ⊢
    split at hn
    · rename_i hcan
      rw [if_pos hcan]
      obtain ⟨k1, k2⟩ := dec_encB hc hrg hcan
      rw [k1, decP_yes rfl]
      rw [k1] at k2
      rw [show (3 :: (encB c).tail).tail = (encB c).tail from rfl] at k2
      rw [k2]
    · exact absurd rfl hn
  have hdo := decP_ok s
  obtain ⟨d, hd⟩ : ∃ d, d = (decP s).1 := ⟨_, rfl⟩
  obtain ⟨er, her⟩ : ∃ er, er = (decP s).2 := ⟨_, rfl⟩
  have hdv : pDec [.string (str s)] = some (.tuple #[.agg (encC d).toArray, .int .i64 er]) := by rw [hd, her]; exact pDec_eq
  rw [← hd] at hdo
  have htd := hdo.t
  refine lit_local base34 Tryz.func3 rfl (Nat.le_of_ble_eq_true rfl) ?_
  simp only [inV, frOfL.eq_1, frOfL.eq_2, wd_next, Tryz.ntmps3, Nat.reduceAdd, encM]
  have htm := hx.t
  have htr := hc.t
  have hpo := hx.p.one
  have heo := hx.e.one
  refine xwp_seq (xwp_region (e := ?e1) (s' := ?s1) base34 ?h1 ?q1)
  case h1 =>
    simp (disch := first | decide | omega | (simp only [List.length_cons, List.length_nil, List.length_append, length_bvs, List.length_take, List.length_drop]; omega)) only [hpo, heo, htm, go_sem, Nat.reduceAdd, Nat.reduceMul, Nat.reduceSub]
    all_goals with_reducible rfl
  case q1 =>
  refine xwp_seq (xwp_region (e := ?e2) (s' := ?s2) base34 ?h2 ?q2)
  case h2 =>
    simp (disch := first | decide | omega | (simp only [List.length_cons, List.length_nil, List.length_append, length_bvs, List.length_take, List.length_drop]; omega)) only [T34, pureH_eq, pureK.eq_1, pOne_eq, go_sem, Nat.reduceAdd, Nat.reduceMul, Nat.reduceSub]
    all_goals with_reducible rfl
  case q2 =>
  refine xwp_seq (xwp_region (e := ?e3) (s' := ?s3) base34 ?h3 ?q3)
  case h3 =>
    simp (disch := first | decide | omega | (simp only [List.length_cons, List.length_nil, List.length_append, length_bvs, List.length_take, List.length_drop]; omega)) only [T34, pureH_eq, pureK.eq_1, encM, pOne_eq, hpo, heo, htm, encC, one_gslV, htr, List.drop_eq_nil_of_le, List.all_append, go_sem, Nat.reduceAdd, Nat.reduceMul, Nat.reduceSub]
    all_goals with_reducible rfl
  case q3 =>
  refine xwp_seq (xwp_region (e := ?e4) (s' := ?s4) base34 ?h4 ?q4)
  case h4 =>
    simp (disch := first | decide | omega | (simp only [List.length_cons, List.length_nil, List.length_append, length_bvs, List.length_take, List.length_drop]; omega)) only [T34, pureH_eq, pureK.eq_1, pOne_eq, encC, htr, go_sem, Nat.reduceAdd, Nat.reduceMul, Nat.reduceSub]
    all_goals with_reducible rfl
  case q4 =>
  refine xwp_seq ?_
  refine xwp_seq (xwp_region (e := ?e5) (s' := ?s5) base34 ?h5 ?q5)
  case h5 =>
    simp (disch := first | decide | omega | (simp only [List.length_cons, List.length_nil, List.length_append, length_bvs, List.length_take, List.length_drop]; omega)) only [T34, pureH_eq, pureK.eq_1, pOne_eq, encC, htr, go_sem, Nat.reduceAdd, Nat.reduceMul, Nat.reduceSub]
    all_goals with_reducible rfl
  case q5 =>
  refine xwp_cf ?h6 ?q6
  case h6 =>
    simp (disch := first | decide | omega | (simp only [List.length_cons, List.length_nil, List.length_append, length_bvs, List.length_take, List.length_drop]; omega)) only [go_sem, Nat.reduceAdd, Nat.reduceMul, Nat.reduceSub]
    all_goals with_reducible rfl
  case q6 =>
  refine xwp_skip ?_
  refine xwp_seq (xwp_region (e := ?e7) (s' := ?s7) base34 ?h7 ?q7)
  case h7 =>
    simp (disch := first | decide | omega | (simp only [List.length_cons, List.length_nil, List.length_append, length_bvs, List.length_take, List.length_drop]; omega)) only [T34, pureH_eq, pureK.eq_1, hdv, encC, one_gslV, htd, List.drop_eq_nil_of_le, List.all_append, go_sem, Nat.reduceAdd, Nat.reduceMul, Nat.reduceSub]
    all_goals with_reducible rfl
  case q7 =>
  refine xwp_seq ?_
  refine xwp_region_to base34 ⟨frm [(1, some (.string (str raw))), (5, some (.pointer (some ⟨1, 0, none⟩))), (7, some (.bool true)), (9, some (.string (str s))), (44, some (.bool false))], wd [(1, some (.cells [.int .u16 (q0 : Int), .int .u16 (q1 : Int), .int .u16 (q2 : Int)] 28 (0, 0)))] 4 [] 0, []⟩ ?hsG ?qsG
  case hsG =>
    by_cases hse : s = []
    · subst hse
      refine ⟨?s8, ?a8, ?b8⟩
      case a8 =>
        simp (disch := first | decide | omega | (simp only [List.length_cons, List.length_nil, List.length_append, length_bvs, List.length_take, List.length_drop]; omega)) only [encC, htr, htd, wantU, go_sem, Nat.reduceAdd, Nat.reduceMul, Nat.reduceSub]
        all_goals with_reducible rfl
      case b8 =>
        exact chle_lit (by simp (disch := decide) [AllLk, lk_hit, lk_miss, lk_nil]) (by simp (disch := decide) [AllLk, lk_hit, lk_miss, lk_nil]) (by decide)
    · have hq := hdec hse
      have hde : d = c := by rw [hd, hq]
      have her0 : er = ((0 : Nat) : Int) := by rw [her, hq]; rfl
      subst hde
      subst her0
      have hsm : pSame [.agg (encC d).toArray, .agg (encC d).toArray] = some (.bool true) := pSame_eq hc
      simp only [encC] at hsm
      refine ⟨?s9, ?a9, ?b9⟩
      case a9 =>
        simp (disch := first | decide | omega | (simp only [List.length_cons, List.length_nil, List.length_append, length_bvs, List.length_take, List.length_drop]; omega)) only [T34, pureH_eq, pureK.eq_1, encC, htr, hse, hsm, go_sem, Nat.reduceAdd, Nat.reduceMul, Nat.reduceSub]
        all_goals with_reducible rfl
      case b9 =>
        exact chle_lit (by simp (disch := decide) [AllLk, lk_hit, lk_miss, lk_nil]) (by simp (disch := decide) [AllLk, lk_hit, lk_miss, lk_nil]) (by decide)
  case qsG =>
  refine xwp_cf ?h10 ?q10
  case h10 =>
    simp (disch := first | decide | omega | (simp only [List.length_cons, List.length_nil, List.length_append, length_bvs, List.length_take, List.length_drop]; omega)) only [go_sem, Nat.reduceAdd, Nat.reduceMul, Nat.reduceSub]
    all_goals with_reducible rfl
  case q10 =>
  refine xwp_skip ?_
  obtain ⟨m, hm⟩ : ∃ m, m = s.length := ⟨_, rfl⟩
  have hbl : (s ++ [3]).length = m + 1 := by rw [List.length_append, hm]; rfl
  have hml : m ≤ 200200000 := by omega
  have hbl2 : s.length + [(3 : UInt8)].length < 9223372036854775808 := by rw [← hm]; simp only [List.length_cons, List.length_nil]; omega
  refine xwp_seq (xwp_region (e := ?e11) (s' := ?s11) base34 ?h11 ?q11)
  case h11 =>
    simp (disch := first | decide | omega | (simp only [List.length_cons, List.length_nil, List.length_append, length_bvs, List.length_take, List.length_drop]; omega)) only [hbl, bin_sadd hbl2, go_sem, Nat.reduceAdd, Nat.reduceMul, Nat.reduceSub]
    all_goals with_reducible rfl
  case q11 =>
  have hmod0 : q0 % (m + 1) < m + 1 := Nat.mod_lt _ (by omega)
  have hmod2 : q2 % (m + 1) < m + 1 := Nat.mod_lt _ (by omega)
  obtain ⟨b, hb⟩ : ∃ b, b = s ++ [3] := ⟨_, rfl⟩
  have hbl : b.length = m + 1 := by rw [hb]; exact hbl
  obtain ⟨i0, hi0⟩ : ∃ i0, i0 = q0 % (m + 1) := ⟨_, rfl⟩
  obtain ⟨i2, hi2⟩ : ∃ i2, i2 = q2 % (m + 1) := ⟨_, rfl⟩
  rw [← hi0] at hmod0
  rw [← hi2] at hmod2
  have hbi : i0 < b.length := by omega
  have hget := bvs_at hbi
  obtain ⟨g, hg⟩ : ∃ g, g = b[i0] := ⟨_, rfl⟩
  rw [← hg] at hget
  obtain ⟨b', hb'⟩ : ∃ b', b' = b.set i0 (xb (g.toNat : Int) (IntKind.wrap .u8 (IntKind.wrap .u16 ((1 + q1 % 255 : Nat) : Int)))) := ⟨_, rfl⟩
  have hbl' : b'.length = m + 1 := by rw [hb', List.length_set, hbl]
  have hset := set_bvs (v := xb (g.toNat : Int) (IntKind.wrap .u8 (IntKind.wrap .u16 ((1 + q1 % 255 : Nat) : Int)))) hbi
  rw [← hb'] at hset
  refine xwp_le (s' := ⟨frm [(1, some (.string (str raw))), (5, some (.pointer (some ⟨1, 0, none⟩))), (7, some (.bool true)), (9, some (.string (str s))), (12, some (.slice (some ⟨4, 0, none⟩) (m + 1) openCap))], wd [(1, some (.cells [.int .u16 (q0 : Int), .int .u16 (q1 : Int), .int .u16 (q2 : Int)] 28 (0, 0))), (4, some (.cells (bvs b) 5 (1, 1)))] 5 [] 0, []⟩) (chle_lit (by simp (disch := decide) [AllLk, lk_hit, lk_miss, lk_nil]) (by simp (disch := decide) [AllLk, lk_hit, lk_miss, lk_nil, hb]) (by decide)) ?_
  refine xwp_drawn_to base34 ⟨frm [(1, some (.string (str raw))), (5, some (.pointer (some ⟨1, 0, none⟩))), (7, some (.bool true)), (9, some (.string (str s))), (12, some (.slice (some ⟨4, 0, none⟩) (m + 1) openCap))], wd [(1, some (.cells [.int .u16 (q0 : Int), .int .u16 (q1 : Int), .int .u16 (q2 : Int)] 28 (0, 0))), (4, some (.cells (bvs b') 5 (1, 1)))] 5 [] 0, []⟩ ?hdA ?qdA
  case hdA =>
    refine ⟨?rsA, ?sA, ?hA, ?kA, ?lA⟩
    case hA =>
      simp (disch := first | decide | omega | (simp only [List.length_cons, List.length_nil, List.length_append, length_bvs, List.length_take, List.length_drop]; omega)) only [traceX.eq_1, traceX.eq_2, trc1.eq_1, trcK.eq_1, trcK.eq_2, traceD_nil, traceD_t, traceD_f, holeK.eq_1, holeK.eq_2, hbl, ← hi0, hget, iad_sl, iad_arr, Nat.mul_one, bits_xb, hset, go_sem, Nat.reduceAdd, Nat.reduceMul, Nat.reduceSub]
      all_goals with_reducible rfl
    case kA => kernel_rfl
    case lA => exact chle_lit (by simp (disch := decide) [AllLk, lk_hit, lk_miss, lk_nil]) (by simp (disch := decide) [AllLk, lk_hit, lk_miss, lk_nil]) (by decide)
  case qdA =>
  obtain ⟨ms, hms⟩ : ∃ ms : List (List UInt8), ms = [s, b', b'.take m, s.take i2, s ++ [0], raw, 3 :: raw] := ⟨_, rfl⟩
  have hsub : ((m + 1 : Nat) : Int) - ((1 : Nat) : Int) = ((m : Nat) : Int) := by omega
  have hbt : (bvs b').take (m + 1) = bvs b' := List.take_of_length_le (by rw [length_bvs, hbl']; exact Nat.le_refl _)
  have hbt2 : (bvs b').take m = bvs (b'.take m) := by unfold bvs; rw [List.map_take]
  have hs0 : s.length + [(0 : UInt8)].length < 9223372036854775808 := by rw [← hm]; simp only [List.length_cons, List.length_nil]; omega
  have hr3 : [(3 : UInt8)].length + raw.length < 9223372036854775808 := by simp only [List.length_cons, List.length_nil]; omega
  have hz0 : (bif m.beq 0 then some [] else some (bvs (b'.take m))) = some (bvs (b'.take m)) := by cases m <;> rfl
  refine xwp_drawn_to base34 ⟨frm [(7, some (.bool true)), (13, some (.slice (some ⟨5, 0, none⟩) 7 7))], wd [(5, some (.cells (ms.map fun l => .string (str l)) 9 (0, 0)))] 6 [] 0, []⟩ ?hdB ?qdB
  case hdB =>
    refine ⟨?rsB, ?sB, ?hB, ?kB, ?lB⟩
    case hB =>
      simp (disch := first | decide | omega | (simp only [List.length_cons, List.length_nil, List.length_append, length_bvs, List.length_take, List.length_drop]; omega)) only [traceX.eq_1, traceX.eq_2, trc1.eq_1, trcK.eq_1, trcK.eq_2, traceD_nil, traceD_t, traceD_f, holeK.eq_1, holeK.eq_2, iad_arr, ← hm, hsub, ← hi2, hbt, hbt2, hz0, bytesOf_bvs, strO_some, bin_sadd hs0, bin_sadd hr3, Nat.mul_one, Option.map_some, Nat.sub_zero, go_sem, Nat.reduceAdd, Nat.reduceMul, Nat.reduceSub]
      all_goals with_reducible rfl
    case kB => kernel_rfl
    case lB => exact chle_lit (by simp (disch := decide) [AllLk, lk_hit, lk_miss, lk_nil]) (by simp (disch := decide) [AllLk, lk_hit, lk_miss, lk_nil, hms]) (by decide)
  case qdB =>
  have hms7 : ms.length = 7 := by rw [hms]; rfl
  clear hms hz0 hbt hbt2 hset hget hs0 hr3
  refine xwp_seq ?_
  refine xwp_seq (xwp_region (e := ?e12) (s' := ?s12) base34 ?h12 ?q12)
  case h12 =>
    simp (disch := first | decide | omega | (simp only [List.length_cons, List.length_nil, List.length_append, length_bvs, List.length_take, List.length_drop]; omega)) only [go_sem, Nat.reduceAdd, Nat.reduceMul, Nat.reduceSub]
    all_goals with_reducible rfl
  case q12 =>
  refine xwp_block ?_
  refine xwp_le (s' := ⟨frm [(7, some (.bool true)), (13, some (.slice (some ⟨5, 0, none⟩) 7 7)), (14, some (.int .i64 ((0 : Nat) : Int)))], wd [(5, some (.cells (ms.map fun l => .string (str l)) 9 (0, 0)))] 6 [] 0, []⟩) (chle_lit (by simp (disch := decide) [AllLk, lk_hit, lk_miss, lk_nil]) (by simp (disch := decide) [AllLk, lk_hit, lk_miss, lk_nil]) (by decide)) ?_
  refine xwp_loop (α := LK 7) (fun y => ⟨frm [(7, some (.bool true)), (13, some (.slice (some ⟨5, 0, none⟩) 7 7)), (14, some (.int .i64 (y.k : Int)))], wd [(5, some (.cells (ms.map fun l => .string (str l)) 9 (0, 0)))] 6 [] 0, []⟩) (fun y => 7 - y.k) ?_ ⟨0, Nat.zero_le _⟩
  intro ⟨k, hk⟩
  simp only
  by_cases hlt : k < 7
  · have hkl : k < ms.length := by omega
    have hgetk : (ms.map fun l => Value.string (str l))[k]? = some (.string (str ms[k])) := by rw [List.getElem?_map, List.getElem?_eq_getElem hkl]; rfl
    obtain ⟨l, hl⟩ : ∃ l, l = ms[k] := ⟨_, rfl⟩
    rw [← hl] at hgetk
    have hlen : (ms.map fun l => Value.string (str l)).length = 7 := by rw [List.length_map, hms7]
    have hdo := decP_ok l
    obtain ⟨d', hd'⟩ : ∃ d', d' = (decP l).1 := ⟨_, rfl⟩
    obtain ⟨er', her'⟩ : ∃ er', er' = (decP l).2 := ⟨_, rfl⟩
    have hdv' : pDec [.string (str l)] = some (.tuple #[.agg (encC d').toArray, .int .i64 er']) := by rw [hd', her']; exact pDec_eq
    rw [← hd'] at hdo
    have htd' := hdo.t
    have hsm : pSame [.agg (encC d').toArray, .agg (encC d').toArray] = some (.bool true) := pSame_eq hdo
    simp only [encC] at hsm
    refine xwp_seq ?_
    refine xwp_seq (xwp_region (e := ?e13) (s' := ?s13) base34 ?h13 ?q13)
    case h13 =>
      simp (disch := first | decide | omega | (simp only [List.length_cons, List.length_nil, List.length_append, length_bvs, List.length_take, List.length_drop]; omega)) only [go_sem, Nat.reduceAdd, Nat.reduceMul, Nat.reduceSub]
      all_goals with_reducible rfl
    case q13 =>
    refine xwp_ct ?h14 ?q14
    case h14 =>
      simp (disch := first | decide | omega | (simp only [List.length_cons, List.length_nil, List.length_append, length_bvs, List.length_take, List.length_drop]; omega)) only [go_sem, Nat.reduceAdd, Nat.reduceMul, Nat.reduceSub]
      all_goals with_reducible rfl
    case q14 =>
    refine xwp_skip ?_
    refine xwp_seq (xwp_block ?_)
    refine xwp_seq (xwp_region (e := ?e15) (s' := ?s15) base34 ?h15 ?q15)
    case h15 =>
      simp (disch := first | decide | omega | (simp only [List.length_cons, List.length_nil, List.length_append, length_bvs, List.length_take, List.length_drop]; omega)) only [T34, iad_sl, hgetk, hlen, Nat.mul_one, pureH_eq, pureK.eq_1, hdv', encC, one_gslV, htd', List.drop_eq_nil_of_le, List.all_append, go_sem, Nat.reduceAdd, Nat.reduceMul, Nat.reduceSub]
      all_goals with_reducible rfl
    case q15 =>
    refine xwp_seq (xwp_region (e := ?e16) (s' := ?s16) base34 ?h16 ?q16)
    case h16 =>
      simp (disch := first | decide | omega | (simp only [List.length_cons, List.length_nil, List.length_append, length_bvs, List.length_take, List.length_drop]; omega)) only [T34, iad_sl, hgetk, hlen, Nat.mul_one, pureH_eq, pureK.eq_1, hdv', encC, one_gslV, htd', List.drop_eq_nil_of_le, List.all_append, go_sem, Nat.reduceAdd, Nat.reduceMul, Nat.reduceSub]
      all_goals with_reducible rfl
    case q16 =>
    refine xwp_seq (xwp_region (e := ?e17) (s' := ?s17) base34 ?h17 ?q17)
    case h17 =>
      simp (disch := first | decide | omega | (simp only [List.length_cons, List.length_nil, List.length_append, length_bvs, List.length_take, List.length_drop]; omega)) only [T34, pureH_eq, pureK.eq_1, encC, htd', hsm, one_gslV, go_sem, Nat.reduceAdd, Nat.reduceMul, Nat.reduceSub]
      all_goals with_reducible rfl
    case q17 =>
    refine xwp_cf ?h18 ?q18
    case h18 =>
      simp (disch := first | decide | omega | (simp only [List.length_cons, List.length_nil, List.length_append, length_bvs, List.length_take, List.length_drop]; omega)) only [go_sem, Nat.reduceAdd, Nat.reduceMul, Nat.reduceSub]
      all_goals with_reducible rfl
    case q18 =>
    refine xwp_skip ?_
    show XWp _ _ _ _ _ _
    refine xwp_region (e := ?e19) (s' := ?s19) base34 ?h19 ?q19
    case h19 =>
      simp (disch := first | decide | omega | (simp only [List.length_cons, List.length_nil, List.length_append, length_bvs, List.length_take, List.length_drop]; omega)) only [go_sem, Nat.reduceAdd, Nat.reduceMul, Nat.reduceSub]
      all_goals with_reducible rfl
    case q19 =>
    refine ⟨⟨k + 1, by omega⟩, by simp only; omega, ?_⟩
    exact chle_ren_lit [(5, some 5)] [(5, some 5)] (by decide) (by decide) (by decide) (allTv_cons (v := .bool true) (by decide) (by simp (disch := first | decide | omega) only [lk_hit, lk_miss]) (tv_flat 1 rfl) (allTv_cons (v := .slice (some ⟨5, 0, none⟩) 7 7) (by decide) (by simp (disch := first | decide | omega) only [lk_hit, lk_miss]) (tv_slice (by simp (disch := first | decide | omega) only [lk_hit, lk_miss])) (allTv_cons (v := .int .i64 ((k + 1 : Nat) : Int)) (by decide) (by simp (disch := first | decide | omega) only [lk_hit, lk_miss]) (tv_flat 1 rfl) allTv_nil)))
      (allTo_cons (o := .cells (ms.map fun l => .string (str l)) 9 (0, 0)) 5 (by simp (disch := first | decide | omega) only [lk_hit, lk_miss]) (by decide) (by decide) (by simp (disch := first | decide | omega) only [lk_hit, lk_miss]) (to_bareO names_fz (bareO_bares (bares_all fun v hv => by obtain ⟨b, _, rfl⟩ := List.mem_map.1 hv; exact bare_str))) allTo_nil) .nil
  · refine xwp_seq ?_
    refine xwp_seq (xwp_region (e := ?e20) (s' := ?s20) base34 ?h20 ?q20)
    case h20 =>
      simp (disch := first | decide | omega | (simp only [List.length_cons, List.length_nil, List.length_append, length_bvs, List.length_take, List.length_drop]; omega)) only [go_sem, Nat.reduceAdd, Nat.reduceMul, Nat.reduceSub]
      all_goals with_reducible rfl
    case q20 =>
    refine xwp_cf ?h21 ?q21
    case h21 =>
      simp (disch := first | decide | omega | (simp only [List.length_cons, List.length_nil, List.length_append, length_bvs, List.length_take, List.length_drop]; omega)) only [go_sem, Nat.reduceAdd, Nat.reduceMul, Nat.reduceSub]
      all_goals with_reducible rfl
    case q21 =>
    refine xwp_exit ?_
    show XWp _ _ _ _ _ _
    refine xwp_seq (xwp_region (e := ?e22) (s' := ?s22) base34 ?h22 ?q22)
    case h22 =>
      simp (disch := first | decide | omega | (simp only [List.length_cons, List.length_nil, List.length_append, length_bvs, List.length_take, List.length_drop]; omega)) only [go_sem, Nat.reduceAdd, Nat.reduceMul, Nat.reduceSub]
      all_goals with_reducible rfl
    case q22 =>
    refine xwp_ret ?_
    refine ⟨_, ?e23, ?W23, rfl, ?h23, ?q23⟩
    case h23 =>
      simp (disch := first | decide | omega | (simp only [List.length_cons, List.length_nil, List.length_append, length_bvs, List.length_take, List.length_drop]; omega)) only [Tryz.results3, go_sem, Nat.reduceAdd, Nat.reduceMul, Nat.reduceSub]
      all_goals with_reducible rfl
    case q23 =>
    rfl
end Go.Proofs.YthlkgmdkabelpaaGreatDoor.X
namespace Go.Proofs.YthlkgmdkabelpaaGreatDoor.X
open Go Go.RowKit Go.ChangeShapes Go.WideShapes Go.ChangeAt
set_option linter.constructorNameAsVariable false
set_option maxRecDepth 100000
theorem cellsOf_u8 : Tryz.prog.cellsOf 5 = 1 := by kernel_rfl
theorem cellsOf_u16 : Tryz.prog.cellsOf 27 = 1 := by kernel_rfl
theorem cellsOf_int : Tryz.prog.cellsOf 3 = 1 := by kernel_rfl
theorem cellsOf_str : Tryz.prog.cellsOf 9 = 1 := by kernel_rfl
theorem cellsOf_sl8 : Tryz.prog.cellsOf 22 = 1 := by kernel_rfl
theorem cellsOf_sl7 : Tryz.prog.cellsOf 23 = 1 := by kernel_rfl
theorem cellsOf_seven : Tryz.prog.cellsOf 68 = 7 := by kernel_rfl
theorem cellsOf_three : Tryz.prog.cellsOf 28 = 3 := by kernel_rfl
theorem cellsOf_hash : Tryz.prog.cellsOf 24 = 32 := by kernel_rfl
theorem cellsOf_made : Tryz.prog.cellsOf 26 = 35 := by kernel_rfl
theorem choose_of {α : Type} {p : Nat → α → Prop} : ∀ (n : Nat), (∀ i, i < n → ∃ a, p i a) → ∃ l : List α, l.length = n ∧ ∀ i (h : i < l.length), p i l[i]
  | 0, _ => ⟨[], rfl, fun i h => absurd h (Nat.not_lt_zero i)⟩
  | n + 1, h => by
    obtain ⟨l, hl, hp⟩ := choose_of n (fun i hi => h i (by omega))
    obtain ⟨a, ha⟩ := h n (by omega)
    refine ⟨l ++ [a], by simp [hl], fun i hi => ?_⟩
    by_cases hin : i < l.length
    · rw [List.getElem_append_left hin]; exact hp i hin
    · have : i = l.length := by simp at hi; omega
      subst this
      rw [List.getElem_append_right (Nat.le_refl _)]
      simp only [Nat.sub_self, List.getElem_cons_zero]
      rw [hl]; exact ha
theorem i64_of {n : Int} (h : (Lit.int .i64 n).wf = true) : I64 n := by
  have h : -9223372036854775808 ≤ n ∧ n ≤ 9223372036854775807 := by simpa [Lit.wf, IntKind.min, IntKind.max, IntKind.signed, IntKind.bits] using h
  unfold I64; omega
theorem byte_of {n : Int} (h : (Lit.int .u8 n).wf = true) : ∃ b : UInt8, n = (b.toNat : Int) := by
  have h : 0 ≤ n ∧ n ≤ 255 := by simpa [Lit.wf, IntKind.min, IntKind.max, IntKind.signed, IntKind.bits] using h
  exact ⟨UInt8.ofNat n.toNat, by rw [UInt8.toNat_ofNat']; omega⟩
theorem nat_of {n : Int} (h : (Lit.int .u16 n).wf = true) : ∃ b : Nat, n = (b : Int) ∧ b < 65536 := by
  have h : 0 ≤ n ∧ n ≤ 65535 := by simpa [Lit.wf, IntKind.min, IntKind.max, IntKind.signed, IntKind.bits] using h
  exact ⟨n.toNat, by omega, by omega⟩
def SlAt (w : World) (v : Value) (cs : List Value) (n : Nat) : Prop :=
  (v = .slice none 0 0 ∧ n = 0 ∧ cs = []) ∨ ∃ a cap, v = .slice (some a) n cap ∧ n ≤ cap ∧ n < 9223372036854775808 ∧ (n = 0 → cs = []) ∧ (0 < n → a.spot = none ∧ ∃ c' e fr, w.heap[a.block]? = some (.cells c' e fr) ∧ (c'.toList.drop a.off).take cs.length = cs)
theorem open_sl {α H : Type} {S E size : Nat} {cells : α → List Value} {fits : α → Prop} (hS : Tryz.prog.underlying S = some (.slice E)) (hE : Tryz.prog.cellsOf E = size) (hpos : 0 < size) (hlen : ∀ a, (cells a).length = size)
    {enc : TypeId × Value → H} {w : World} (hel : ∀ (base : Nat) (spare : Nat → Bool) (held : Bool) n cs x, DataW.trod enc Tryz.prog w base spare held n E cs = some x → ∃ a, cs = cells a ∧ fits a)
    {v : Value} {fuel : Nat} {base : Nat} {x : DataW H × List MemPlace} (hf : DataW.trod enc Tryz.prog w base (fun _ => true) true fuel S [v] = some x) : ∃ l : List α, SlAt w v (l.flatMap cells) l.length ∧ ∀ a ∈ l, fits a := by
  rcases Go.Deep.open_slice hS hf with ⟨hcs, _⟩ | ⟨a, len, cap, m, k, D, Pl, hcs, _, hl, hm, hmm, _, hx⟩
  · obtain ⟨rfl⟩ : v = .slice none 0 0 := by simpa using hcs
    exact ⟨[], .inl ⟨rfl, rfl, rfl⟩, fun _ h => by simp at h⟩
  · obtain ⟨rfl⟩ : v = .slice (some a) len cap := by simpa using hcs
    simp only [if_true] at hmm
    rw [hE] at hx
    have hone : ∀ i, i < len → ∃ x : α, fits x ∧ ∀ j v, (cells x)[j]? = some v → w.cell? ((a.add (i * size)).add j) = some v := by
      intro i hi
      obtain ⟨cs', hc, ht⟩ := hx i (by omega)
      obtain ⟨x, rfl, hfit⟩ := hel _ _ _ _ _ _ ht
      refine ⟨x, hfit, fun j v hv => ?_⟩
      obtain ⟨_, _, hat⟩ := World.cells?_some hc
      have hj : j < size := by rw [← hlen x]; exact (List.getElem?_eq_some_iff.1 hv).1
      rw [hat j hj]; exact hv
    obtain ⟨l, hll, hp⟩ := choose_of len hone
    subst hll
    have hsz : ∀ l : List α, (l.flatMap cells).length = l.length * size := fun l => by
      induction l with
      | nil => simp
      | cons b l ih => rw [List.flatMap_cons, List.length_append, ih, hlen, List.length_cons, Nat.succ_mul, Nat.add_comm]
    refine ⟨l, .inr ⟨a, cap, rfl, hl, by simp only [maxLen] at hm; omega, fun h0 => by rw [List.length_eq_zero_iff.1 h0]; rfl, fun h0 => ?_⟩, fun x hxl => ?_⟩
    · have h1 := (hp 0 h0).2 0 ((cells l[0])[0]'(by rw [hlen]; exact hpos)) (List.getElem?_eq_getElem _)
      have hsp : a.spot = none := by
        cases hs : a.spot with
        | none => rfl
        | some z => simp [World.cell?, Addr.add, hs] at h1; split at h1 <;> simp at h1
      refine ⟨hsp, ?_⟩
      obtain ⟨b, off, sp⟩ := a
      simp only at hsp
      subst hsp
      have e : ∀ i j, (((⟨b, off, none⟩ : Addr).add (i * size)).add j) = ⟨b, off + i * size + j, none⟩ := fun i j => by rw [addr_add, addr_add]
      have hblk : ∃ c' e fr, w.heap[b]? = some (.cells c' e fr) := by
        rw [e] at h1
        unfold World.cell? at h1
        simp only at h1
        split at h1
        · rename_i c e fr hq; exact ⟨c, e, fr, hq⟩
        · cases h1
      obtain ⟨c', et, fr, hb⟩ := hblk
      refine ⟨c', et, fr, hb, ?_⟩
      have hat : ∀ i (h : i < l.length) j v, (cells l[i])[j]? = some v → c'.toList[off + i * size + j]? = some v := fun i h j v hv => by
        have := (hp i h).2 j v hv
        rw [e] at this
        unfold World.cell? at this
        simp only at this
        rw [hb] at this
        simpa using this
      have key : ∀ (m : List α) (k : Nat), (∀ i (h : i < m.length) j v, (cells m[i])[j]? = some v → c'.toList[k + i * size + j]? = some v) → (c'.toList.drop k).take (m.flatMap cells).length = m.flatMap cells := by
        intro m
        induction m with
        | nil => intro k _; simp
        | cons b m ih =>
          intro k hk
          have i1 := ih (k + size) (fun i h j v hv => by
            have := hk (i + 1) (by rw [List.length_cons]; omega) j v (by simpa using hv)
            rw [Nat.succ_mul] at this
            rw [← this]
            congr 1
            omega)
          have i2 : (c'.toList.drop k).take size = cells b := by
            refine List.ext_getElem? fun j => ?_
            by_cases hj : j < size
            · rw [List.getElem?_take_of_lt hj, List.getElem?_drop]
              have hj' : j < (cells b).length := by rw [hlen]; exact hj
              have := hk 0 (by rw [List.length_cons]; omega) j _ (List.getElem?_eq_getElem hj')
              rw [List.getElem?_eq_getElem hj']
              rw [← this]
              congr 1
              omega
            · rw [List.getElem?_eq_none (by rw [List.length_take]; omega), List.getElem?_eq_none (by rw [hlen]; omega)]
          rw [List.flatMap_cons, List.length_append, hlen, List.take_add, i2, List.drop_drop, i1]
      exact key l off hat
    · obtain ⟨i, hi, rfl⟩ := List.getElem_of_mem hxl
      exact (hp i hi).1
def u8C (b : UInt8) : List Value := [.int .u8 ((b.toNat : Nat) : Int)]
theorem u8_el {H : Type} {enc : TypeId × Value → H} {w : World} (base : Nat) (spare : Nat → Bool) (held : Bool) (n : Nat) (cs : List Value) (x : DataW H × List MemPlace)
    (h : DataW.trod enc Tryz.prog w base spare held n 5 cs = some x) : ∃ a : UInt8, cs = u8C a ∧ True := by
  obtain ⟨k, h0, _, w0⟩ := DataW.trod_int Tryz.underlying5 h
  obtain ⟨b, rfl⟩ := byte_of w0
  exact ⟨b, h0, trivial⟩
def Fit7 (n : N7) : Prop := I64 n.a0 ∧ I64 n.a1 ∧ I64 n.a2 ∧ I64 n.a3 ∧ I64 n.a4 ∧ I64 n.a5 ∧ I64 n.a6
theorem seven_el {H : Type} {enc : TypeId × Value → H} {w : World} (base : Nat) (spare : Nat → Bool) (held : Bool) (n : Nat) (cs : List Value) (x : DataW H × List MemPlace)
    (h : DataW.trod enc Tryz.prog w base spare held n 68 cs = some x) : ∃ a : N7, cs = enc7 a ∧ Fit7 a := by
  obtain ⟨xs, m, _, _, hlen, hxl, hx⟩ := DataW.trod_array Tryz.underlying68 h
  rw [cellsOf_seven] at hlen
  match cs, hlen with
  | [c0, c1, c2, c3, c4, c5, c6], _ =>
    match xs, hxl with
    | [y0, y1, y2, y3, y4, y5, y6], _ =>
      have f0 := hx 0 (by omega)
      have f1 := hx 1 (by omega)
      have f2 := hx 2 (by omega)
      have f3 := hx 3 (by omega)
      have f4 := hx 4 (by omega)
      have f5 := hx 5 (by omega)
      have f6 := hx 6 (by omega)
      simp only [cellsOf_int] at f0 f1 f2 f3 f4 f5 f6
      obtain ⟨a0, h0, _, w0⟩ := DataW.trod_int Tryz.underlying3 f0
      obtain ⟨a1, h1, _, w1⟩ := DataW.trod_int Tryz.underlying3 f1
      obtain ⟨a2, h2, _, w2⟩ := DataW.trod_int Tryz.underlying3 f2
      obtain ⟨a3, h3, _, w3⟩ := DataW.trod_int Tryz.underlying3 f3
      obtain ⟨a4, h4, _, w4⟩ := DataW.trod_int Tryz.underlying3 f4
      obtain ⟨a5, h5, _, w5⟩ := DataW.trod_int Tryz.underlying3 f5
      obtain ⟨a6, h6, _, w6⟩ := DataW.trod_int Tryz.underlying3 f6
      simp at h0 h1 h2 h3 h4 h5 h6
      subst h0; subst h1; subst h2; subst h3; subst h4; subst h5; subst h6
      exact ⟨⟨a0, a1, a2, a3, a4, a5, a6⟩, rfl, i64_of w0, i64_of w1, i64_of w2, i64_of w3, i64_of w4, i64_of w5, i64_of w6⟩
theorem open_three {H : Type} {enc : TypeId × Value → H} {w : World} {base : Nat} {spare : Nat → Bool} {held : Bool} {r : Reach} {b0 : Nat} {v : Value} {d : DataW H} {ps : List MemPlace}
    (hv : Value.okWide Tryz.prog w r b0 28 v) (h : DataW.Trod enc Tryz.prog w base spare held 28 v d ps) :
    ∃ a b c : Nat, v = .agg [Value.int .u16 (a : Int), .int .u16 (b : Int), .int .u16 (c : Int)].toArray ∧ a < 65536 ∧ b < 65536 ∧ c < 65536 := by
  obtain ⟨fuel, hf⟩ := h
  obtain ⟨xs, m, _, _, hlen, hxl, hx⟩ := DataW.trod_array Tryz.underlying28 hf
  rw [cellsOf_three] at hlen
  have hagg : ∃ cs, v = .agg cs := by
    simp only [Value.okWide, Tryz.underlying28] at hv
    obtain ⟨cs, h1, _⟩ := hv
    exact ⟨cs, h1⟩
  obtain ⟨cs, rfl⟩ := hagg
  simp only [Value.cells] at hlen hx
  obtain ⟨l⟩ := cs
  match l, hlen with
  | [c0, c1, c2], _ =>
    match xs, hxl with
    | [y0, y1, y2], _ =>
      have f0 := hx 0 (by omega)
      have f1 := hx 1 (by omega)
      have f2 := hx 2 (by omega)
      simp only [cellsOf_u16] at f0 f1 f2
      obtain ⟨a, h0, _, w0⟩ := DataW.trod_int Tryz.underlying27 f0
      obtain ⟨b, h1, _, w1⟩ := DataW.trod_int Tryz.underlying27 f1
      obtain ⟨c, h2, _, w2⟩ := DataW.trod_int Tryz.underlying27 f2
      obtain ⟨a, rfl, q0⟩ := nat_of w0
      obtain ⟨b, rfl, q1⟩ := nat_of w1
      obtain ⟨c, rfl, q2⟩ := nat_of w2
      simp at h0 h1 h2
      subst h0; subst h1; subst h2
      exact ⟨a, b, c, rfl, q0, q1, q2⟩
structure MadeAt (w : World) (cs : List Value) (ps : List UInt8) (es : List N7) (text tree : List UInt8) : Prop where
  cs : ∃ vp ve, cs = vp :: ve :: .string (str text) :: bvs tree ∧ SlAt w vp (bvs ps) ps.length ∧ SlAt w ve (row7 es) es.length
  tree : tree.length = 32
  fit : ∀ n ∈ es, Fit7 n
theorem open_made {H : Type} {enc : TypeId × Value → H} {w : World} {base : Nat} {r : Reach} {b0 : Nat} {v : Value} {d : DataW H} {ps : List MemPlace}
    (hv : Value.okWide Tryz.prog w r b0 26 v) (h : DataW.Trod enc Tryz.prog w base (fun _ => true) true 26 v d ps) :
    ∃ cs p e text tree, v = .agg cs.toArray ∧ MadeAt w cs p e text tree := by
  obtain ⟨fuel, hf⟩ := h
  obtain ⟨xs, m, _, _, hlen, hxl, hx⟩ := DataW.trod_struct Tryz.underlying26 hf
  rw [cellsOf_made] at hlen
  obtain ⟨⟨l⟩, rfl, _⟩ := okWide_struct Tryz.underlying26 hv
  simp only [Value.cells] at hlen hx
  match l, hlen with
  | c0 :: c1 :: c2 :: l, hlen =>
    match xs, hxl with
    | [y0, y1, y2, y3], _ =>
      have f0 : DataW.trod enc Tryz.prog w base (fun _ => true) true m 22 (List.take (Tryz.prog.cellsOf 22) (c0 :: c1 :: c2 :: l)) = _ := hx 0 _ rfl
      have f1 : DataW.trod enc Tryz.prog w base (fun _ => true) true m 23 (List.take (Tryz.prog.cellsOf 23) (c1 :: c2 :: l)) = _ := hx 1 _ rfl
      have f2 : DataW.trod enc Tryz.prog w base (fun _ => true) true m 9 (List.take (Tryz.prog.cellsOf 9) (c2 :: l)) = _ := hx 2 _ rfl
      have f3 : DataW.trod enc Tryz.prog w base (fun _ => true) true m 24 (List.take (Tryz.prog.cellsOf 24) l) = _ := hx 3 _ rfl
      rw [cellsOf_sl8] at f0
      rw [cellsOf_sl7] at f1
      rw [cellsOf_str] at f2
      rw [cellsOf_hash] at f3
      have f0 : DataW.trod enc Tryz.prog w base (fun _ => true) true m 22 [c0] = some y0 := f0
      have f1 : DataW.trod enc Tryz.prog w base (fun _ => true) true m 23 [c1] = some y1 := f1
      have f2 : DataW.trod enc Tryz.prog w base (fun _ => true) true m 9 [c2] = some y2 := f2
      have hl : l.length = 32 := by simpa using hlen
      rw [List.take_of_length_le (by omega)] at f3
      obtain ⟨p, hp, _⟩ := open_sl (cells := u8C) (fits := fun _ => True) Tryz.underlying22 cellsOf_u8 (by decide) (fun _ => rfl) u8_el f0
      obtain ⟨e, he, hfe⟩ := open_sl (cells := enc7) (fits := Fit7) Tryz.underlying23 cellsOf_seven (by decide) (fun _ => rfl) seven_el f1
      obtain ⟨s, h2, _, w2⟩ := DataW.trod_string Tryz.underlying9 f2
      obtain ⟨xs3, m3, _, _, hlen3, hxl3, hx3⟩ := DataW.trod_array Tryz.underlying24 f3
      have hone : ∀ i, i < 32 → ∃ b : UInt8, l[i]? = some (bv b) := by
        intro i hi
        have f := hx3 i hi
        rw [cellsOf_u8, Nat.mul_one, List.getElem?_eq_getElem (by omega)] at f
        obtain ⟨n, hn, _, wn⟩ := DataW.trod_int Tryz.underlying5 f
        obtain ⟨b, rfl⟩ := byte_of wn
        refine ⟨b, ?_⟩
        have : ((l.drop i).take 1)[0]? = some (bv b) := by rw [hn]; rfl
        simpa using this
      obtain ⟨q, hq, hqp⟩ := choose_of 32 hone
      have hlq : l = bvs q := by
        apply List.ext_getElem?
        intro i
        by_cases hi : i < q.length
        · rw [hqp i hi]
          simp [bvs, List.getElem?_eq_getElem hi]
        · rw [List.getElem?_eq_none (by omega), List.getElem?_eq_none (by rw [length_bvs]; omega)]
      subst hlq
      obtain ⟨rfl⟩ : c2 = .string s := by simpa using h2
      refine ⟨_, p, e, s.data.toList, q, rfl, ⟨⟨c0, c1, by rw [str_data], ?_, he⟩, hq, hfe⟩⟩
      rw [bvs_flatM]
      exact hp
end Go.Proofs.YthlkgmdkabelpaaGreatDoor.X
namespace Go.Proofs.YthlkgmdkabelpaaGreatDoor.X
open Go Go.RowKit
theorem flat_bvs8 (l : List UInt8) : (bvs l).all (flatN 8) = true := by
  rw [List.all_eq_true]
  intro v hv
  obtain ⟨b, _, rfl⟩ := List.mem_map.1 hv
  rfl
theorem flat_row7 (l : List N7) : (row7 l).all (flatN 8) = true := by
  rw [List.all_eq_true]
  intro v hv
  obtain ⟨n, _, hn⟩ := List.mem_flatMap.1 hv
  simp only [enc7, List.mem_cons, List.not_mem_nil, or_false] at hn
  rcases hn with rfl | rfl | rfl | rfl | rfl | rfl | rfl <;> rfl
theorem slAt_arg {w : World} {v : Value} {cs : List Value} {n : Nat} (h : SlAt w v cs n) (hf : cs.all (flatN 8) = true) : ∃ v', ArgSl v' cs n ∧ n < 9223372036854775808 ∧ ∀ ρ : Ren, (∀ b, ρ.fz b = w.heap[b]?) → VR ρ v' v := by
  have hb : Bares cs := bares_all fun u hu => bare_flat 8 (by rw [List.all_eq_true] at hf; exact hf u hu)
  rcases h with ⟨rfl, rfl, rfl⟩ | ⟨a, cap, rfl, h1, h2, h3, h4⟩
  · exact ⟨.slice none 0 0, ⟨rfl, fun W e => rfl, fun P e i j hi => absurd hi (Nat.not_lt_zero i), bare_flat 1 rfl⟩, by decide, fun ρ _ => .flat 1 _ rfl⟩
  · refine ⟨FZ cs n, ⟨rfl, fun W e => rfl, fun P e i j hi => rfl, bare_fz hb⟩, h2, fun ρ hρ => ?_⟩
    rcases Nat.eq_zero_or_pos n with h0 | h0
    · subst h0
      rw [h3 rfl]
      exact .frzE a cap
    · obtain ⟨hs, c', e, fr, k1, k2⟩ := h4 h0
      obtain ⟨b, off, sp⟩ := a
      simp only at hs k1 k2
      subst hs
      exact .frz cs cs n b off cap c' e fr (by rw [hρ]; exact k1) h1 k2 (flatN_list hf)
theorem calls_of_local {f : FuncId} {args args' : List Value} {w : World} {v : Value} {k : Nat} (hk : flatN k v = true) (h : Local Tryz.prog f args (wd [] 0 [] 0) fun e W' => e = .ret v)
    (hA : ∀ ρ : Ren, (∀ b, ρ.fz b = w.heap[b]?) → VRs ρ args args') : Calls Tryz.prog f args'.toArray w fun en w' => en = .returned v ∧ Keeps noBlock w w' := by
  refine callsIn_wide.1 (CallsIn.mono (h ⟨fun _ => none, fun b => w.heap[b]?⟩ args' w 0 (fun n _ => rfl) ⟨fun n i o q _ => (by cases q), fun n m i j q _ _ _ _ => (by cases q), fun b o q => ⟨q, fun ⟨n, i, q1, _⟩ => by cases q1⟩⟩ (hA _ fun _ => rfl)) fun en w' hx => ?_)
  obtain ⟨e, W', rfl, ρ', hs, _, he⟩ := hx
  cases en <;> first | exact he.elim | skip
  rename_i u
  have hu : VR ρ' v u := he
  refine ⟨by rw [hu.of_flat k hk], hs.keeps.mono fun b _ hb => ?_⟩
  obtain ⟨n, i, q1, _⟩ := hb
  cases q1
theorem codes_walk {w : World} {cs : List Value} {p : List UInt8} {e : List N7} {text tree raw : List UInt8} {q0 q1 q2 : Nat} (hm : MadeAt w cs p e text tree) (hraw : raw.length < 4611686018427387904) (h0 : q0 < 65536) (h1 : q1 < 65536) (h2 : q2 < 65536) :
    Calls Tryz.prog 3 #[.agg cs.toArray, .string (str raw), .agg [Value.int .u16 (q0 : Int), .int .u16 (q1 : Int), .int .u16 (q2 : Int)].toArray] w fun en w' => en = .returned (.bool true) ∧ Keeps noBlock w w' := by
  obtain ⟨⟨vp, ve, rfl, hp, he⟩, ht, hfit⟩ := hm
  obtain ⟨vp', ap, np, kp⟩ := slAt_arg hp (flat_bvs8 p)
  obtain ⟨ve', ae, ne, ke⟩ := slAt_arg he (flat_row7 e)
  have hi : OkIn ⟨⟨p, e, text, tree, vp', ve'⟩, raw, q0, q1, q2⟩ := ⟨⟨ap, ae, ht, np, ne⟩, hfit, hraw, h0, h1, h2⟩
  exact calls_of_local (k := 1) rfl (codesLocal _ hi) (args' := [.agg (vp :: ve :: .string (str text) :: bvs tree).toArray, .string (str raw), .agg [Value.int .u16 (q0 : Int), .int .u16 (q1 : Int), .int .u16 (q2 : Int)].toArray]) fun ρ hρ =>
    .cons _ _ _ _ (.agg _ _ (.cons _ _ _ _ (kp ρ hρ) (.cons _ _ _ _ (ke ρ hρ) (.cons _ _ _ _ (.flat 8 _ rfl) (flatN_list (flat_bvs8 tree)))))) (.cons _ _ _ _ (.flat 8 _ rfl) (.cons _ _ _ _ (.flat 8 _ rfl) .nil))
end Go.Proofs.YthlkgmdkabelpaaGreatDoor.X
