/-
  Commits decoded by the reference: numbers, hashes.
  Commits decoded by the reference: an edit.
  Commits decoded by the reference: Decode itself.
  Commits decoded: the reference reads what the reader reads.
  Commits compared: a commit is the same as itself.
  No condition.
-/
import Derived.Test.YthlkgmdkabelpaaGreatDoorKE
import Derived.Test.YthlkgmdkabelpaaGreatDoorKD
set_option linter.all false
set_option linter.unusedVariables false
set_option linter.unusedSimpArgs false
namespace Go.Proofs.YthlkgmdkabelpaaGreatDoor.X
open Go Go.RowKit
theorem wantU {b : Bool} : wantV b (some undef) = some false := by cases b <;> rfl
def rfU : Nat → Nat → Nat → List UInt8 → Nat × List UInt8 × Bool
  | 0, k, acc, s => (0, s, true)
  | f + 1, k, acc, [] => (0, [], true)
  | f + 1, k, acc, b :: s => if k = 9 ∧ 1 < b.toNat then (0, s, true) else
    if b.toNat < 128 then (acc + b.toNat % 128 * 2 ^ (7 * k), s, decide (0 < k ∧ b.toNat = 0)) else rfU f (k + 1) (acc + b.toNat % 128 * 2 ^ (7 * k)) s
def fNum (s : List UInt8) (t : Bool) : Nat × List UInt8 × Bool := if t = true then (0, s, true) else rfU 10 0 0 s
structure NmS (s0 : List UInt8) where
  k : Nat
  acc : Nat
  s : List UInt8
  hk : k ≤ 10
  ha : acc < 2 ^ (7 * k)
  eq : rfU (10 - k) k acc s = rfU 10 0 0 s0
set_option maxHeartbeats 1000000 in
theorem fNumLocal (s0 : List UInt8) (t : Bool) : Local Tryz.prog 69 [.pointer (some ⟨0, 0, none⟩)] (wd [(0, some (rfo s0 t))] 1 [] 0) fun e W' =>
    e = .ret (.int .u64 ((fNum s0 t).1 : Int)) ∧ W'.get 0 = some (rfo (fNum s0 t).2.1 (fNum s0 t).2.2) := by
  refine lit_local base8 Tryz.func69 rfl (Nat.le_of_ble_eq_true rfl) ?_
  simp only [frOfL.eq_1, frOfL.eq_2, wd_next, Tryz.ntmps69, Nat.reduceAdd]
  refine xwp_seq (xwp_region (e := ?e1) (s' := ?s1) base8 ?h1 ?q1)
  case h1 =>
    simp (disch := first | decide | omega | (simp only [List.length_cons, List.length_nil, List.length_append, length_bvs, List.length_take, List.length_drop]; omega)) only [go_sem, Nat.reduceAdd, Nat.reduceMul, Nat.reduceSub]
    all_goals with_reducible rfl
  case q1 =>
  refine xwp_seq (xwp_region (e := ?e2) (s' := ?s2) base8 ?h2 ?q2)
  case h2 =>
    simp (disch := first | decide | omega | (simp only [List.length_cons, List.length_nil, List.length_append, length_bvs, List.length_take, List.length_drop]; omega)) only [go_sem, Nat.reduceAdd, Nat.reduceMul, Nat.reduceSub]
    all_goals with_reducible rfl
  case q2 =>
  refine xwp_seq ?_
  refine xwp_seq (xwp_region (e := ?e3) (s' := ?s3) base8 ?h3 ?q3)
  case h3 =>
    simp (disch := first | decide | omega | (simp only [List.length_cons, List.length_nil, List.length_append, length_bvs, List.length_take, List.length_drop]; omega)) only [go_sem, Nat.reduceAdd, Nat.reduceMul, Nat.reduceSub]
    all_goals with_reducible rfl
  case q3 =>
  refine xwp_block ?_
  cases t with
  | true =>
    refine xwp_le (chle_lit (F' := [(0, some (.pointer (some ⟨0, 0, none⟩))), (3, some (.int .u64 0)), (4, some (.int .i64 0))]) (L' := [(0, some (rfo s0 true))]) (n' := 1) (lg' := []) (nl' := 0) (by simp (disch := decide) [AllLk, lk_hit, lk_miss]) (by simp (disch := decide) [AllLk, lk_hit, lk_miss]) (by decide)) ?_
    refine xwp_loop (α := Unit) (fun x => ⟨frm [(0, some (.pointer (some ⟨0, 0, none⟩))), (3, some (.int .u64 0)), (4, some (.int .i64 0))], wd [(0, some (rfo s0 true))] 1 [] 0, []⟩) (fun x => 0) ?_ ()
    intro _
    refine xwp_seq ?_
    refine xwp_seq (xwp_region (e := ?e4) (s' := ?s4) base8 ?h4 ?q4)
    case h4 =>
      simp (disch := first | decide | omega | (simp only [List.length_cons, List.length_nil, List.length_append, length_bvs, List.length_take, List.length_drop]; omega)) only [rfo, go_sem, Nat.reduceAdd, Nat.reduceMul, Nat.reduceSub]
      all_goals with_reducible rfl
    case q4 =>
    refine xwp_cf ?h5 ?q5
    case h5 =>
      simp (disch := first | decide | omega | (simp only [List.length_cons, List.length_nil, List.length_append, length_bvs, List.length_take, List.length_drop]; omega)) only [go_sem, Nat.reduceAdd, Nat.reduceMul, Nat.reduceSub]
      all_goals with_reducible rfl
    case q5 =>
    refine xwp_exit ?_
    show XWp _ _ _ _ _ _
    refine xwp_seq (xwp_region (e := ?e6) (s' := ?s6) base8 ?h6 ?q6)
    case h6 =>
      simp (disch := first | decide | omega | (simp only [List.length_cons, List.length_nil, List.length_append, length_bvs, List.length_take, List.length_drop]; omega)) only [rfo, go_sem, Nat.reduceAdd, Nat.reduceMul, Nat.reduceSub]
      all_goals with_reducible rfl
    case q6 =>
    refine xwp_seq (xwp_region (e := ?e7) (s' := ?s7) base8 ?h7 ?q7)
    case h7 =>
      simp (disch := first | decide | omega | (simp only [List.length_cons, List.length_nil, List.length_append, length_bvs, List.length_take, List.length_drop]; omega)) only [go_sem, Nat.reduceAdd, Nat.reduceMul, Nat.reduceSub]
      all_goals with_reducible rfl
    case q7 =>
    refine xwp_ret ?_
    refine ⟨_, ?e8, ?W8, rfl, ?h8, ?q8⟩
    case h8 =>
      simp (disch := first | decide | omega | (simp only [List.length_cons, List.length_nil, List.length_append, length_bvs, List.length_take, List.length_drop]; omega)) only [Tryz.results69, go_sem, Nat.reduceAdd, Nat.reduceMul, Nat.reduceSub]
      all_goals with_reducible rfl
    case q8 =>
    exact ⟨rfl, by simp (disch := first | decide | omega | (simp only [List.length_cons, List.length_nil, List.length_append, length_bvs, List.length_take, List.length_drop]; omega)) only [rfo, fNum, if_true, go_sem, Nat.reduceAdd, Nat.reduceMul, Nat.reduceSub]⟩
  | false =>
    refine xwp_le (chle_lit (F' := [(0, some (.pointer (some ⟨0, 0, none⟩))), (3, some (.int .u64 0)), (4, some (.int .i64 0))]) (L' := [(0, some (rfo s0 false))]) (n' := 1) (lg' := []) (nl' := 0) (by simp (disch := decide) [AllLk, lk_hit, lk_miss]) (by simp (disch := decide) [AllLk, lk_hit, lk_miss]) (by decide)) ?_
    refine xwp_loop (α := NmS s0) (fun x => ⟨frm [(0, some (.pointer (some ⟨0, 0, none⟩))), (3, some (.int .u64 (x.acc : Int))), (4, some (.int .i64 (x.k : Int)))], wd [(0, some (rfo x.s false))] 1 [] 0, []⟩) (fun x => 10 - x.k) ?_ ⟨0, 0, s0, by omega, by omega, rfl⟩
    intro ⟨k, acc, s, hk, ha, heq⟩
    simp only
    have hf : fNum s0 false = rfU 10 0 0 s0 := rfl
    rw [hf]
    by_cases h10 : k < 10
    · refine xwp_seq ?_
      refine xwp_seq (xwp_region (e := ?e9) (s' := ?s9) base8 ?h9 ?q9)
      case h9 =>
        simp (disch := first | decide | omega | (simp only [List.length_cons, List.length_nil, List.length_append, length_bvs, List.length_take, List.length_drop]; omega)) only [rfo, go_sem, Nat.reduceAdd, Nat.reduceMul, Nat.reduceSub]
        all_goals with_reducible rfl
      case q9 =>
      refine xwp_ct ?h10 ?q10
      case h10 =>
        simp (disch := first | decide | omega | (simp only [List.length_cons, List.length_nil, List.length_append, length_bvs, List.length_take, List.length_drop]; omega)) only [go_sem, Nat.reduceAdd, Nat.reduceMul, Nat.reduceSub]
        all_goals with_reducible rfl
      case q10 =>
      refine xwp_skip ?_
      refine xwp_seq (xwp_block ?_)
      rw [show 10 - k = (10 - (k + 1)) + 1 by omega] at heq
      cases s with
      | nil =>
        refine xwp_seq (xwp_region (e := ?e11) (s' := ?s11) base8 ?h11 ?q11)
        case h11 =>
          simp (disch := first | decide | omega | (simp only [List.length_cons, List.length_nil, List.length_append, length_bvs, List.length_take, List.length_drop]; omega)) only [T8, rgH_eq, rgO_eq, rgO_lit, rgK.eq_1, pfTake_ok, pfTake_no, List.length_nil, go_sem, Nat.reduceAdd, Nat.reduceMul, Nat.reduceSub]
          all_goals with_reducible rfl
        case q11 =>
        refine xwp_seq ?_
        refine xwp_seq (xwp_region (e := ?e12) (s' := ?s12) base8 ?h12 ?q12)
        case h12 =>
          simp (disch := first | decide | omega | (simp only [List.length_cons, List.length_nil, List.length_append, length_bvs, List.length_take, List.length_drop]; omega)) only [rfo, wantU, go_sem, Nat.reduceAdd, Nat.reduceMul, Nat.reduceSub]
          all_goals with_reducible rfl
        case q12 =>
        refine xwp_ct ?h13 ?q13
        case h13 =>
          simp (disch := first | decide | omega | (simp only [List.length_cons, List.length_nil, List.length_append, length_bvs, List.length_take, List.length_drop]; omega)) only [go_sem, Nat.reduceAdd, Nat.reduceMul, Nat.reduceSub]
          all_goals with_reducible rfl
        case q13 =>
        refine xwp_exit ?_
        show XWp _ _ _ _ _ _
        refine xwp_seq (xwp_region (e := ?e14) (s' := ?s14) base8 ?h14 ?q14)
        case h14 =>
          simp (disch := first | decide | omega | (simp only [List.length_cons, List.length_nil, List.length_append, length_bvs, List.length_take, List.length_drop]; omega)) only [rfo, go_sem, Nat.reduceAdd, Nat.reduceMul, Nat.reduceSub]
          all_goals with_reducible rfl
        case q14 =>
        refine xwp_seq (xwp_region (e := ?e15) (s' := ?s15) base8 ?h15 ?q15)
        case h15 =>
          simp (disch := first | decide | omega | (simp only [List.length_cons, List.length_nil, List.length_append, length_bvs, List.length_take, List.length_drop]; omega)) only [go_sem, Nat.reduceAdd, Nat.reduceMul, Nat.reduceSub]
          all_goals with_reducible rfl
        case q15 =>
        refine xwp_ret ?_
        refine ⟨_, ?e16, ?W16, rfl, ?h16, ?q16⟩
        case h16 =>
          simp (disch := first | decide | omega | (simp only [List.length_cons, List.length_nil, List.length_append, length_bvs, List.length_take, List.length_drop]; omega)) only [Tryz.results69, go_sem, Nat.reduceAdd, Nat.reduceMul, Nat.reduceSub]
          all_goals with_reducible rfl
        case q16 =>
        rw [← heq]
        exact ⟨rfl, by simp (disch := first | decide | omega | (simp only [List.length_cons, List.length_nil, List.length_append, length_bvs, List.length_take, List.length_drop]; omega)) only [rfo, rfU.eq_2, go_sem, Nat.reduceAdd, Nat.reduceMul, Nat.reduceSub]⟩
      | cons b s' =>
      have hb := b.toNat_lt
      refine xwp_seq (xwp_region (e := ?e17) (s' := ?s17) base8 ?h17 ?q17)
      case h17 =>
        simp (disch := first | decide | omega | (simp only [List.length_cons, List.length_nil, List.length_append, length_bvs, List.length_take, List.length_drop]; omega)) only [T8, rgH_eq, rgO_eq, rgO_lit, rgK.eq_1, pfTake_ok, pfTake_no, List.length_cons, go_sem, Nat.reduceAdd, Nat.reduceMul, Nat.reduceSub]
        all_goals with_reducible rfl
      case q17 =>
      refine xwp_seq ?_
      by_cases h9 : k = 9 ∧ 1 < b.toNat
      · obtain ⟨rfl, hb1⟩ := h9
        refine xwp_seq (xwp_region (e := ?e18) (s' := ?s18) base8 ?h18 ?q18)
        case h18 =>
          simp (disch := first | decide | omega | (simp only [List.length_cons, List.length_nil, List.length_append, length_bvs, List.length_take, List.length_drop]; omega)) only [rfo, go_sem, Nat.reduceAdd, Nat.reduceMul, Nat.reduceSub]
          all_goals with_reducible rfl
        case q18 =>
        refine xwp_ct ?h19 ?q19
        case h19 =>
          simp (disch := first | decide | omega | (simp only [List.length_cons, List.length_nil, List.length_append, length_bvs, List.length_take, List.length_drop]; omega)) only [go_sem, Nat.reduceAdd, Nat.reduceMul, Nat.reduceSub]
          all_goals with_reducible rfl
        case q19 =>
        refine xwp_exit ?_
        show XWp _ _ _ _ _ _
        refine xwp_seq (xwp_region (e := ?e20) (s' := ?s20) base8 ?h20 ?q20)
        case h20 =>
          simp (disch := first | decide | omega | (simp only [List.length_cons, List.length_nil, List.length_append, length_bvs, List.length_take, List.length_drop]; omega)) only [rfo, go_sem, Nat.reduceAdd, Nat.reduceMul, Nat.reduceSub]
          all_goals with_reducible rfl
        case q20 =>
        refine xwp_seq (xwp_region (e := ?e21) (s' := ?s21) base8 ?h21 ?q21)
        case h21 =>
          simp (disch := first | decide | omega | (simp only [List.length_cons, List.length_nil, List.length_append, length_bvs, List.length_take, List.length_drop]; omega)) only [go_sem, Nat.reduceAdd, Nat.reduceMul, Nat.reduceSub]
          all_goals with_reducible rfl
        case q21 =>
        refine xwp_ret ?_
        refine ⟨_, ?e22, ?W22, rfl, ?h22, ?q22⟩
        case h22 =>
          simp (disch := first | decide | omega | (simp only [List.length_cons, List.length_nil, List.length_append, length_bvs, List.length_take, List.length_drop]; omega)) only [Tryz.results69, go_sem, Nat.reduceAdd, Nat.reduceMul, Nat.reduceSub]
          all_goals with_reducible rfl
        case q22 =>
        rw [← heq, rfU.eq_3, if_pos ⟨rfl, hb1⟩]
        exact ⟨rfl, by simp (disch := first | decide | omega | (simp only [List.length_cons, List.length_nil, List.length_append, length_bvs, List.length_take, List.length_drop]; omega)) only [rfo, go_sem, Nat.reduceAdd, Nat.reduceMul, Nat.reduceSub]⟩
      · refine xwp_region_to base8 ⟨frm [(0, some (.pointer (some ⟨0, 0, none⟩))), (3, some (.int .u64 acc)), (4, some (.int .i64 k)), (5, some (.string (str [b]))), (31, some (.bool false))], wd [(0, some (.cells [.string (str s'), .bool false] 103 (0, 0)))] 1 [] 0, []⟩ ?hn ?hq
        case hn =>
          rcases Nat.lt_or_ge k 9 with hk9 | hk9
          · refine ⟨?s23, ?a23, ?b23⟩
            case a23 =>
              simp (disch := first | decide | omega | (simp only [List.length_cons, List.length_nil, List.length_append, length_bvs, List.length_take, List.length_drop]; omega)) only [rfo, go_sem, Nat.reduceAdd, Nat.reduceMul, Nat.reduceSub]
              all_goals with_reducible rfl
            case b23 =>
              exact chle_lit (by simp (disch := decide) [AllLk, lk_hit, lk_miss, lk_nil]) (by simp (disch := decide) [AllLk, lk_hit, lk_miss, lk_nil]) (by decide)
          · have hb1 : b.toNat ≤ 1 := by omega
            refine ⟨?s24, ?a24, ?b24⟩
            case a24 =>
              simp (disch := first | decide | omega | (simp only [List.length_cons, List.length_nil, List.length_append, length_bvs, List.length_take, List.length_drop]; omega)) only [rfo, go_sem, Nat.reduceAdd, Nat.reduceMul, Nat.reduceSub]
              all_goals with_reducible rfl
            case b24 =>
              exact chle_lit (by simp (disch := decide) [AllLk, lk_hit, lk_miss, lk_nil]) (by simp (disch := decide) [AllLk, lk_hit, lk_miss, lk_nil]) (by decide)
        case hq =>
        refine xwp_cf ?h25 ?q25
        case h25 =>
          simp (disch := first | decide | omega | (simp only [List.length_cons, List.length_nil, List.length_append, length_bvs, List.length_take, List.length_drop]; omega)) only [go_sem, Nat.reduceAdd, Nat.reduceMul, Nat.reduceSub]
          all_goals with_reducible rfl
        case q25 =>
        refine xwp_skip ?_
        have hx : b.toNat % 128 * 2 ^ (7 * k) < 18446744073709551616 := by
          have : k = 0 ∨ k = 1 ∨ k = 2 ∨ k = 3 ∨ k = 4 ∨ k = 5 ∨ k = 6 ∨ k = 7 ∨ k = 8 ∨ k = 9 := by omega
          rcases this with rfl | rfl | rfl | rfl | rfl | rfl | rfl | rfl | rfl | rfl <;> simp only [Nat.reduceMul, Nat.reducePow] <;> omega
        have hx2 : acc + b.toNat % 128 * 2 ^ (7 * k) < 18446744073709551616 := by
          have : k = 0 ∨ k = 1 ∨ k = 2 ∨ k = 3 ∨ k = 4 ∨ k = 5 ∨ k = 6 ∨ k = 7 ∨ k = 8 ∨ k = 9 := by omega
          rcases this with rfl | rfl | rfl | rfl | rfl | rfl | rfl | rfl | rfl | rfl <;> simp only [Nat.reduceMul, Nat.reducePow] at ha ⊢ <;> omega
        have hand : bitsI .and .u8 (b.toNat : Int) ((127 : Nat) : Int) = ((b.toNat % 128 : Nat) : Int) := by
          rw [bits_and .u8 rfl hb (by decide), show (127 : Nat) = 2 ^ 7 - 1 from rfl, Nat.and_two_pow_sub_one_eq_mod]
        have h25 : ((b.toNat % 128 : Nat) : Int) * ((2 ^ (7 * k) : Nat) : Int) = ((b.toNat % 128 * 2 ^ (7 * k) : Nat) : Int) := icast_mul _ _
        refine xwp_seq (xwp_region (e := ?e26) (s' := ?s26) base8 ?h26 ?q26)
        case h26 =>
          simp (disch := first | decide | omega | (simp only [List.length_cons, List.length_nil, List.length_append, length_bvs, List.length_take, List.length_drop]; omega)) only [rfo, hand, h25, go_sem, Nat.reduceAdd, Nat.reduceMul, Nat.reduceSub]
          all_goals with_reducible rfl
        case q26 =>
        refine xwp_seq (xwp_region (e := ?e27) (s' := ?s27) base8 ?h27 ?q27)
        case h27 =>
          simp (disch := first | decide | omega | (simp only [List.length_cons, List.length_nil, List.length_append, length_bvs, List.length_take, List.length_drop]; omega)) only [go_sem, Nat.reduceAdd, Nat.reduceMul, Nat.reduceSub]
          all_goals with_reducible rfl
        case q27 =>
        by_cases h128 : b.toNat < 128
        · refine xwp_ct ?h28 ?q28
          case h28 =>
            simp (disch := first | decide | omega | (simp only [List.length_cons, List.length_nil, List.length_append, length_bvs, List.length_take, List.length_drop]; omega)) only [go_sem, Nat.reduceAdd, Nat.reduceMul, Nat.reduceSub]
            all_goals with_reducible rfl
          case q28 =>
          refine xwp_region_to base8 ⟨frm [(3, some (.int .u64 ((acc + b.toNat % 128 * 2 ^ (7 * k) : Nat) : Int)))], wd [(0, some (.cells [.string (str s'), .bool (decide (0 < k ∧ b.toNat = 0))] 103 (0, 0)))] 1 [] 0, []⟩ ?hn2 ?hq2
          case hn2 =>
            by_cases hk0 : k = 0
            · have hd : decide (0 < k ∧ b.toNat = 0) = false := by simp [hk0]
              rw [hd]
              refine ⟨?s29, ?a29, ?b29⟩
              case a29 =>
                simp (disch := first | decide | omega | (simp only [List.length_cons, List.length_nil, List.length_append, length_bvs, List.length_take, List.length_drop]; omega)) only [rfo, wantU, go_sem, Nat.reduceAdd, Nat.reduceMul, Nat.reduceSub]
                all_goals with_reducible rfl
              case b29 =>
                exact chle_lit (by simp (disch := decide) [AllLk, lk_hit, lk_miss, lk_nil]) (by simp (disch := decide) [AllLk, lk_hit, lk_miss, lk_nil]) (by decide)
            · by_cases hb0 : b.toNat = 0
              · have hd : decide (0 < k ∧ b.toNat = 0) = true := by simp only [hb0, and_true, decide_eq_true_eq]; omega
                rw [hd]
                refine ⟨?s30, ?a30, ?b30⟩
                case a30 =>
                  simp (disch := first | decide | omega | (simp only [List.length_cons, List.length_nil, List.length_append, length_bvs, List.length_take, List.length_drop]; omega)) only [rfo, go_sem, Nat.reduceAdd, Nat.reduceMul, Nat.reduceSub]
                  all_goals with_reducible rfl
                case b30 =>
                  exact chle_lit (by simp (disch := decide) [AllLk, lk_hit, lk_miss, lk_nil]) (by simp (disch := decide) [AllLk, lk_hit, lk_miss, lk_nil]) (by decide)
              · have hd : decide (0 < k ∧ b.toNat = 0) = false := by simp [hb0]
                rw [hd]
                refine ⟨?s31, ?a31, ?b31⟩
                case a31 =>
                  simp (disch := first | decide | omega | (simp only [List.length_cons, List.length_nil, List.length_append, length_bvs, List.length_take, List.length_drop]; omega)) only [rfo, go_sem, Nat.reduceAdd, Nat.reduceMul, Nat.reduceSub]
                  all_goals with_reducible rfl
                case b31 =>
                  exact chle_lit (by simp (disch := decide) [AllLk, lk_hit, lk_miss, lk_nil]) (by simp (disch := decide) [AllLk, lk_hit, lk_miss, lk_nil]) (by decide)
          case hq2 =>
          refine xwp_seq (xwp_region (e := ?e32) (s' := ?s32) base8 ?h32 ?q32)
          case h32 =>
            simp (disch := first | decide | omega | (simp only [List.length_cons, List.length_nil, List.length_append, length_bvs, List.length_take, List.length_drop]; omega)) only [go_sem, Nat.reduceAdd, Nat.reduceMul, Nat.reduceSub]
            all_goals with_reducible rfl
          case q32 =>
          refine xwp_ret ?_
          refine ⟨_, ?e33, ?W33, rfl, ?h33, ?q33⟩
          case h33 =>
            simp (disch := first | decide | omega | (simp only [List.length_cons, List.length_nil, List.length_append, length_bvs, List.length_take, List.length_drop]; omega)) only [Tryz.results69, go_sem, Nat.reduceAdd, Nat.reduceMul, Nat.reduceSub]
            all_goals with_reducible rfl
          case q33 =>
          rw [← heq, rfU.eq_3, if_neg h9, if_pos h128]
          exact ⟨rfl, by simp (disch := first | decide | omega | (simp only [List.length_cons, List.length_nil, List.length_append, length_bvs, List.length_take, List.length_drop]; omega)) only [rfo, go_sem, Nat.reduceAdd, Nat.reduceMul, Nat.reduceSub]⟩
        · refine xwp_cf ?h34 ?q34
          case h34 =>
            simp (disch := first | decide | omega | (simp only [List.length_cons, List.length_nil, List.length_append, length_bvs, List.length_take, List.length_drop]; omega)) only [go_sem, Nat.reduceAdd, Nat.reduceMul, Nat.reduceSub]
            all_goals with_reducible rfl
          case q34 =>
          refine xwp_skip ?_
          have hk9 : k < 9 := by omega
          refine xwp_region (e := ?e35) (s' := ?s35) base8 ?h35 ?q35
          case h35 =>
            simp (disch := first | decide | omega | (simp only [List.length_cons, List.length_nil, List.length_append, length_bvs, List.length_take, List.length_drop]; omega)) only [go_sem, Nat.reduceAdd, Nat.reduceMul, Nat.reduceSub]
            all_goals with_reducible rfl
          case q35 =>
          have hP : 2 ^ (7 * (k + 1)) = 128 * 2 ^ (7 * k) := by rw [show 7 * (k + 1) = 7 + 7 * k by omega, Nat.pow_add]
          have h127 : b.toNat % 128 * 2 ^ (7 * k) ≤ 127 * 2 ^ (7 * k) := Nat.mul_le_mul_right _ (by omega)
          refine ⟨⟨k + 1, acc + b.toNat % 128 * 2 ^ (7 * k), s', by omega, by omega, ?_⟩, by simp only; omega, ?_⟩
          · rw [← heq, rfU.eq_3, if_neg h9, if_neg h128]
          · exact chle_lit (by simp (disch := decide) [AllLk, lk_hit, lk_miss, lk_nil]) (by simp (disch := decide) [AllLk, lk_hit, lk_miss, lk_nil, rfo]) (by decide)
    · refine xwp_seq ?_
      refine xwp_seq (xwp_region (e := ?e36) (s' := ?s36) base8 ?h36 ?q36)
      case h36 =>
        simp (disch := first | decide | omega | (simp only [List.length_cons, List.length_nil, List.length_append, length_bvs, List.length_take, List.length_drop]; omega)) only [rfo, go_sem, Nat.reduceAdd, Nat.reduceMul, Nat.reduceSub]
        all_goals with_reducible rfl
      case q36 =>
      refine xwp_cf ?h37 ?q37
      case h37 =>
        simp (disch := first | decide | omega | (simp only [List.length_cons, List.length_nil, List.length_append, length_bvs, List.length_take, List.length_drop]; omega)) only [go_sem, Nat.reduceAdd, Nat.reduceMul, Nat.reduceSub]
        all_goals with_reducible rfl
      case q37 =>
      refine xwp_exit ?_
      show XWp _ _ _ _ _ _
      refine xwp_seq (xwp_region (e := ?e38) (s' := ?s38) base8 ?h38 ?q38)
      case h38 =>
        simp (disch := first | decide | omega | (simp only [List.length_cons, List.length_nil, List.length_append, length_bvs, List.length_take, List.length_drop]; omega)) only [rfo, go_sem, Nat.reduceAdd, Nat.reduceMul, Nat.reduceSub]
        all_goals with_reducible rfl
      case q38 =>
      refine xwp_seq (xwp_region (e := ?e39) (s' := ?s39) base8 ?h39 ?q39)
      case h39 =>
        simp (disch := first | decide | omega | (simp only [List.length_cons, List.length_nil, List.length_append, length_bvs, List.length_take, List.length_drop]; omega)) only [go_sem, Nat.reduceAdd, Nat.reduceMul, Nat.reduceSub]
        all_goals with_reducible rfl
      case q39 =>
      refine xwp_ret ?_
      refine ⟨_, ?e40, ?W40, rfl, ?h40, ?q40⟩
      case h40 =>
        simp (disch := first | decide | omega | (simp only [List.length_cons, List.length_nil, List.length_append, length_bvs, List.length_take, List.length_drop]; omega)) only [Tryz.results69, go_sem, Nat.reduceAdd, Nat.reduceMul, Nat.reduceSub]
        all_goals with_reducible rfl
      case q40 =>
      rw [← heq, show 10 - k = 0 by omega]
      exact ⟨rfl, by simp (disch := first | decide | omega | (simp only [List.length_cons, List.length_nil, List.length_append, length_bvs, List.length_take, List.length_drop]; omega)) only [rfo, rfU.eq_1, go_sem, Nat.reduceAdd, Nat.reduceMul, Nat.reduceSub]⟩
theorem rfU_lt : ∀ (f k acc : Nat) (s : List UInt8), acc < 2 ^ (7 * k) → k + f ≤ 10 → (rfU f k acc s).1 < 18446744073709551616
  | 0, k, acc, s, _, _ => by show 0 < _; decide
  | f + 1, k, acc, [], _, _ => by show 0 < _; decide
  | f + 1, k, acc, b :: s, ha, hk => by
    have hb := b.toNat_lt
    rw [rfU.eq_3]
    by_cases h9 : k = 9 ∧ 1 < b.toNat
    · rw [if_pos h9]; show 0 < _; decide
    · rw [if_neg h9]
      by_cases h128 : b.toNat < 128
      · rw [if_pos h128]
        show acc + b.toNat % 128 * 2 ^ (7 * k) < _
        have : k = 0 ∨ k = 1 ∨ k = 2 ∨ k = 3 ∨ k = 4 ∨ k = 5 ∨ k = 6 ∨ k = 7 ∨ k = 8 ∨ k = 9 := by omega
        rcases this with rfl | rfl | rfl | rfl | rfl | rfl | rfl | rfl | rfl | rfl <;> simp only [Nat.reduceMul, Nat.reducePow] at ha ⊢ <;> omega
      · rw [if_neg h128]
        by_cases hk9 : k = 9
        · exact absurd hk9 (by omega)
        · have hP : 2 ^ (7 * (k + 1)) = 128 * 2 ^ (7 * k) := by rw [show 7 * (k + 1) = 7 + 7 * k by omega, Nat.pow_add]
          have h127 : b.toNat % 128 * 2 ^ (7 * k) ≤ 127 * 2 ^ (7 * k) := Nat.mul_le_mul_right _ (by omega)
          exact rfU_lt f (k + 1) _ s (by omega) (by omega)
theorem fNum_lt (s : List UInt8) (t : Bool) : (fNum s t).1 < 18446744073709551616 := by
  unfold fNum
  split
  · show 0 < _; decide
  · exact rfU_lt 10 0 0 s (by decide) (by decide)
def pfNum : PF := fun xs s t => match xs with
  | [] => some (.int .u64 ((fNum s t).1 : Int), (fNum s t).2.1, (fNum s t).2.2)
  | _ => none
theorem pfNum_eq {s : List UInt8} {t : Bool} : pfNum [] s t = some (.int .u64 ((fNum s t).1 : Int), (fNum s t).2.1, (fNum s t).2.2) := rfl
theorem okFNum : HookOk Tryz.prog 69 (rgH pfNum) := rgH_ok (enters_of (by kernel_rfl)) (fun xs s t v s' t' h => by
    unfold pfNum at h
    split at h
    · cases h; exact ⟨bares_nil, bare_flat 1 rfl⟩
    · cases h) (fun xs s t v s' t' h => by
    unfold pfNum at h
    split at h
    · cases h; exact fNumLocal s t
    · cases h)
noncomputable def T9 : List (FuncId × HF) := [(69, rgH pfNum), (43, rgH pfTake)]
theorem base9 : Base Tryz.prog (hooksOf T9 []) := ⟨mixed, hooksOf_sim (.cons _ _ _ okFNum (.cons _ _ _ okFTake .nil)) .nil⟩
/-! ### many -/
def fMany (most : Nat) (s : List UInt8) (t : Bool) : Nat × List UInt8 × Bool := if most < (fNum s t).1 then (0, (fNum s t).2.1, true) else fNum s t
theorem fManyLocal (s : List UInt8) (t : Bool) (most : Nat) (hm : most < 9223372036854775808) : Local Tryz.prog 40 [.pointer (some ⟨0, 0, none⟩), .int .i64 most] (wd [(0, some (rfo s t))] 1 [] 0) fun e W' =>
    e = .ret (.int .i64 ((fMany most s t).1 : Int)) ∧ W'.get 0 = some (rfo (fMany most s t).2.1 (fMany most s t).2.2) := by
  refine lit_local base9 Tryz.func40 rfl (Nat.le_of_ble_eq_true rfl) ?_
  simp only [frOfL.eq_1, frOfL.eq_2, wd_next, Tryz.ntmps40, Nat.reduceAdd]
  have hl := fNum_lt s t
  unfold fMany
  obtain ⟨n, hn⟩ : ∃ n, n = (fNum s t).1 := ⟨_, rfl⟩
  refine xwp_seq (xwp_region (e := ?e41) (s' := ?s41) base9 ?h41 ?q41)
  case h41 =>
    simp (disch := first | decide | omega | (simp only [List.length_cons, List.length_nil, List.length_append, length_bvs, List.length_take, List.length_drop]; omega)) only [go_sem, Nat.reduceAdd, Nat.reduceMul, Nat.reduceSub]
    all_goals with_reducible rfl
  case q41 =>
  refine xwp_seq (xwp_region (e := ?e42) (s' := ?s42) base9 ?h42 ?q42)
  case h42 =>
    simp (disch := first | decide | omega | (simp only [List.length_cons, List.length_nil, List.length_append, length_bvs, List.length_take, List.length_drop]; omega)) only [T9, rgH_eq, rgO_eq, rgO_lit, rgK.eq_1, pfTake_ok, pfTake_no, pfNum_eq, go_sem, Nat.reduceAdd, Nat.reduceMul, Nat.reduceSub]
    all_goals with_reducible rfl
  case q42 =>
  refine xwp_seq ?_
  refine xwp_seq (xwp_region (e := ?e43) (s' := ?s43) base9 ?h43 ?q43)
  case h43 =>
    simp (disch := first | decide | omega | (simp only [List.length_cons, List.length_nil, List.length_append, length_bvs, List.length_take, List.length_drop]; omega)) only [go_sem, Nat.reduceAdd, Nat.reduceMul, Nat.reduceSub]
    all_goals with_reducible rfl
  case q43 =>
  by_cases h : most < (fNum s t).1
  · rw [if_pos h]
    refine xwp_ct ?h44 ?q44
    case h44 =>
      simp (disch := first | decide | omega | (simp only [List.length_cons, List.length_nil, List.length_append, length_bvs, List.length_take, List.length_drop]; omega)) only [go_sem, Nat.reduceAdd, Nat.reduceMul, Nat.reduceSub]
      all_goals with_reducible rfl
    case q44 =>
    refine xwp_seq (xwp_region (e := ?e45) (s' := ?s45) base9 ?h45 ?q45)
    case h45 =>
      simp (disch := first | decide | omega | (simp only [List.length_cons, List.length_nil, List.length_append, length_bvs, List.length_take, List.length_drop]; omega)) only [rfo, go_sem, Nat.reduceAdd, Nat.reduceMul, Nat.reduceSub]
      all_goals with_reducible rfl
    case q45 =>
    refine xwp_seq (xwp_region (e := ?e46) (s' := ?s46) base9 ?h46 ?q46)
    case h46 =>
      simp (disch := first | decide | omega | (simp only [List.length_cons, List.length_nil, List.length_append, length_bvs, List.length_take, List.length_drop]; omega)) only [go_sem, Nat.reduceAdd, Nat.reduceMul, Nat.reduceSub]
      all_goals with_reducible rfl
    case q46 =>
    refine xwp_ret ?_
    refine ⟨_, ?e47, ?W47, rfl, ?h47, ?q47⟩
    case h47 =>
      simp (disch := first | decide | omega | (simp only [List.length_cons, List.length_nil, List.length_append, length_bvs, List.length_take, List.length_drop]; omega)) only [Tryz.results40, go_sem, Nat.reduceAdd, Nat.reduceMul, Nat.reduceSub]
      all_goals with_reducible rfl
    case q47 =>
    exact ⟨rfl, by simp (disch := first | decide | omega | (simp only [List.length_cons, List.length_nil, List.length_append, length_bvs, List.length_take, List.length_drop]; omega)) only [rfo, go_sem, Nat.reduceAdd, Nat.reduceMul, Nat.reduceSub]⟩
  · rw [if_neg h]
    refine xwp_cf ?h48 ?q48
    case h48 =>
      simp (disch := first | decide | omega | (simp only [List.length_cons, List.length_nil, List.length_append, length_bvs, List.length_take, List.length_drop]; omega)) only [go_sem, Nat.reduceAdd, Nat.reduceMul, Nat.reduceSub]
      all_goals with_reducible rfl
    case q48 =>
    refine xwp_skip ?_
    refine xwp_seq (xwp_region (e := ?e49) (s' := ?s49) base9 ?h49 ?q49)
    case h49 =>
      simp (disch := first | decide | omega | (simp only [List.length_cons, List.length_nil, List.length_append, length_bvs, List.length_take, List.length_drop]; omega)) only [go_sem, Nat.reduceAdd, Nat.reduceMul, Nat.reduceSub]
      all_goals with_reducible rfl
    case q49 =>
    refine xwp_ret ?_
    refine ⟨_, ?e50, ?W50, rfl, ?h50, ?q50⟩
    case h50 =>
      simp (disch := first | decide | omega | (simp only [List.length_cons, List.length_nil, List.length_append, length_bvs, List.length_take, List.length_drop]; omega)) only [Tryz.results40, go_sem, Nat.reduceAdd, Nat.reduceMul, Nat.reduceSub]
      all_goals with_reducible rfl
    case q50 =>
    exact ⟨rfl, by simp (disch := first | decide | omega | (simp only [List.length_cons, List.length_nil, List.length_append, length_bvs, List.length_take, List.length_drop]; omega)) only [rfo, go_sem, Nat.reduceAdd, Nat.reduceMul, Nat.reduceSub]⟩
def fInt (s : List UInt8) (t : Bool) : Int × List UInt8 × Bool := (unz (fNum s t).1, (fNum s t).2)
theorem fIntLocal (s : List UInt8) (t : Bool) : Local Tryz.prog 70 [.pointer (some ⟨0, 0, none⟩)] (wd [(0, some (rfo s t))] 1 [] 0) fun e W' =>
    e = .ret (.int .i64 (fInt s t).1) ∧ W'.get 0 = some (rfo (fInt s t).2.1 (fInt s t).2.2) := by
  refine lit_local base9 Tryz.func70 rfl (Nat.le_of_ble_eq_true rfl) ?_
  simp only [frOfL.eq_1, frOfL.eq_2, wd_next, Tryz.ntmps70, Nat.reduceAdd]
  have hl := fNum_lt s t
  unfold fInt
  refine xwp_seq (xwp_region (e := ?e51) (s' := ?s51) base9 ?h51 ?q51)
  case h51 =>
    simp (disch := first | decide | omega | (simp only [List.length_cons, List.length_nil, List.length_append, length_bvs, List.length_take, List.length_drop]; omega)) only [go_sem, Nat.reduceAdd, Nat.reduceMul, Nat.reduceSub]
    all_goals with_reducible rfl
  case q51 =>
  refine xwp_seq (xwp_region (e := ?e52) (s' := ?s52) base9 ?h52 ?q52)
  case h52 =>
    simp (disch := first | decide | omega | (simp only [List.length_cons, List.length_nil, List.length_append, length_bvs, List.length_take, List.length_drop]; omega)) only [T9, rgH_eq, rgO_eq, rgO_lit, rgK.eq_1, pfTake_ok, pfTake_no, pfNum_eq, go_sem, Nat.reduceAdd, Nat.reduceMul, Nat.reduceSub]
    all_goals with_reducible rfl
  case q52 =>
  have hand : bitsI .and .u64 (((fNum s t).1 : Nat) : Int) ((1 : Nat) : Int) = (((fNum s t).1 % 2 : Nat) : Int) := by
    rw [bits_and .u64 rfl hl (by decide), and_one]
  refine xwp_seq ?_
  refine xwp_seq (xwp_region (e := ?e53) (s' := ?s53) base9 ?h53 ?q53)
  case h53 =>
    simp (disch := first | decide | omega | (simp only [List.length_cons, List.length_nil, List.length_append, length_bvs, List.length_take, List.length_drop]; omega)) only [hand, go_sem, Nat.reduceAdd, Nat.reduceMul, Nat.reduceSub]
    all_goals with_reducible rfl
  case q53 =>
  unfold unz
  by_cases h : (fNum s t).1 % 2 = 0
  · rw [if_pos h]
    refine xwp_cf ?h54 ?q54
    case h54 =>
      simp (disch := first | decide | omega | (simp only [List.length_cons, List.length_nil, List.length_append, length_bvs, List.length_take, List.length_drop]; omega)) only [go_sem, Nat.reduceAdd, Nat.reduceMul, Nat.reduceSub]
      all_goals with_reducible rfl
    case q54 =>
    refine xwp_skip ?_
    refine xwp_seq (xwp_region (e := ?e55) (s' := ?s55) base9 ?h55 ?q55)
    case h55 =>
      simp (disch := first | decide | omega | (simp only [List.length_cons, List.length_nil, List.length_append, length_bvs, List.length_take, List.length_drop]; omega)) only [go_sem, Nat.reduceAdd, Nat.reduceMul, Nat.reduceSub]
      all_goals with_reducible rfl
    case q55 =>
    refine xwp_ret ?_
    refine ⟨_, ?e56, ?W56, rfl, ?h56, ?q56⟩
    case h56 =>
      simp (disch := first | decide | omega | (simp only [List.length_cons, List.length_nil, List.length_append, length_bvs, List.length_take, List.length_drop]; omega)) only [Tryz.results70, go_sem, Nat.reduceAdd, Nat.reduceMul, Nat.reduceSub]
      all_goals with_reducible rfl
    case q56 =>
    exact ⟨rfl, by simp (disch := first | decide | omega | (simp only [List.length_cons, List.length_nil, List.length_append, length_bvs, List.length_take, List.length_drop]; omega)) only [rfo, go_sem, Nat.reduceAdd, Nat.reduceMul, Nat.reduceSub]⟩
  · rw [if_neg h]
    have h1 : (fNum s t).1 % 2 = 1 := by omega
    refine xwp_ct ?h57 ?q57
    case h57 =>
      simp (disch := first | decide | omega | (simp only [List.length_cons, List.length_nil, List.length_append, length_bvs, List.length_take, List.length_drop]; omega)) only [go_sem, Nat.reduceAdd, Nat.reduceMul, Nat.reduceSub]
      all_goals with_reducible rfl
    case q57 =>
    refine xwp_seq (xwp_region (e := ?e58) (s' := ?s58) base9 ?h58 ?q58)
    case h58 =>
      simp (disch := first | decide | omega | (simp only [List.length_cons, List.length_nil, List.length_append, length_bvs, List.length_take, List.length_drop]; omega)) only [go_sem, Nat.reduceAdd, Nat.reduceMul, Nat.reduceSub]
      all_goals with_reducible rfl
    case q58 =>
    refine xwp_ret ?_
    refine ⟨_, ?e59, ?W59, rfl, ?h59, ?q59⟩
    case h59 =>
      simp (disch := first | decide | omega | (simp only [List.length_cons, List.length_nil, List.length_append, length_bvs, List.length_take, List.length_drop]; omega)) only [Tryz.results70, go_sem, Nat.reduceAdd, Nat.reduceMul, Nat.reduceSub]
      all_goals with_reducible rfl
    case q59 =>
    refine ⟨congrArg (fun x => XEnd.ret (.int .i64 x)) ?_, by simp (disch := first | decide | omega | (simp only [List.length_cons, List.length_nil, List.length_append, length_bvs, List.length_take, List.length_drop]; omega)) only [rfo, go_sem, Nat.reduceAdd, Nat.reduceMul, Nat.reduceSub]⟩
    simp only [Nat.pow_one]
    omega
def pfMany : PF := fun xs s t => match xs with
  | [.int .i64 (.ofNat most)] => bif Nat.blt most 9223372036854775808 then some (.int .i64 ((fMany most s t).1 : Int), (fMany most s t).2.1, (fMany most s t).2.2) else none
  | _ => none
theorem pfMany_eq {most : Nat} {s : List UInt8} {t : Bool} (h : most < 9223372036854775808) : pfMany [.int .i64 (most : Int)] s t = some (.int .i64 ((fMany most s t).1 : Int), (fMany most s t).2.1, (fMany most s t).2.2) := by
  show (bif Nat.blt most 9223372036854775808 then _ else none) = _
  rw [blt_t h]; rfl
theorem okFMany : HookOk Tryz.prog 40 (rgH pfMany) := rgH_ok (enters_of (by kernel_rfl)) (fun xs s t v s' t' h => by
    unfold pfMany at h
    split at h
    · rename_i most
      cases hm : Nat.blt most 9223372036854775808 with
      | false => rw [hm] at h; cases h
      | true => rw [hm] at h; cases h; exact ⟨bares_cons (bare_flat 1 rfl) bares_nil, bare_flat 1 rfl⟩
    · cases h) (fun xs s t v s' t' h => by
    unfold pfMany at h
    split at h
    · rename_i most
      cases hm : Nat.blt most 9223372036854775808 with
      | false => rw [hm] at h; cases h
      | true => rw [hm] at h; cases h; exact fManyLocal s t most (Nat.le_of_ble_eq_true hm)
    · cases h)
def pfInt : PF := fun xs s t => match xs with
  | [] => some (.int .i64 (fInt s t).1, (fInt s t).2.1, (fInt s t).2.2)
  | _ => none
theorem pfInt_eq {s : List UInt8} {t : Bool} : pfInt [] s t = some (.int .i64 (fInt s t).1, (fInt s t).2.1, (fInt s t).2.2) := rfl
theorem okFInt : HookOk Tryz.prog 70 (rgH pfInt) := rgH_ok (enters_of (by kernel_rfl)) (fun xs s t v s' t' h => by
    unfold pfInt at h
    split at h
    · cases h; exact ⟨bares_nil, bare_flat 1 rfl⟩
    · cases h) (fun xs s t v s' t' h => by
    unfold pfInt at h
    split at h
    · cases h; exact fIntLocal s t
    · cases h)
/-! ### hash -/
def zH : List UInt8 := List.replicate 32 0
def fHash (s : List UInt8) (t : Bool) : List UInt8 × List UInt8 × Bool := if 32 ≤ s.length then (s.take 32, s.drop 32, t) else (zH, [], true)
structure HsS (q : List UInt8) where
  i : Nat
  l : List UInt8
  hi : i ≤ q.length
  hl : l.length = 32
  h1 : l.take i = q.take i
  h2 : l.drop i = zH.drop i
theorem iad_arr {P : Program} {n b o i : Nat} {e : TypeId} {k : IntKind} : iadX P (some (.array n e)) (some (.pointer (some ⟨b, o, none⟩))) (some (.int k ((i : Nat) : Int))) = iad1 b o i n (sz P e) := rfl
theorem wr_bvs {l : List UInt8} {i : Nat} {x : UInt8} (h : i < l.length) : List.take i (bvs l) ++ Value.int .u8 (x.toNat : Int) :: List.drop (i + 1) (bvs l) = bvs (l.set i x) := by
  unfold bvs
  rw [List.set_eq_take_append_cons_drop, if_pos h, List.map_append, List.map_cons, List.map_take, List.map_drop]
  rfl
set_option maxHeartbeats 1000000 in
theorem fHashLocal (s : List UInt8) (t : Bool) : Local Tryz.prog 41 [.pointer (some ⟨0, 0, none⟩)] (wd [(0, some (rfo s t))] 1 [] 0) fun e W' =>
    e = .ret (.agg (bvs (fHash s t).1).toArray) ∧ W'.get 0 = some (rfo (fHash s t).2.1 (fHash s t).2.2) := by
  refine lit_local base9 Tryz.func41 rfl (Nat.le_of_ble_eq_true rfl) ?_
  simp only [frOfL.eq_1, frOfL.eq_2, wd_next, Tryz.ntmps41, Nat.reduceAdd]
  refine xwp_seq (xwp_region (e := ?e60) (s' := ?s60) base9 ?h60 ?q60)
  case h60 =>
    simp (disch := first | decide | omega | (simp only [List.length_cons, List.length_nil, List.length_append, length_bvs, List.length_take, List.length_drop]; omega)) only [go_sem, Nat.reduceAdd, Nat.reduceMul, Nat.reduceSub]
    all_goals with_reducible rfl
  case q60 =>
  refine xwp_seq (xwp_region (e := ?e61) (s' := ?s61) base9 ?h61 ?q61)
  case h61 =>
    simp (disch := first | decide | omega | (simp only [List.length_cons, List.length_nil, List.length_append, length_bvs, List.length_take, List.length_drop]; omega)) only [go_sem, Nat.reduceAdd, Nat.reduceMul, Nat.reduceSub]
    all_goals with_reducible rfl
  case q61 =>
  obtain ⟨q, s1, t1, hq, hq1, hh⟩ : ∃ q s1 t1, pfTake [.int .i64 ((32 : Nat) : Int)] s t = some (.string (str q), s1, t1) ∧ (q.length = 32 ∨ q.length = 0) ∧ fHash s t = (q ++ List.replicate (32 - q.length) 0, s1, t1) := by
    by_cases h : 32 ≤ s.length
    · have hl : (s.take 32).length = 32 := by rw [List.length_take]; omega
      refine ⟨s.take 32, s.drop 32, t, pfTake_ok h, .inl hl, ?_⟩
      rw [fHash, if_pos h, hl]; simp
    · exact ⟨[], [], true, pfTake_no (by omega), .inr rfl, by rw [fHash, if_neg h]; rfl⟩
  rw [hh]
  refine xwp_seq (xwp_region (e := ?e62) (s' := ?s62) base9 ?h62 ?q62)
  case h62 =>
    simp (disch := first | decide | omega | (simp only [List.length_cons, List.length_nil, List.length_append, length_bvs, List.length_take, List.length_drop]; omega)) only [T9, rgH_eq, rgO_eq, rgK.eq_1, hq, go_sem, Nat.reduceAdd, Nat.reduceMul, Nat.reduceSub]
    all_goals with_reducible rfl
  case q62 =>
  refine xwp_seq ?_
  refine xwp_seq (xwp_region (e := ?e63) (s' := ?s63) base9 ?h63 ?q63)
  case h63 =>
    simp (disch := first | decide | omega | (simp only [List.length_cons, List.length_nil, List.length_append, length_bvs, List.length_take, List.length_drop]; omega)) only [go_sem, Nat.reduceAdd, Nat.reduceMul, Nat.reduceSub]
    all_goals with_reducible rfl
  case q63 =>
  refine xwp_block ?_
  refine xwp_le (chle_lit (F' := [(0, some (.pointer (some ⟨0, 0, none⟩))), (2, some (.pointer (some ⟨1, 0, none⟩))), (3, some (.pointer (some ⟨2, 0, none⟩))), (4, some (.string (str q))), (5, some (.int .i64 ((0 : Nat) : Int)))]) (L' := [(0, some (rfo s1 t1)), (1, some (.cells (bvs zH) 32 (0, 0))), (2, some (.cells (bvs zH) 32 (0, 0)))]) (n' := 3) (lg' := []) (nl' := 0) (by simp (disch := decide) [AllLk, lk_hit, lk_miss]) ⟨⟨by decide, rfl⟩, ⟨by decide, rfl⟩, ⟨by decide, rfl⟩, trivial⟩ (by decide)) ?_
  refine xwp_loop (α := HsS q) (fun x => ⟨frm [(0, some (.pointer (some ⟨0, 0, none⟩))), (2, some (.pointer (some ⟨1, 0, none⟩))), (3, some (.pointer (some ⟨2, 0, none⟩))), (4, some (.string (str q))), (5, some (.int .i64 (x.i : Int)))], wd [(0, some (rfo s1 t1)), (1, some (.cells (bvs zH) 32 (0, 0))), (2, some (.cells (bvs x.l) 32 (0, 0)))] 3 [] 0, []⟩) (fun x => 32 - x.i) ?_ ⟨0, zH, Nat.zero_le _, rfl, rfl, rfl⟩
  intro ⟨i, l, hi, hl, h1, h2⟩
  simp only
  by_cases hlt : i < q.length
  · refine xwp_seq ?_
    refine xwp_seq (xwp_region (e := ?e64) (s' := ?s64) base9 ?h64 ?q64)
    case h64 =>
      simp (disch := first | decide | omega | (simp only [List.length_cons, List.length_nil, List.length_append, length_bvs, List.length_take, List.length_drop]; omega)) only [go_sem, Nat.reduceAdd, Nat.reduceMul, Nat.reduceSub]
      all_goals with_reducible rfl
    case q64 =>
    refine xwp_ct ?h65 ?q65
    case h65 =>
      simp (disch := first | decide | omega | (simp only [List.length_cons, List.length_nil, List.length_append, length_bvs, List.length_take, List.length_drop]; omega)) only [go_sem, Nat.reduceAdd, Nat.reduceMul, Nat.reduceSub]
      all_goals with_reducible rfl
    case q65 =>
    refine xwp_skip ?_
    refine xwp_seq (xwp_block ?_)
    have hq32 : q.length ≤ 32 := by omega
    refine xwp_region (e := ?e66) (s' := ?s66) base9 ?h66 ?q66
    case h66 =>
      simp (disch := first | decide | omega | (simp only [List.length_cons, List.length_nil, List.length_append, length_bvs, List.length_take, List.length_drop]; omega)) only [iad_arr, wr_bvs, hl, Nat.mul_one, go_sem, Nat.reduceAdd, Nat.reduceMul, Nat.reduceSub]
      all_goals with_reducible rfl
    case q66 =>
    show XWp _ _ _ _ _ _
    refine xwp_region (e := ?e67) (s' := ?s67) base9 ?h67 ?q67
    case h67 =>
      simp (disch := first | decide | omega | (simp only [List.length_cons, List.length_nil, List.length_append, length_bvs, List.length_take, List.length_drop]; omega)) only [go_sem, Nat.reduceAdd, Nat.reduceMul, Nat.reduceSub]
      all_goals with_reducible rfl
    case q67 =>
    refine ⟨⟨i + 1, l.set i q[i], hlt, by rw [List.length_set]; exact hl, ?_, ?_⟩, by simp only; omega, chle_lit (by simp (disch := decide) [AllLk, lk_hit, lk_miss, lk_nil]) (by simp (disch := decide) [AllLk, lk_hit, lk_miss, lk_nil]) (by decide)⟩
    · rw [List.take_succ_eq_append_getElem (by rw [List.length_set]; omega), List.take_succ_eq_append_getElem hlt, List.take_set_of_le (Nat.le_refl i), h1, List.getElem_set_self]
    · rw [List.drop_set_of_lt (by omega), ← List.drop_drop, ← List.drop_drop, h2]
  · have hin : i = q.length := by omega
    subst hin
    have hfin : l = q ++ List.replicate (32 - q.length) 0 := by
      rw [← List.take_append_drop q.length l, h1, h2, List.take_length]
      congr 1
      rcases hq1 with e | e <;> rw [e] <;> rfl
    refine xwp_seq ?_
    refine xwp_seq (xwp_region (e := ?e68) (s' := ?s68) base9 ?h68 ?q68)
    case h68 =>
      simp (disch := first | decide | omega | (simp only [List.length_cons, List.length_nil, List.length_append, length_bvs, List.length_take, List.length_drop]; omega)) only [go_sem, Nat.reduceAdd, Nat.reduceMul, Nat.reduceSub]
      all_goals with_reducible rfl
    case q68 =>
    refine xwp_cf ?h69 ?q69
    case h69 =>
      simp (disch := first | decide | omega | (simp only [List.length_cons, List.length_nil, List.length_append, length_bvs, List.length_take, List.length_drop]; omega)) only [go_sem, Nat.reduceAdd, Nat.reduceMul, Nat.reduceSub]
      all_goals with_reducible rfl
    case q69 =>
    refine xwp_exit ?_
    show XWp _ _ _ _ _ _
    have hz : zH.length = 32 := rfl
    refine xwp_seq (xwp_region (e := ?e70) (s' := ?s70) base9 ?h70 ?q70)
    case h70 =>
      simp (disch := first | decide | omega | (simp only [List.length_cons, List.length_nil, List.length_append, length_bvs, List.length_take, List.length_drop]; omega)) only [hl, hz, List.drop_eq_nil_of_le, go_sem, Nat.reduceAdd, Nat.reduceMul, Nat.reduceSub]
      all_goals with_reducible rfl
    case q70 =>
    refine xwp_ret ?_
    refine ⟨_, ?e71, ?W71, rfl, ?h71, ?q71⟩
    case h71 =>
      simp (disch := first | decide | omega | (simp only [List.length_cons, List.length_nil, List.length_append, length_bvs, List.length_take, List.length_drop]; omega)) only [Tryz.results41, hl, hz, go_sem, Nat.reduceAdd, Nat.reduceMul, Nat.reduceSub]
      all_goals with_reducible rfl
    case q71 =>
    rw [← hfin]
    exact ⟨rfl, by simp (disch := first | decide | omega | (simp only [List.length_cons, List.length_nil, List.length_append, length_bvs, List.length_take, List.length_drop]; omega)) only [go_sem, Nat.reduceAdd, Nat.reduceMul, Nat.reduceSub]⟩
def pfHash : PF := fun xs s t => match xs with
  | [] => some (.agg (bvs (fHash s t).1).toArray, (fHash s t).2.1, (fHash s t).2.2)
  | _ => none
theorem pfHash_eq {s : List UInt8} {t : Bool} : pfHash [] s t = some (.agg (bvs (fHash s t).1).toArray, (fHash s t).2.1, (fHash s t).2.2) := rfl
theorem okFHash : HookOk Tryz.prog 41 (rgH pfHash) := rgH_ok (enters_of (by kernel_rfl)) (fun xs s t v s' t' h => by
    unfold pfHash at h
    split at h
    · cases h; exact ⟨bares_nil, bare_agg (bares_bvs _)⟩
    · cases h) (fun xs s t v s' t' h => by
    unfold pfHash at h
    split at h
    · cases h; exact fHashLocal s t
    · cases h)
end Go.Proofs.YthlkgmdkabelpaaGreatDoor.X
namespace Go.Proofs.YthlkgmdkabelpaaGreatDoor.X
open Go Go.RowKit
def fLs {α : Type} (p : List UInt8 → Bool → α × List UInt8 × Bool) : Nat → List UInt8 → Bool → List α × List UInt8 × Bool
  | 0, s, t => ([], s, t)
  | n + 1, s, t => if t = true then ([], s, t) else ((p s t).1 :: (fLs p n (p s t).2.1 (p s t).2.2).1, (fLs p n (p s t).2.1 (p s t).2.2).2)
theorem fLs_go {α : Type} {p : List UInt8 → Bool → α × List UInt8 × Bool} {n : Nat} {s s' : List UInt8} {t' : Bool} {a : α} (h : p s false = (a, s', t')) : fLs p (n + 1) s false = (a :: (fLs p n s' t').1, (fLs p n s' t').2) := by
  rw [fLs, if_neg (by decide), h]
theorem fLs_stop {α : Type} {p : List UInt8 → Bool → α × List UInt8 × Bool} {n : Nat} {s : List UInt8} {t : Bool} (h : n = 0 ∨ t = true) : fLs p n s t = ([], s, t) := by
  cases n with
  | zero => rfl
  | succ n => rcases h with h | h
              · cases h
              · rw [fLs, if_pos h]
structure FSt {α : Type} (p : List UInt8 → Bool → α × List UInt8 × Bool) (N0 : Nat) (s0 : List UInt8) (t0 : Bool) where
  i : Nat
  l : List α
  s : List UInt8
  t : Bool
  hi : i = l.length
  hN : i ≤ N0
  eq : (l ++ (fLs p (N0 - i) s t).1, (fLs p (N0 - i) s t).2) = fLs p N0 s0 t0
def fPair (s : List UInt8) (t : Bool) : (Int × Int) × List UInt8 × Bool := match fInt s t with
  | (a, s1, t1) => match fInt s1 t1 with
    | (b, s2, t2) => ((a, b), s2, t2)
theorem fMany_le (most : Nat) (s : List UInt8) (t : Bool) : (fMany most s t).1 ≤ most := by
  unfold fMany
  split
  · exact Nat.zero_le _
  · omega
def fEdit (s : List UInt8) (t : Bool) : EditL × List UInt8 × Bool := match fInt s t with
  | (a1, s1, t1) => match fInt s1 t1 with
    | (a2, s2, t2) => match fInt s2 t2 with
      | (a3, s3, t3) => match fInt s3 t3 with
        | (a4, s4, t4) => match fInt s4 t4 with
          | (a5, s5, t5) => match fMany 4000 s5 t5 with
            | (n1, s6, t6) => match fLs fPair n1 s6 t6 with
              | (l, s7, t7) => match fMany 4000 s7 t7 with
                | (n2, s8, t8) => match fLs fPair n2 s8 t8 with
                  | (r, s9, t9) => (⟨a1, a2, a3, a4, a5, l, r⟩, s9, t9)
noncomputable def T10 : List (FuncId × HF) := [(70, rgH pfInt), (40, rgH pfMany)]
theorem base10 : Base Tryz.prog (hooksOf T10 []) := ⟨mixed, hooksOf_sim (.cons _ _ _ okFInt (.cons _ _ _ okFMany .nil)) .nil⟩
set_option maxHeartbeats 2000000 in
theorem fEditLocal (s0 : List UInt8) (t0 : Bool) : Local Tryz.prog 42 [.pointer (some ⟨0, 0, none⟩)] (wd [(0, some (rfo s0 t0))] 1 [] 0) fun e W' =>
    e = .ret (.agg (encEdit (fEdit s0 t0).1).toArray) ∧ W'.get 0 = some (rfo (fEdit s0 t0).2.1 (fEdit s0 t0).2.2) := by
  refine lit_local base10 Tryz.func42 rfl (Nat.le_of_ble_eq_true rfl) ?_
  simp only [frOfL.eq_1, frOfL.eq_2, wd_next, Tryz.ntmps42, Nat.reduceAdd]
  refine xwp_seq (xwp_region (e := ?e1) (s' := ?s1) base10 ?h1 ?q1)
  case h1 =>
    simp (disch := first | decide | omega | (simp only [List.length_cons, List.length_nil, List.length_append, length_bvs, List.length_take, List.length_drop]; omega)) only [go_sem, Nat.reduceAdd, Nat.reduceMul, Nat.reduceSub]
    all_goals with_reducible rfl
  case q1 =>
  rcases h1 : fInt s0 t0 with ⟨a1, s1, t1⟩
  rcases h2 : fInt s1 t1 with ⟨a2, s2, t2⟩
  rcases h3 : fInt s2 t2 with ⟨a3, s3, t3⟩
  rcases h4 : fInt s3 t3 with ⟨a4, s4, t4⟩
  rcases h5 : fInt s4 t4 with ⟨a5, s5, t5⟩
  rcases hM1 : fMany 4000 s5 t5 with ⟨n1, s6, t6⟩
  have hn1 : n1 ≤ 4000 := by have := fMany_le 4000 s5 t5; rw [hM1] at this; exact this
  refine xwp_seq (xwp_region (e := ?e2) (s' := ?s2) base10 ?h2 ?q2)
  case h2 =>
    simp (disch := first | decide | omega | (simp only [List.length_cons, List.length_nil, List.length_append, length_bvs, List.length_take, List.length_drop]; omega)) only [T10, rgH_eq, rgO_eq, rgO_lit, rgK.eq_1, pfTake_ok, pfTake_no, pfNum_eq, pfMany_eq, pfInt_eq, pfHash_eq, h1, h2, h3, h4, h5, go_sem, Nat.reduceAdd, Nat.reduceMul, Nat.reduceSub]
    all_goals with_reducible rfl
  case q2 =>
  refine xwp_seq (xwp_region (e := ?e3) (s' := ?s3) base10 ?h3 ?q3)
  case h3 =>
    simp (disch := first | decide | omega | (simp only [List.length_cons, List.length_nil, List.length_append, length_bvs, List.length_take, List.length_drop]; omega)) only [T10, rgH_eq, rgO_eq, rgO_lit, rgK.eq_1, pfTake_ok, pfTake_no, pfNum_eq, pfMany_eq, pfInt_eq, pfHash_eq, hM1, go_sem, Nat.reduceAdd, Nat.reduceMul, Nat.reduceSub]
    all_goals with_reducible rfl
  case q3 =>
  refine xwp_seq ?_
  refine xwp_seq (xwp_region (e := ?e4) (s' := ?s4) base10 ?h4 ?q4)
  case h4 =>
    simp (disch := first | decide | omega | (simp only [List.length_cons, List.length_nil, List.length_append, length_bvs, List.length_take, List.length_drop]; omega)) only [go_sem, Nat.reduceAdd, Nat.reduceMul, Nat.reduceSub]
    all_goals with_reducible rfl
  case q4 =>
  refine xwp_block ?_
  refine xwp_le (chle_lit (F' := [(0, some (.pointer (some ⟨0, 0, none⟩))), (2, some (.pointer (some ⟨1, 0, none⟩))), (3, some (.pointer (some ⟨2, 0, none⟩))), (4, some (.int .i64 (n1 : Int))), (5, some (.int .i64 ((0 : Nat) : Int)))]) (L' := [(0, some (rfo s6 t6)), (1, some (.cells [.int .i64 0, .int .i64 0, .int .i64 0, .int .i64 0, .int .i64 0, .slice none 0 0, .slice none 0 0] 64 (0, 0))), (2, some (.cells [.int .i64 a1, .int .i64 a2, .int .i64 a3, .int .i64 a4, .int .i64 a5, sv 3 [], .slice none 0 0] 64 (0, 0))), (3, rowO 70 [])]) (n' := 4) (lg' := []) (nl' := 0) (by simp (disch := decide) [AllLk, lk_hit, lk_miss, lk_nil]) (by simp (disch := decide) [AllLk, lk_hit, lk_miss, lk_nil, sv, rowO]) (by decide)) ?_
  refine xwp_loop (α := FSt fPair n1 s6 t6) (fun x => ⟨frm [(0, some (.pointer (some ⟨0, 0, none⟩))), (2, some (.pointer (some ⟨1, 0, none⟩))), (3, some (.pointer (some ⟨2, 0, none⟩))), (4, some (.int .i64 (n1 : Int))), (5, some (.int .i64 (x.i : Int)))], wd [(0, some (rfo x.s x.t)), (1, some (.cells [.int .i64 0, .int .i64 0, .int .i64 0, .int .i64 0, .int .i64 0, .slice none 0 0, .slice none 0 0] 64 (0, 0))), (2, some (.cells [.int .i64 a1, .int .i64 a2, .int .i64 a3, .int .i64 a4, .int .i64 a5, sv 3 x.l, .slice none 0 0] 64 (0, 0))), (3, rowO 70 x.l)] 4 [] 0, []⟩) (fun x => n1 - x.i) ?_ ⟨0, [], s6, t6, rfl, Nat.zero_le _, by simp⟩
  intro ⟨i, l, sL, tL, hi, hN, heq⟩
  simp only
  by_cases hgo : i < n1 ∧ tL = false
  · obtain ⟨hlt, rfl⟩ := hgo
    refine xwp_seq ?_
    refine xwp_seq (xwp_region (e := ?e5) (s' := ?s5) base10 ?h5 ?q5)
    case h5 =>
      simp (disch := first | decide | omega | (simp only [List.length_cons, List.length_nil, List.length_append, length_bvs, List.length_take, List.length_drop]; omega)) only [rfo, go_sem, Nat.reduceAdd, Nat.reduceMul, Nat.reduceSub]
      all_goals with_reducible rfl
    case q5 =>
    refine xwp_ct ?h6 ?q6
    case h6 =>
      simp (disch := first | decide | omega | (simp only [List.length_cons, List.length_nil, List.length_append, length_bvs, List.length_take, List.length_drop]; omega)) only [go_sem, Nat.reduceAdd, Nat.reduceMul, Nat.reduceSub]
      all_goals with_reducible rfl
    case q6 =>
    refine xwp_skip ?_
    rcases hr1 : fInt sL false with ⟨a, u1, v1⟩
    rcases hr2 : fInt u1 v1 with ⟨b, u2, v2⟩
    refine xwp_bdrawn_to base10 ⟨frm [(0, some (.pointer (some ⟨0, 0, none⟩))), (2, some (.pointer (some ⟨1, 0, none⟩))), (3, some (.pointer (some ⟨2, 0, none⟩))), (4, some (.int .i64 (n1 : Int))), (5, some (.int .i64 (i : Int)))], wd [(0, some (rfo u2 v2)), (1, some (.cells [.int .i64 0, .int .i64 0, .int .i64 0, .int .i64 0, .int .i64 0, .slice none 0 0, .slice none 0 0] 64 (0, 0))), (2, some (.cells [.int .i64 a1, .int .i64 a2, .int .i64 a3, .int .i64 a4, .int .i64 a5, .slice (some ⟨5, 0, none⟩) (l.length + 1) openCap, .slice none 0 0] 64 (0, 0))), (5, some (.cells (rowV (l ++ [(a, b)])) 70 (0, 0)))] 6 [] 0, []⟩ ?hdu ?qdu
    case hdu =>
      rcases l with _ | ⟨p, l'⟩
      · have hlen := rowV_length []
        simp only [List.length_cons, List.length_nil] at hlen hi
        refine ⟨?rsux, ?sux, ?hux, ?kux, ?lux⟩
        case hux =>
          simp (disch := first | decide | omega | (simp only [List.length_cons, List.length_nil, List.length_append, length_bvs, List.length_take, List.length_drop]; omega)) only [traceX.eq_1, traceX.eq_2, trc1.eq_1, trcK.eq_1, trcK.eq_2, traceD_nil, traceD_t, traceD_f, holeK.eq_1, holeK.eq_2, T10, rgH_eq, rgO_eq, rgO_lit, rgK.eq_1, pfTake_ok, pfTake_no, pfNum_eq, pfMany_eq, pfInt_eq, pfHash_eq, hr1, hr2, sv, rowO, List.length_cons, rowV_snoc, go_sem, Nat.reduceAdd, Nat.reduceMul, Nat.reduceSub]
          all_goals with_reducible rfl
        case kux => kernel_rfl
        case lux =>
          exact chle_lit (by simp (disch := decide) [AllLk, lk_hit, lk_miss, lk_nil]) (by simp (disch := decide) [AllLk, lk_hit, lk_miss, lk_nil, rowV_one, rfo]) (by decide)
      · have hlen := rowV_length (p :: l')
        simp only [List.length_cons, List.length_nil] at hlen hi
        refine ⟨?rsuy, ?suy, ?huy, ?kuy, ?luy⟩
        case huy =>
          simp (disch := first | decide | omega | (simp only [List.length_cons, List.length_nil, List.length_append, length_bvs, List.length_take, List.length_drop]; omega)) only [traceX.eq_1, traceX.eq_2, trc1.eq_1, trcK.eq_1, trcK.eq_2, traceD_nil, traceD_t, traceD_f, holeK.eq_1, holeK.eq_2, T10, rgH_eq, rgO_eq, rgO_lit, rgK.eq_1, pfTake_ok, pfTake_no, pfNum_eq, pfMany_eq, pfInt_eq, pfHash_eq, hr1, hr2, sv, rowO, List.length_cons, rowV_snoc, go_sem, Nat.reduceAdd, Nat.reduceMul, Nat.reduceSub]
          all_goals with_reducible rfl
        case kuy => kernel_rfl
        case luy =>
          exact chle_lit (by simp (disch := decide) [AllLk, lk_hit, lk_miss, lk_nil]) (by simp (disch := decide) [AllLk, lk_hit, lk_miss, lk_nil, rowV_one, rfo]) (by decide)
    case qdu =>
    refine xwp_region (e := ?e7) (s' := ?s7) base10 ?h7 ?q7
    case h7 =>
      simp (disch := first | decide | omega | (simp only [List.length_cons, List.length_nil, List.length_append, length_bvs, List.length_take, List.length_drop]; omega)) only [go_sem, Nat.reduceAdd, Nat.reduceMul, Nat.reduceSub]
      all_goals with_reducible rfl
    case q7 =>
    refine ⟨⟨i + 1, l ++ [(a, b)], u2, v2, by simp [hi], by omega, ?_⟩, by simp only; omega, ?_⟩
    · rw [← heq, show n1 - i = (n1 - (i + 1)) + 1 by omega, fLs_go (show fPair sL false = ((a, b), u2, v2) by unfold fPair; rw [hr1]; simp only; rw [hr2])]
      simp
    · simp only [sv_snoc, rowO_snoc]
      exact chle_ren_lit [(0, some 0), (1, some 1), (2, some 2), (5, some 3)] [(1, some 1), (2, some 2), (3, some 5)] (by decide) (by decide) (by decide)
        (allTv_cons (v := .pointer (some ⟨0, 0, none⟩)) (by decide) (by simp (disch := first | decide | omega) only [lk_hit, lk_miss]) (tv_ptr (by simp (disch := first | decide | omega) only [lk_hit, lk_miss])) (allTv_cons (v := .pointer (some ⟨1, 0, none⟩)) (by decide) (by simp (disch := first | decide | omega) only [lk_hit, lk_miss]) (tv_ptr (by simp (disch := first | decide | omega) only [lk_hit, lk_miss])) (allTv_cons (v := .pointer (some ⟨2, 0, none⟩)) (by decide) (by simp (disch := first | decide | omega) only [lk_hit, lk_miss]) (tv_ptr (by simp (disch := first | decide | omega) only [lk_hit, lk_miss]))
          (allTv_cons (v := .int .i64 (n1 : Int)) (by decide) (by simp (disch := first | decide | omega) only [lk_hit, lk_miss]) (tv_flat 1 rfl) (allTv_cons (v := .int .i64 ((i + 1 : Nat) : Int)) (by decide) (by simp (disch := first | decide | omega) only [lk_hit, lk_miss]) (tv_flat 1 rfl) allTv_nil)))))
        (allTo_cons (o := rfo u2 v2) 0 (by simp (disch := first | decide | omega) only [lk_hit, lk_miss]) (by decide) (by decide) (by simp (disch := first | decide | omega) only [lk_hit, lk_miss]) (to_bareO names_fz bareO_rfo)
          (allTo_cons (o := .cells [.int .i64 0, .int .i64 0, .int .i64 0, .int .i64 0, .int .i64 0, .slice none 0 0, .slice none 0 0] 64 (0, 0)) 1 (by simp (disch := first | decide | omega) only [lk_hit, lk_miss]) (by decide) (by decide) (by simp (disch := first | decide | omega) only [lk_hit, lk_miss]) (to_bareO names_fz bareO_zeroE)
          (allTo_cons (o := .cells [.int .i64 a1, .int .i64 a2, .int .i64 a3, .int .i64 a4, .int .i64 a5, .slice (some ⟨5, 0, none⟩) (l.length + 1) openCap, .slice none 0 0] 64 (0, 0)) 2 (by simp (disch := first | decide | omega) only [lk_hit, lk_miss]) (by decide) (by decide) (by simp (disch := first | decide | omega) only [lk_hit, lk_miss])
            (to_tvs (tvs_cons (tv_flat 1 rfl) (tvs_cons (tv_flat 1 rfl) (tvs_cons (tv_flat 1 rfl) (tvs_cons (tv_flat 1 rfl) (tvs_cons (tv_flat 1 rfl) (tvs_cons (tv_slice (by simp (disch := first | decide | omega) only [lk_hit, lk_miss])) (tvs_cons (tv_flat 1 rfl) tvs_nil))))))))
          (allTo_cons (o := .cells (rowV (l ++ [(a, b)])) 70 (0, 0)) 5 (by simp (disch := first | decide | omega) only [lk_hit, lk_miss]) (by decide) (by decide) (by simp (disch := first | decide | omega) only [lk_hit, lk_miss]) (to_bareO names_fz (bareO_bares (bares_rowV _))) allTo_nil)))) .nil
  · have hfinu : fLs fPair n1 s6 t6 = (l, sL, tL) := by
      rw [← heq, fLs_stop (by
        by_cases h : i < n1
        · exact .inr (by cases tL with
            | true => rfl
            | false => exact absurd ⟨h, rfl⟩ hgo)
        · exact .inl (by omega))]
      simp
    refine xwp_seq ?_
    refine xwp_region_to base10 ⟨frm [(0, some (.pointer (some ⟨0, 0, none⟩))), (2, some (.pointer (some ⟨1, 0, none⟩))), (3, some (.pointer (some ⟨2, 0, none⟩))), (4, some (.int .i64 (n1 : Int))), (5, some (.int .i64 (i : Int))), (29, some (.bool false))], wd [(0, some (.cells [.string (str sL), .bool tL] 103 (0, 0))), (1, some (.cells [.int .i64 0, .int .i64 0, .int .i64 0, .int .i64 0, .int .i64 0, .slice none 0 0, .slice none 0 0] 64 (0, 0))), (2, some (.cells [.int .i64 a1, .int .i64 a2, .int .i64 a3, .int .i64 a4, .int .i64 a5, sv 3 l, .slice none 0 0] 64 (0, 0))), (3, rowO 70 l)] 4 [] 0, []⟩ ?hsu ?qsu
    case hsu =>
      by_cases hlt : i < n1
      · have htt : tL = true := by cases tL with
          | true => rfl
          | false => exact absurd ⟨hlt, rfl⟩ hgo
        subst htt
        refine ⟨?syu, ?ayu, ?byu⟩
        case ayu =>
          simp (disch := first | decide | omega | (simp only [List.length_cons, List.length_nil, List.length_append, length_bvs, List.length_take, List.length_drop]; omega)) only [rfo, go_sem, Nat.reduceAdd, Nat.reduceMul, Nat.reduceSub]
          all_goals with_reducible rfl
        case byu =>
          exact chle_lit (by simp (disch := decide) [AllLk, lk_hit, lk_miss, lk_nil]) (by cases l <;> simp (disch := decide) [AllLk, lk_hit, lk_miss, lk_nil, sv, rowO]) (by decide)
      · refine ⟨?szu, ?azu, ?bzu⟩
        case azu =>
          simp (disch := first | decide | omega | (simp only [List.length_cons, List.length_nil, List.length_append, length_bvs, List.length_take, List.length_drop]; omega)) only [rfo, go_sem, Nat.reduceAdd, Nat.reduceMul, Nat.reduceSub]
          all_goals with_reducible rfl
        case bzu =>
          exact chle_lit (by simp (disch := decide) [AllLk, lk_hit, lk_miss, lk_nil]) (by cases l <;> simp (disch := decide) [AllLk, lk_hit, lk_miss, lk_nil, sv, rowO]) (by decide)
    case qsu =>
    refine xwp_cf ?h8 ?q8
    case h8 =>
      simp (disch := first | decide | omega | (simp only [List.length_cons, List.length_nil, List.length_append, length_bvs, List.length_take, List.length_drop]; omega)) only [go_sem, Nat.reduceAdd, Nat.reduceMul, Nat.reduceSub]
      all_goals with_reducible rfl
    case q8 =>
    refine xwp_exit ?_
    show XWp _ _ _ _ _ _
    have hlb : l.length ≤ 4000 := by omega
    refine xwp_le (ChLe.trans (chle_lit (F' := [(0, some (.pointer (some ⟨0, 0, none⟩))), (2, some (.pointer (some ⟨1, 0, none⟩))), (3, some (.pointer (some ⟨2, 0, none⟩)))]) (L' := [(0, some (rfo sL tL)), (1, some (.cells [.int .i64 0, .int .i64 0, .int .i64 0, .int .i64 0, .int .i64 0, .slice none 0 0, .slice none 0 0] 64 (0, 0))), (2, some (.cells [.int .i64 a1, .int .i64 a2, .int .i64 a3, .int .i64 a4, .int .i64 a5, sv 3 l, .slice none 0 0] 64 (0, 0))), (3, rowO 70 l)]) (n' := 4) (lg' := []) (nl' := 0) (by simp (disch := decide) [AllLk, lk_hit, lk_miss, lk_nil]) ?hau (by decide)) (freeze_std (i := 5) rfl (by show l.length ≤ 4611686018427387904; omega))) ?_
    case hau => cases l <;> simp (disch := decide) [AllLk, lk_hit, lk_miss, lk_nil, sv, rowO, rfo]
    simp only [List.set_cons_succ, List.set_cons_zero]
    obtain ⟨lp, hlp⟩ : ∃ lp, lp = l := ⟨l, rfl⟩
    rw [← hlp] at hfinu ⊢
    clear hlp hi hN hgo hlb heq
    clear l i
    rcases hM2 : fMany 4000 sL tL with ⟨n2, s8, t8⟩
    have hn2 : n2 ≤ 4000 := by have := fMany_le 4000 sL tL; rw [hM2] at this; exact this
    refine xwp_seq (xwp_region (e := ?e9) (s' := ?s9) base10 ?h9 ?q9)
    case h9 =>
      simp (disch := first | decide | omega | (simp only [List.length_cons, List.length_nil, List.length_append, length_bvs, List.length_take, List.length_drop]; omega)) only [T10, rgH_eq, rgO_eq, rgO_lit, rgK.eq_1, pfTake_ok, pfTake_no, pfNum_eq, pfMany_eq, pfInt_eq, pfHash_eq, hM2, go_sem, Nat.reduceAdd, Nat.reduceMul, Nat.reduceSub]
      all_goals with_reducible rfl
    case q9 =>
    refine xwp_seq ?_
    refine xwp_seq (xwp_region (e := ?e10) (s' := ?s10) base10 ?h10 ?q10)
    case h10 =>
      simp (disch := first | decide | omega | (simp only [List.length_cons, List.length_nil, List.length_append, length_bvs, List.length_take, List.length_drop]; omega)) only [go_sem, Nat.reduceAdd, Nat.reduceMul, Nat.reduceSub]
      all_goals with_reducible rfl
    case q10 =>
    refine xwp_block ?_
    refine xwp_le (chle_lit (F' := [(0, some (.pointer (some ⟨0, 0, none⟩))), (2, some (.pointer (some ⟨1, 0, none⟩))), (3, some (.pointer (some ⟨2, 0, none⟩))), (4, some (.int .i64 (n2 : Int))), (6, some (.int .i64 ((0 : Nat) : Int)))]) (L' := [(0, some (rfo s8 t8)), (1, some (.cells [.int .i64 0, .int .i64 0, .int .i64 0, .int .i64 0, .int .i64 0, .slice none 0 0, .slice none 0 0] 64 (0, 0))), (2, some (.cells [.int .i64 a1, .int .i64 a2, .int .i64 a3, .int .i64 a4, .int .i64 a5, slV lp, sv 3 []] 64 (0, 0))), (3, rowO 71 [])]) (n' := 4) (lg' := []) (nl' := 0) (by simp (disch := decide) [AllLk, lk_hit, lk_miss, lk_nil]) (by simp (disch := decide) [AllLk, lk_hit, lk_miss, lk_nil, sv, rowO]) (by decide)) ?_
    refine xwp_loop (α := FSt fPair n2 s8 t8) (fun x => ⟨frm [(0, some (.pointer (some ⟨0, 0, none⟩))), (2, some (.pointer (some ⟨1, 0, none⟩))), (3, some (.pointer (some ⟨2, 0, none⟩))), (4, some (.int .i64 (n2 : Int))), (6, some (.int .i64 (x.i : Int)))], wd [(0, some (rfo x.s x.t)), (1, some (.cells [.int .i64 0, .int .i64 0, .int .i64 0, .int .i64 0, .int .i64 0, .slice none 0 0, .slice none 0 0] 64 (0, 0))), (2, some (.cells [.int .i64 a1, .int .i64 a2, .int .i64 a3, .int .i64 a4, .int .i64 a5, slV lp, sv 3 x.l] 64 (0, 0))), (3, rowO 71 x.l)] 4 [] 0, []⟩) (fun x => n2 - x.i) ?_ ⟨0, [], s8, t8, rfl, Nat.zero_le _, by simp⟩
    intro ⟨i, l, sL, tL, hi, hN, heq⟩
    simp only
    by_cases hgo : i < n2 ∧ tL = false
    · obtain ⟨hlt, rfl⟩ := hgo
      refine xwp_seq ?_
      refine xwp_seq (xwp_region (e := ?e11) (s' := ?s11) base10 ?h11 ?q11)
      case h11 =>
        simp (disch := first | decide | omega | (simp only [List.length_cons, List.length_nil, List.length_append, length_bvs, List.length_take, List.length_drop]; omega)) only [rfo, go_sem, Nat.reduceAdd, Nat.reduceMul, Nat.reduceSub]
        all_goals with_reducible rfl
      case q11 =>
      refine xwp_ct ?h12 ?q12
      case h12 =>
        simp (disch := first | decide | omega | (simp only [List.length_cons, List.length_nil, List.length_append, length_bvs, List.length_take, List.length_drop]; omega)) only [go_sem, Nat.reduceAdd, Nat.reduceMul, Nat.reduceSub]
        all_goals with_reducible rfl
      case q12 =>
      refine xwp_skip ?_
      rcases hr1 : fInt sL false with ⟨a, u1, v1⟩
      rcases hr2 : fInt u1 v1 with ⟨b, u2, v2⟩
      refine xwp_bdrawn_to base10 ⟨frm [(0, some (.pointer (some ⟨0, 0, none⟩))), (2, some (.pointer (some ⟨1, 0, none⟩))), (3, some (.pointer (some ⟨2, 0, none⟩))), (4, some (.int .i64 (n2 : Int))), (6, some (.int .i64 (i : Int)))], wd [(0, some (rfo u2 v2)), (1, some (.cells [.int .i64 0, .int .i64 0, .int .i64 0, .int .i64 0, .int .i64 0, .slice none 0 0, .slice none 0 0] 64 (0, 0))), (2, some (.cells [.int .i64 a1, .int .i64 a2, .int .i64 a3, .int .i64 a4, .int .i64 a5, slV lp, .slice (some ⟨5, 0, none⟩) (l.length + 1) openCap] 64 (0, 0))), (5, some (.cells (rowV (l ++ [(a, b)])) 71 (0, 0)))] 6 [] 0, []⟩ ?hdw ?qdw
      case hdw =>
        rcases l with _ | ⟨p, l'⟩
        · have hlen := rowV_length []
          simp only [List.length_cons, List.length_nil] at hlen hi
          refine ⟨?rswx, ?swx, ?hwx, ?kwx, ?lwx⟩
          case hwx =>
            simp (disch := first | decide | omega | (simp only [List.length_cons, List.length_nil, List.length_append, length_bvs, List.length_take, List.length_drop]; omega)) only [traceX.eq_1, traceX.eq_2, trc1.eq_1, trcK.eq_1, trcK.eq_2, traceD_nil, traceD_t, traceD_f, holeK.eq_1, holeK.eq_2, T10, rgH_eq, rgO_eq, rgO_lit, rgK.eq_1, pfTake_ok, pfTake_no, pfNum_eq, pfMany_eq, pfInt_eq, pfHash_eq, hr1, hr2, sv, rowO, List.length_cons, rowV_snoc, one_slV, go_sem, Nat.reduceAdd, Nat.reduceMul, Nat.reduceSub]
            all_goals with_reducible rfl
          case kwx => kernel_rfl
          case lwx =>
            exact chle_lit (by simp (disch := decide) [AllLk, lk_hit, lk_miss, lk_nil]) (by simp (disch := decide) [AllLk, lk_hit, lk_miss, lk_nil, rowV_one, rfo]) (by decide)
        · have hlen := rowV_length (p :: l')
          simp only [List.length_cons, List.length_nil] at hlen hi
          refine ⟨?rswy, ?swy, ?hwy, ?kwy, ?lwy⟩
          case hwy =>
            simp (disch := first | decide | omega | (simp only [List.length_cons, List.length_nil, List.length_append, length_bvs, List.length_take, List.length_drop]; omega)) only [traceX.eq_1, traceX.eq_2, trc1.eq_1, trcK.eq_1, trcK.eq_2, traceD_nil, traceD_t, traceD_f, holeK.eq_1, holeK.eq_2, T10, rgH_eq, rgO_eq, rgO_lit, rgK.eq_1, pfTake_ok, pfTake_no, pfNum_eq, pfMany_eq, pfInt_eq, pfHash_eq, hr1, hr2, sv, rowO, List.length_cons, rowV_snoc, one_slV, go_sem, Nat.reduceAdd, Nat.reduceMul, Nat.reduceSub]
            all_goals with_reducible rfl
          case kwy => kernel_rfl
          case lwy =>
            exact chle_lit (by simp (disch := decide) [AllLk, lk_hit, lk_miss, lk_nil]) (by simp (disch := decide) [AllLk, lk_hit, lk_miss, lk_nil, rowV_one, rfo]) (by decide)
      case qdw =>
      refine xwp_region (e := ?e13) (s' := ?s13) base10 ?h13 ?q13
      case h13 =>
        simp (disch := first | decide | omega | (simp only [List.length_cons, List.length_nil, List.length_append, length_bvs, List.length_take, List.length_drop]; omega)) only [go_sem, Nat.reduceAdd, Nat.reduceMul, Nat.reduceSub]
        all_goals with_reducible rfl
      case q13 =>
      refine ⟨⟨i + 1, l ++ [(a, b)], u2, v2, by simp [hi], by omega, ?_⟩, by simp only; omega, ?_⟩
      · rw [← heq, show n2 - i = (n2 - (i + 1)) + 1 by omega, fLs_go (show fPair sL false = ((a, b), u2, v2) by unfold fPair; rw [hr1]; simp only; rw [hr2])]
        simp
      · simp only [sv_snoc, rowO_snoc]
        exact chle_ren_lit [(0, some 0), (1, some 1), (2, some 2), (5, some 3)] [(1, some 1), (2, some 2), (3, some 5)] (by decide) (by decide) (by decide)
          (allTv_cons (v := .pointer (some ⟨0, 0, none⟩)) (by decide) (by simp (disch := first | decide | omega) only [lk_hit, lk_miss]) (tv_ptr (by simp (disch := first | decide | omega) only [lk_hit, lk_miss])) (allTv_cons (v := .pointer (some ⟨1, 0, none⟩)) (by decide) (by simp (disch := first | decide | omega) only [lk_hit, lk_miss]) (tv_ptr (by simp (disch := first | decide | omega) only [lk_hit, lk_miss])) (allTv_cons (v := .pointer (some ⟨2, 0, none⟩)) (by decide) (by simp (disch := first | decide | omega) only [lk_hit, lk_miss]) (tv_ptr (by simp (disch := first | decide | omega) only [lk_hit, lk_miss]))
            (allTv_cons (v := .int .i64 (n2 : Int)) (by decide) (by simp (disch := first | decide | omega) only [lk_hit, lk_miss]) (tv_flat 1 rfl) (allTv_cons (v := .int .i64 ((i + 1 : Nat) : Int)) (by decide) (by simp (disch := first | decide | omega) only [lk_hit, lk_miss]) (tv_flat 1 rfl) allTv_nil)))))
          (allTo_cons (o := rfo u2 v2) 0 (by simp (disch := first | decide | omega) only [lk_hit, lk_miss]) (by decide) (by decide) (by simp (disch := first | decide | omega) only [lk_hit, lk_miss]) (to_bareO names_fz bareO_rfo)
            (allTo_cons (o := .cells [.int .i64 0, .int .i64 0, .int .i64 0, .int .i64 0, .int .i64 0, .slice none 0 0, .slice none 0 0] 64 (0, 0)) 1 (by simp (disch := first | decide | omega) only [lk_hit, lk_miss]) (by decide) (by decide) (by simp (disch := first | decide | omega) only [lk_hit, lk_miss]) (to_bareO names_fz bareO_zeroE)
            (allTo_cons (o := .cells [.int .i64 a1, .int .i64 a2, .int .i64 a3, .int .i64 a4, .int .i64 a5, slV lp, .slice (some ⟨5, 0, none⟩) (l.length + 1) openCap] 64 (0, 0)) 2 (by simp (disch := first | decide | omega) only [lk_hit, lk_miss]) (by decide) (by decide) (by simp (disch := first | decide | omega) only [lk_hit, lk_miss])
              (to_tvs (tvs_cons (tv_flat 1 rfl) (tvs_cons (tv_flat 1 rfl) (tvs_cons (tv_flat 1 rfl) (tvs_cons (tv_flat 1 rfl) (tvs_cons (tv_flat 1 rfl) (tvs_cons (bare_slV _ _ names_fz) (tvs_cons (tv_slice (by simp (disch := first | decide | omega) only [lk_hit, lk_miss])) tvs_nil))))))))
            (allTo_cons (o := .cells (rowV (l ++ [(a, b)])) 71 (0, 0)) 5 (by simp (disch := first | decide | omega) only [lk_hit, lk_miss]) (by decide) (by decide) (by simp (disch := first | decide | omega) only [lk_hit, lk_miss]) (to_bareO names_fz (bareO_bares (bares_rowV _))) allTo_nil)))) .nil
    · have hfinw : fLs fPair n2 s8 t8 = (l, sL, tL) := by
        rw [← heq, fLs_stop (by
          by_cases h : i < n2
          · exact .inr (by cases tL with
              | true => rfl
              | false => exact absurd ⟨h, rfl⟩ hgo)
          · exact .inl (by omega))]
        simp
      refine xwp_seq ?_
      refine xwp_region_to base10 ⟨frm [(0, some (.pointer (some ⟨0, 0, none⟩))), (2, some (.pointer (some ⟨1, 0, none⟩))), (3, some (.pointer (some ⟨2, 0, none⟩))), (4, some (.int .i64 (n2 : Int))), (6, some (.int .i64 (i : Int))), (53, some (.bool false))], wd [(0, some (.cells [.string (str sL), .bool tL] 103 (0, 0))), (1, some (.cells [.int .i64 0, .int .i64 0, .int .i64 0, .int .i64 0, .int .i64 0, .slice none 0 0, .slice none 0 0] 64 (0, 0))), (2, some (.cells [.int .i64 a1, .int .i64 a2, .int .i64 a3, .int .i64 a4, .int .i64 a5, slV lp, sv 3 l] 64 (0, 0))), (3, rowO 71 l)] 4 [] 0, []⟩ ?hsw ?qsw
      case hsw =>
        by_cases hlt : i < n2
        · have htt : tL = true := by cases tL with
            | true => rfl
            | false => exact absurd ⟨hlt, rfl⟩ hgo
          subst htt
          refine ⟨?syw, ?ayw, ?byw⟩
          case ayw =>
            simp (disch := first | decide | omega | (simp only [List.length_cons, List.length_nil, List.length_append, length_bvs, List.length_take, List.length_drop]; omega)) only [rfo, go_sem, Nat.reduceAdd, Nat.reduceMul, Nat.reduceSub]
            all_goals with_reducible rfl
          case byw =>
            exact chle_lit (by simp (disch := decide) [AllLk, lk_hit, lk_miss, lk_nil]) (by cases l <;> simp (disch := decide) [AllLk, lk_hit, lk_miss, lk_nil, sv, rowO]) (by decide)
        · refine ⟨?szw, ?azw, ?bzw⟩
          case azw =>
            simp (disch := first | decide | omega | (simp only [List.length_cons, List.length_nil, List.length_append, length_bvs, List.length_take, List.length_drop]; omega)) only [rfo, go_sem, Nat.reduceAdd, Nat.reduceMul, Nat.reduceSub]
            all_goals with_reducible rfl
          case bzw =>
            exact chle_lit (by simp (disch := decide) [AllLk, lk_hit, lk_miss, lk_nil]) (by cases l <;> simp (disch := decide) [AllLk, lk_hit, lk_miss, lk_nil, sv, rowO]) (by decide)
      case qsw =>
      refine xwp_cf ?h14 ?q14
      case h14 =>
        simp (disch := first | decide | omega | (simp only [List.length_cons, List.length_nil, List.length_append, length_bvs, List.length_take, List.length_drop]; omega)) only [go_sem, Nat.reduceAdd, Nat.reduceMul, Nat.reduceSub]
        all_goals with_reducible rfl
      case q14 =>
      refine xwp_exit ?_
      show XWp _ _ _ _ _ _
      have hlb : l.length ≤ 4000 := by omega
      refine xwp_le (ChLe.trans (chle_lit (F' := [(0, some (.pointer (some ⟨0, 0, none⟩))), (2, some (.pointer (some ⟨1, 0, none⟩))), (3, some (.pointer (some ⟨2, 0, none⟩)))]) (L' := [(0, some (rfo sL tL)), (1, some (.cells [.int .i64 0, .int .i64 0, .int .i64 0, .int .i64 0, .int .i64 0, .slice none 0 0, .slice none 0 0] 64 (0, 0))), (2, some (.cells [.int .i64 a1, .int .i64 a2, .int .i64 a3, .int .i64 a4, .int .i64 a5, slV lp, sv 3 l] 64 (0, 0))), (3, rowO 71 l)]) (n' := 4) (lg' := []) (nl' := 0) (by simp (disch := decide) [AllLk, lk_hit, lk_miss, lk_nil]) ?haw (by decide)) (freeze_std (i := 6) rfl (by show l.length ≤ 4611686018427387904; omega))) ?_
      case haw => cases l <;> simp (disch := decide) [AllLk, lk_hit, lk_miss, lk_nil, sv, rowO, rfo]
      simp only [List.set_cons_succ, List.set_cons_zero]
      refine xwp_seq (xwp_region (e := ?e15) (s' := ?s15) base10 ?h15 ?q15)
      case h15 =>
        simp (disch := first | decide | omega | (simp only [List.length_cons, List.length_nil, List.length_append, length_bvs, List.length_take, List.length_drop]; omega)) only [one_slV, go_sem, Nat.reduceAdd, Nat.reduceMul, Nat.reduceSub]
        all_goals with_reducible rfl
      case q15 =>
      refine xwp_ret ?_
      refine ⟨_, ?e16, ?W16, rfl, ?h16, ?q16⟩
      case h16 =>
        simp (disch := first | decide | omega | (simp only [List.length_cons, List.length_nil, List.length_append, length_bvs, List.length_take, List.length_drop]; omega)) only [Tryz.results42, go_sem, Nat.reduceAdd, Nat.reduceMul, Nat.reduceSub]
        all_goals with_reducible rfl
      case q16 =>
      have hres : fEdit s0 t0 = (⟨a1, a2, a3, a4, a5, lp, l⟩, sL, tL) := by
        unfold fEdit
        simp only [h1, h2, h3, h4, h5, hM1, hfinu, hM2, hfinw]
      rw [hres]
      exact ⟨rfl, by simp (disch := first | decide | omega | (simp only [List.length_cons, List.length_nil, List.length_append, length_bvs, List.length_take, List.length_drop]; omega)) only [go_sem, Nat.reduceAdd, Nat.reduceMul, Nat.reduceSub]⟩
def pfEdit : PF := fun xs s t => match xs with
  | [] => some (.agg (encEdit (fEdit s t).1).toArray, (fEdit s t).2.1, (fEdit s t).2.2)
  | _ => none
theorem pfEdit_eq {s : List UInt8} {t : Bool} : pfEdit [] s t = some (.agg (encEdit (fEdit s t).1).toArray, (fEdit s t).2.1, (fEdit s t).2.2) := rfl
theorem okFEdit : HookOk Tryz.prog 42 (rgH pfEdit) := rgH_ok (enters_of (by kernel_rfl)) (fun xs s t v s' t' h => by
    unfold pfEdit at h
    split at h
    · cases h; exact ⟨bares_nil, bare_agg (bares_encEdit _)⟩
    · cases h) (fun xs s t v s' t' h => by
    unfold pfEdit at h
    split at h
    · cases h; exact fEditLocal s t
    · cases h)
end Go.Proofs.YthlkgmdkabelpaaGreatDoor.X
namespace Go.Proofs.YthlkgmdkabelpaaGreatDoor.X
open Go Go.RowKit
structure FSt2 {α : Type} (p : List UInt8 → Bool → α × List UInt8 × Bool) (ok : α → Prop) (N0 : Nat) (s0 : List UInt8) (t0 : Bool) extends FSt p N0 s0 t0 where
  hok : ∀ x ∈ l, ok x
theorem okB_f {s s1 : List UInt8} {t t1 : Bool} {h : List UInt8} (e : fHash s t = (h, s1, t1)) : okB h := by
  unfold fHash at e
  split at e
  · cases e; unfold okB; rw [List.length_take]; omega
  · cases e; rfl
theorem okE_f {s s1 : List UInt8} {t t1 : Bool} {x : EditL} (e : fEdit s t = (x, s1, t1)) : okE x := trivial
def fDec (s1 : List UInt8) : Option CommitL := match fMany 8 s1 false with
  | (n1, s2, t2) => match fLs fHash n1 s2 t2 with
    | (ps, s3, t3) => match fMany 1000 s3 t3 with
      | (n2, s4, t4) => match fLs fEdit n2 s4 t4 with
        | (es, s5, t5) => match fHash s5 t5 with
          | (tr, s6, t6) => match fMany 65535 s6 t6 with
            | (k, s7, t7) => match fTake k s7 t7 with
              | (tx, s8, t8) => if t8 = true ∨ s8 ≠ [] then none else some ⟨ps, es, tr, tx⟩
def fDecR : List UInt8 → Value
  | [] => .tuple #[zeroCm, errV 51]
  | b :: s => if b = 3 then decV (fDec s) else .tuple #[zeroCm, errV 51]
noncomputable def T11 : List (FuncId × HF) := [(40, rgH pfMany), (41, rgH pfHash), (42, rgH pfEdit), (43, rgH pfTake)]
theorem base11 : Base Tryz.prog (hooksOf T11 []) := ⟨mixed, hooksOf_sim (.cons _ _ _ okFMany (.cons _ _ _ okFHash (.cons _ _ _ okFEdit (.cons _ _ _ okFTake .nil)))) .nil⟩
set_option maxHeartbeats 2000000 in
theorem fDecodeLocal (s : List UInt8) : Local Tryz.prog 11 [.string (str s)] (wd [] 0 [] 0) fun e W' => e = .ret (fDecR s) := by
  refine lit_local base11 Tryz.func11 rfl (Nat.le_of_ble_eq_true rfl) ?_
  simp only [frOfL.eq_1, frOfL.eq_2, wd_next, Tryz.ntmps11, Nat.reduceAdd]
  refine xwp_seq (xwp_region (e := ?e1) (s' := ?s1) base11 ?h1 ?q1)
  case h1 =>
    simp (disch := first | decide | omega | (simp only [List.length_cons, List.length_nil, List.length_append, length_bvs, List.length_take, List.length_drop]; omega)) only [go_sem, Nat.reduceAdd, Nat.reduceMul, Nat.reduceSub]
    all_goals with_reducible rfl
  case q1 =>
  refine xwp_le (chle_lit (F' := [(0, some (.string (str s))), (2, some (.pointer (some ⟨0, 0, none⟩))), (3, some (.int .i64 0))]) (L' := [(0, some (.cells (.slice none 0 0 :: .slice none 0 0 :: zt) 34 (0, 0)))]) (n' := 1) (lg' := []) (nl' := 0) (by simp (disch := decide) [AllLk, lk_hit, lk_miss, lk_nil]) ⟨⟨by decide, rfl⟩, trivial⟩ (by decide)) ?_
  refine xwp_seq ?_
  rcases s with _ | ⟨b, s1⟩
  · refine xwp_seq (xwp_region (e := ?e2) (s' := ?s2) base11 ?h2 ?q2)
    case h2 =>
      simp (disch := first | decide | omega | (simp only [List.length_cons, List.length_nil, List.length_append, length_bvs, List.length_take, List.length_drop]; omega)) only [consNil, go_sem, Nat.reduceAdd, Nat.reduceMul, Nat.reduceSub]
      all_goals with_reducible rfl
    case q2 =>
    refine xwp_ct ?h3 ?q3
    case h3 =>
      simp (disch := first | decide | omega | (simp only [List.length_cons, List.length_nil, List.length_append, length_bvs, List.length_take, List.length_drop]; omega)) only [go_sem, Nat.reduceAdd, Nat.reduceMul, Nat.reduceSub]
      all_goals with_reducible rfl
    case q3 =>
    refine xwp_seq (xwp_region (e := ?e4) (s' := ?s4) base11 ?h4 ?q4)
    case h4 =>
      simp (disch := first | decide | omega | (simp only [List.length_cons, List.length_nil, List.length_append, length_bvs, List.length_take, List.length_drop]; omega)) only [zt_len, List.drop_eq_nil_of_le, ev_c51, go_sem, Nat.reduceAdd, Nat.reduceMul, Nat.reduceSub]
      all_goals with_reducible rfl
    case q4 =>
    refine xwp_ret ?_
    refine ⟨_, ?e5, ?W5, rfl, ?h5, ?q5⟩
    case h5 =>
      simp (disch := first | decide | omega | (simp only [List.length_cons, List.length_nil, List.length_append, length_bvs, List.length_take, List.length_drop]; omega)) only [Tryz.results11, go_sem, Nat.reduceAdd, Nat.reduceMul, Nat.reduceSub]
      all_goals with_reducible rfl
    case q5 =>
    rfl
  by_cases hb3 : b = 3
  case neg =>
    have hb' : ((b.toNat : Nat) : Int) ≠ 3 := fun e => hb3 (by
      have : b.toNat = 3 := by exact_mod_cast e
      exact UInt8.toNat_inj.1 this)
    refine xwp_seq (xwp_region (e := ?e6) (s' := ?s6) base11 ?h6 ?q6)
    case h6 =>
      simp (disch := first | decide | omega | (simp only [List.length_cons, List.length_nil, List.length_append, length_bvs, List.length_take, List.length_drop]; omega)) only [consNil, hb', go_sem, Nat.reduceAdd, Nat.reduceMul, Nat.reduceSub]
      all_goals with_reducible rfl
    case q6 =>
    refine xwp_ct ?h7 ?q7
    case h7 =>
      simp (disch := first | decide | omega | (simp only [List.length_cons, List.length_nil, List.length_append, length_bvs, List.length_take, List.length_drop]; omega)) only [go_sem, Nat.reduceAdd, Nat.reduceMul, Nat.reduceSub]
      all_goals with_reducible rfl
    case q7 =>
    refine xwp_seq (xwp_region (e := ?e8) (s' := ?s8) base11 ?h8 ?q8)
    case h8 =>
      simp (disch := first | decide | omega | (simp only [List.length_cons, List.length_nil, List.length_append, length_bvs, List.length_take, List.length_drop]; omega)) only [zt_len, List.drop_eq_nil_of_le, ev_c51, go_sem, Nat.reduceAdd, Nat.reduceMul, Nat.reduceSub]
      all_goals with_reducible rfl
    case q8 =>
    refine xwp_ret ?_
    refine ⟨_, ?e9, ?W9, rfl, ?h9, ?q9⟩
    case h9 =>
      simp (disch := first | decide | omega | (simp only [List.length_cons, List.length_nil, List.length_append, length_bvs, List.length_take, List.length_drop]; omega)) only [Tryz.results11, go_sem, Nat.reduceAdd, Nat.reduceMul, Nat.reduceSub]
      all_goals with_reducible rfl
    case q9 =>
    show _ = XEnd.ret (if b = 3 then _ else _)
    rw [if_neg hb3]
    rfl
  have hb' : ((b.toNat : Nat) : Int) = 3 := by rw [hb3]; rfl
  refine xwp_seq (xwp_region (e := ?e10) (s' := ?s10) base11 ?h10 ?q10)
  case h10 =>
    simp (disch := first | decide | omega | (simp only [List.length_cons, List.length_nil, List.length_append, length_bvs, List.length_take, List.length_drop]; omega)) only [consNil, hb', go_sem, Nat.reduceAdd, Nat.reduceMul, Nat.reduceSub]
    all_goals with_reducible rfl
  case q10 =>
  refine xwp_cf ?h11 ?q11
  case h11 =>
    simp (disch := first | decide | omega | (simp only [List.length_cons, List.length_nil, List.length_append, length_bvs, List.length_take, List.length_drop]; omega)) only [go_sem, Nat.reduceAdd, Nat.reduceMul, Nat.reduceSub]
    all_goals with_reducible rfl
  case q11 =>
  refine xwp_skip ?_
  refine xwp_seq (xwp_region (e := ?e12) (s' := ?s12) base11 ?h12 ?q12)
  case h12 =>
    simp (disch := first | decide | omega | (simp only [List.length_cons, List.length_nil, List.length_append, length_bvs, List.length_take, List.length_drop]; omega)) only [go_sem, Nat.reduceAdd, Nat.reduceMul, Nat.reduceSub]
    all_goals with_reducible rfl
  case q12 =>
  refine xwp_seq (xwp_region (e := ?e13) (s' := ?s13) base11 ?h13 ?q13)
  case h13 =>
    simp (disch := first | decide | omega | (simp only [List.length_cons, List.length_nil, List.length_append, length_bvs, List.length_take, List.length_drop]; omega)) only [go_sem, Nat.reduceAdd, Nat.reduceMul, Nat.reduceSub]
    all_goals with_reducible rfl
  case q13 =>
  rcases hM1 : fMany 8 s1 false with ⟨n1, s2, t2⟩
  have hn1 : n1 ≤ 8 := by have := fMany_le 8 s1 false; rw [hM1] at this; exact this
  refine xwp_seq (xwp_region (e := ?e14) (s' := ?s14) base11 ?h14 ?q14)
  case h14 =>
    simp (disch := first | decide | omega | (simp only [List.length_cons, List.length_nil, List.length_append, length_bvs, List.length_take, List.length_drop]; omega)) only [T11, rgH_eq, rgO_eq, rgO_lit, rgK.eq_1, pfTake_ok, pfTake_no, pfMany_eq, pfInt_eq, pfHash_eq, pfEdit_eq, hM1, go_sem, Nat.reduceAdd, Nat.reduceMul, Nat.reduceSub]
    all_goals with_reducible rfl
  case q14 =>
  refine xwp_le (chle_lit (F' := [(2, some (.pointer (some ⟨0, 0, none⟩))), (3, some (.int .i64 0)), (4, some (.pointer (some ⟨1, 0, none⟩))), (5, some (.pointer (some ⟨2, 0, none⟩))), (6, some (.int .i64 n1))]) (L' := [(0, some (.cells (.slice none 0 0 :: .slice none 0 0 :: zt) 34 (0, 0))), (1, some (rfo s2 t2)), (2, some (.cells (.slice none 0 0 :: .slice none 0 0 :: zt) 34 (0, 0)))]) (n' := 3) (lg' := []) (nl' := 0) (by simp (disch := decide) [AllLk, lk_hit, lk_miss, lk_nil]) ⟨⟨by decide, rfl⟩, ⟨by decide, rfl⟩, ⟨by decide, rfl⟩, trivial⟩ (by decide)) ?_
  refine xwp_seq ?_
  refine xwp_seq (xwp_region (e := ?e15) (s' := ?s15) base11 ?h15 ?q15)
  case h15 =>
    simp (disch := first | decide | omega | (simp only [List.length_cons, List.length_nil, List.length_append, length_bvs, List.length_take, List.length_drop]; omega)) only [go_sem, Nat.reduceAdd, Nat.reduceMul, Nat.reduceSub]
    all_goals with_reducible rfl
  case q15 =>
  refine xwp_block ?_
  refine xwp_le (chle_lit (F' := [(2, some (.pointer (some ⟨0, 0, none⟩))), (3, some (.int .i64 0)), (4, some (.pointer (some ⟨1, 0, none⟩))), (5, some (.pointer (some ⟨2, 0, none⟩))), (6, some (.int .i64 (n1 : Int))), (7, some (.int .i64 ((0 : Nat) : Int)))]) (L' := [(0, some (.cells (.slice none 0 0 :: .slice none 0 0 :: zt) 34 (0, 0))), (1, some (rfo s2 t2)), (2, some (.cells (gsv 3 0 :: .slice none 0 0 :: zt) 34 (0, 0))), (3, growO 32 (rowB []) 0)]) (n' := 4) (lg' := []) (nl' := 0) (by simp (disch := decide) [AllLk, lk_hit, lk_miss, lk_nil]) (by simp (disch := decide) [AllLk, lk_hit, lk_miss, lk_nil, gsv, growO]) (by decide)) ?_
  refine xwp_loop (α := FSt2 fHash okB n1 s2 t2) (fun x => ⟨frm [(2, some (.pointer (some ⟨0, 0, none⟩))), (3, some (.int .i64 0)), (4, some (.pointer (some ⟨1, 0, none⟩))), (5, some (.pointer (some ⟨2, 0, none⟩))), (6, some (.int .i64 (n1 : Int))), (7, some (.int .i64 (x.i : Int)))], wd [(0, some (.cells (.slice none 0 0 :: .slice none 0 0 :: zt) 34 (0, 0))), (1, some (rfo x.s x.t)), (2, some (.cells (gsv 3 x.l.length :: .slice none 0 0 :: zt) 34 (0, 0))), (3, growO 32 (rowB x.l) x.l.length)] 4 [] 0, []⟩) (fun x => n1 - x.i) ?_ ⟨⟨0, [], s2, t2, rfl, Nat.zero_le _, by simp⟩, fun _ h => by cases h⟩
  intro ⟨⟨i, l, sL, tL, hi, hN, heq⟩, hok⟩
  simp only at hok ⊢
  by_cases hgo : i < n1 ∧ tL = false
  · obtain ⟨hlt, rfl⟩ := hgo
    refine xwp_seq ?_
    refine xwp_seq (xwp_region (e := ?e16) (s' := ?s16) base11 ?h16 ?q16)
    case h16 =>
      simp (disch := first | decide | omega | (simp only [List.length_cons, List.length_nil, List.length_append, length_bvs, List.length_take, List.length_drop]; omega)) only [rfo, go_sem, Nat.reduceAdd, Nat.reduceMul, Nat.reduceSub]
      all_goals with_reducible rfl
    case q16 =>
    refine xwp_ct ?h17 ?q17
    case h17 =>
      simp (disch := first | decide | omega | (simp only [List.length_cons, List.length_nil, List.length_append, length_bvs, List.length_take, List.length_drop]; omega)) only [go_sem, Nat.reduceAdd, Nat.reduceMul, Nat.reduceSub]
      all_goals with_reducible rfl
    case q17 =>
    refine xwp_skip ?_
    rcases hr1 : fHash sL false with ⟨xu, u1, v1⟩
    have hx : okB xu := okB_f hr1
    have hx2 : xu.length = 32 := hx
    refine xwp_bdrawn_to base11 ⟨frm [(2, some (.pointer (some ⟨0, 0, none⟩))), (3, some (.int .i64 0)), (4, some (.pointer (some ⟨1, 0, none⟩))), (5, some (.pointer (some ⟨2, 0, none⟩))), (6, some (.int .i64 (n1 : Int))), (7, some (.int .i64 (i : Int)))], wd [(0, some (.cells (.slice none 0 0 :: .slice none 0 0 :: zt) 34 (0, 0))), (1, some (rfo u1 v1)), (2, some (.cells (.slice (some ⟨5, 0, none⟩) (l.length + 1) openCap :: .slice none 0 0 :: zt) 34 (0, 0))), (5, some (.cells (rowB (l ++ [xu])) 32 (0, 0)))] 6 [] 0, []⟩ ?hdu ?qdu
    case hdu =>
      rcases l with _ | ⟨p, l'⟩
      · have hlen := rowB_length (l := []) hok
        simp only [List.length_cons, List.length_nil] at hlen hi
        refine ⟨?rsux, ?sux, ?hux, ?kux, ?lux⟩
        case hux =>
          simp (disch := first | decide | omega | (simp only [List.length_cons, List.length_nil, List.length_append, length_bvs, List.length_take, List.length_drop]; omega)) only [traceX.eq_1, traceX.eq_2, trc1.eq_1, trcK.eq_1, trcK.eq_2, traceD_nil, traceD_t, traceD_f, holeK.eq_1, holeK.eq_2, T11, rgH_eq, rgO_eq, rgO_lit, rgK.eq_1, pfTake_ok, pfTake_no, pfMany_eq, pfInt_eq, pfHash_eq, pfEdit_eq, hr1, hx2, gsv.eq_1, growO.eq_1, rowB_snoc, rowB_nil, go_sem, Nat.reduceAdd, Nat.reduceMul, Nat.reduceSub]
          all_goals with_reducible rfl
        case kux => kernel_rfl
        case lux =>
          exact chle_lit (by simp (disch := decide) [AllLk, lk_hit, lk_miss, lk_nil]) (by simp (disch := decide) [AllLk, lk_hit, lk_miss, lk_nil, rowB_one, rfo]) (by decide)
      · have hlen := rowB_length (l := p :: l') hok
        simp only [List.length_cons, List.length_nil] at hlen hi
        refine ⟨?rsuy, ?suy, ?huy, ?kuy, ?luy⟩
        case huy =>
          simp (disch := first | decide | omega | (simp only [List.length_cons, List.length_nil, List.length_append, length_bvs, List.length_take, List.length_drop]; omega)) only [traceX.eq_1, traceX.eq_2, trc1.eq_1, trcK.eq_1, trcK.eq_2, traceD_nil, traceD_t, traceD_f, holeK.eq_1, holeK.eq_2, T11, rgH_eq, rgO_eq, rgO_lit, rgK.eq_1, pfTake_ok, pfTake_no, pfMany_eq, pfInt_eq, pfHash_eq, pfEdit_eq, hr1, hx2, gsv.eq_2, growO.eq_2, List.length_cons, rowB_snoc, go_sem, Nat.reduceAdd, Nat.reduceMul, Nat.reduceSub]
          all_goals with_reducible rfl
        case kuy => kernel_rfl
        case luy =>
          exact chle_lit (by simp (disch := decide) [AllLk, lk_hit, lk_miss, lk_nil]) (by simp (disch := decide) [AllLk, lk_hit, lk_miss, lk_nil, rowB_snoc, rfo]) (by decide)
    case qdu =>
    refine xwp_region (e := ?e18) (s' := ?s18) base11 ?h18 ?q18
    case h18 =>
      simp (disch := first | decide | omega | (simp only [List.length_cons, List.length_nil, List.length_append, length_bvs, List.length_take, List.length_drop]; omega)) only [go_sem, Nat.reduceAdd, Nat.reduceMul, Nat.reduceSub]
      all_goals with_reducible rfl
    case q18 =>
    refine ⟨⟨⟨i + 1, l ++ [xu], u1, v1, by simp [hi], by omega, ?_⟩, ?_⟩, by simp only; omega, ?_⟩
    · rw [← heq, show n1 - i = (n1 - (i + 1)) + 1 by omega, fLs_go hr1]
      simp
    · intro y hy
      rcases List.mem_append.1 hy with hy | hy
      · exact hok y hy
      · rw [List.mem_singleton.1 hy]; exact hx
    · simp only [List.length_append, List.length_cons, List.length_nil, Nat.zero_add, gsv.eq_2, growO.eq_2]
      exact chle_ren_lit [(0, some 0), (1, some 1), (2, some 2), (5, some 3)] [(0, some 0), (1, some 1), (2, some 2), (3, some 5)] (by decide) (by decide) (by decide)
        (allTv_cons (v := .pointer (some ⟨0, 0, none⟩)) (by decide) (by simp (disch := first | decide | omega) only [lk_hit, lk_miss]) (tv_ptr (by simp (disch := first | decide | omega) only [lk_hit, lk_miss])) (allTv_cons (v := .int .i64 0) (by decide) (by simp (disch := first | decide | omega) only [lk_hit, lk_miss]) (tv_flat 1 rfl) (allTv_cons (v := .pointer (some ⟨1, 0, none⟩)) (by decide) (by simp (disch := first | decide | omega) only [lk_hit, lk_miss]) (tv_ptr (by simp (disch := first | decide | omega) only [lk_hit, lk_miss])) (allTv_cons (v := .pointer (some ⟨2, 0, none⟩)) (by decide) (by simp (disch := first | decide | omega) only [lk_hit, lk_miss]) (tv_ptr (by simp (disch := first | decide | omega) only [lk_hit, lk_miss]))
          (allTv_cons (v := .int .i64 (n1 : Int)) (by decide) (by simp (disch := first | decide | omega) only [lk_hit, lk_miss]) (tv_flat 1 rfl) (allTv_cons (v := .int .i64 ((i + 1 : Nat) : Int)) (by decide) (by simp (disch := first | decide | omega) only [lk_hit, lk_miss]) (tv_flat 1 rfl) allTv_nil))))))
        (allTo_cons (o := .cells (.slice none 0 0 :: .slice none 0 0 :: zt) 34 (0, 0)) 0 (by simp (disch := first | decide | omega) only [lk_hit, lk_miss]) (by decide) (by decide) (by simp (disch := first | decide | omega) only [lk_hit, lk_miss]) (to_bareO names_fz (bareO_bares (bares_cons (bare_flat 1 rfl) (bares_cons (bare_flat 1 rfl) bares_zt))))
          (allTo_cons (o := rfo u1 v1) 1 (by simp (disch := first | decide | omega) only [lk_hit, lk_miss]) (by decide) (by decide) (by simp (disch := first | decide | omega) only [lk_hit, lk_miss]) (to_bareO names_fz bareO_rfo)
          (allTo_cons (o := .cells (.slice (some ⟨5, 0, none⟩) (l.length + 1) openCap :: .slice none 0 0 :: zt) 34 (0, 0)) 2 (by simp (disch := first | decide | omega) only [lk_hit, lk_miss]) (by decide) (by decide) (by simp (disch := first | decide | omega) only [lk_hit, lk_miss]) (to_tvs (tvs_cons (tv_slice (by simp (disch := first | decide | omega) only [lk_hit, lk_miss])) (tvs_cons (tv_flat 1 rfl) (bares_zt _ names_fz))))
          (allTo_cons (o := .cells (rowB (l ++ [xu])) 32 (0, 0)) 5 (by simp (disch := first | decide | omega) only [lk_hit, lk_miss]) (by decide) (by decide) (by simp (disch := first | decide | omega) only [lk_hit, lk_miss]) (to_bareO names_fz (bareO_bares (bares_rowB _))) allTo_nil)))) .nil
  · have hfinu : fLs fHash n1 s2 t2 = (l, sL, tL) := by
      rw [← heq, fLs_stop (by
        by_cases h : i < n1
        · exact .inr (by cases tL with
            | true => rfl
            | false => exact absurd ⟨h, rfl⟩ hgo)
        · exact .inl (by omega))]
      simp
    refine xwp_seq ?_
    refine xwp_region_to base11 ⟨frm [(2, some (.pointer (some ⟨0, 0, none⟩))), (3, some (.int .i64 0)), (4, some (.pointer (some ⟨1, 0, none⟩))), (5, some (.pointer (some ⟨2, 0, none⟩))), (6, some (.int .i64 (n1 : Int))), (7, some (.int .i64 (i : Int))), (32, some (.bool false))], wd [(0, some (.cells (.slice none 0 0 :: .slice none 0 0 :: zt) 34 (0, 0))), (1, some (.cells [.string (str sL), .bool tL] 103 (0, 0))), (2, some (.cells (gsv 3 l.length :: .slice none 0 0 :: zt) 34 (0, 0))), (3, growO 32 (rowB l) l.length)] 4 [] 0, []⟩ ?hsu ?qsu
    case hsu =>
      by_cases hlt : i < n1
      · have htt : tL = true := by cases tL with
          | true => rfl
          | false => exact absurd ⟨hlt, rfl⟩ hgo
        subst htt
        refine ⟨?syu, ?ayu, ?byu⟩
        case ayu =>
          simp (disch := first | decide | omega | (simp only [List.length_cons, List.length_nil, List.length_append, length_bvs, List.length_take, List.length_drop]; omega)) only [rfo, go_sem, Nat.reduceAdd, Nat.reduceMul, Nat.reduceSub]
          all_goals with_reducible rfl
        case byu =>
          exact chle_lit (by simp (disch := decide) [AllLk, lk_hit, lk_miss, lk_nil]) (by cases l <;> simp (disch := decide) [AllLk, lk_hit, lk_miss, lk_nil, gsv, growO]) (by decide)
      · refine ⟨?szu, ?azu, ?bzu⟩
        case azu =>
          simp (disch := first | decide | omega | (simp only [List.length_cons, List.length_nil, List.length_append, length_bvs, List.length_take, List.length_drop]; omega)) only [rfo, go_sem, Nat.reduceAdd, Nat.reduceMul, Nat.reduceSub]
          all_goals with_reducible rfl
        case bzu =>
          exact chle_lit (by simp (disch := decide) [AllLk, lk_hit, lk_miss, lk_nil]) (by cases l <;> simp (disch := decide) [AllLk, lk_hit, lk_miss, lk_nil, gsv, growO]) (by decide)
    case qsu =>
    refine xwp_cf ?h19 ?q19
    case h19 =>
      simp (disch := first | decide | omega | (simp only [List.length_cons, List.length_nil, List.length_append, length_bvs, List.length_take, List.length_drop]; omega)) only [go_sem, Nat.reduceAdd, Nat.reduceMul, Nat.reduceSub]
      all_goals with_reducible rfl
    case q19 =>
    refine xwp_exit ?_
    show XWp _ _ _ _ _ _
    have hlb : l.length ≤ 1000 := by omega
    refine xwp_le (ChLe.trans (freeze_row (c := rowB l) (d := gsv 3 l.length :: .slice none 0 0 :: zt) (e := 32) (e2 := 34) (fr2 := (0, 0)) (k := l.length) (L' := [(0, some (.cells (.slice none 0 0 :: .slice none 0 0 :: zt) 34 (0, 0))), (1, some (.cells [.string (str sL), .bool tL] 103 (0, 0))), (2, some (.cells (gslV (rowB l) l.length :: .slice none 0 0 :: zt) 34 (0, 0)))]) 3 2 0 (by simp (disch := first | decide | omega) only [lk_hit, lk_miss]) (by simp (disch := first | decide | omega) only [lk_hit, lk_miss]) rfl (by decide) (by decide) (by decide) (by decide) (by show l.length ≤ 4611686018427387904; omega) .nil (by simp (disch := decide) [AllLk, lk_hit, lk_miss, lk_nil]))
      (chle_lit (F' := [(2, some (.pointer (some ⟨0, 0, none⟩))), (3, some (.int .i64 0)), (4, some (.pointer (some ⟨1, 0, none⟩))), (5, some (.pointer (some ⟨2, 0, none⟩)))]) (L' := [(0, some (.cells (.slice none 0 0 :: .slice none 0 0 :: zt) 34 (0, 0))), (1, some (rfo sL tL)), (2, some (.cells (gslV (rowB l) l.length :: .slice none 0 0 :: zt) 34 (0, 0)))]) (n' := 4) (lg' := []) (nl' := 0) (by simp (disch := decide) [AllLk, lk_hit, lk_miss, lk_nil]) (by simp (disch := decide) [AllLk, lk_hit, lk_miss, lk_nil, rfo]) (by decide))) ?_
    obtain ⟨lp, hlp⟩ : ∃ lp, lp = l := ⟨l, rfl⟩
    rw [← hlp] at hfinu ⊢
    clear hlp hok hi hN hgo hlb heq
    clear l i
    rcases hM2 : fMany 1000 sL tL with ⟨n2, s4, t4⟩
    have hn2 : n2 ≤ 1000 := by have := fMany_le 1000 sL tL; rw [hM2] at this; exact this
    refine xwp_seq (xwp_region (e := ?e20) (s' := ?s20) base11 ?h20 ?q20)
    case h20 =>
      simp (disch := first | decide | omega | (simp only [List.length_cons, List.length_nil, List.length_append, length_bvs, List.length_take, List.length_drop]; omega)) only [T11, rgH_eq, rgO_eq, rgO_lit, rgK.eq_1, pfTake_ok, pfTake_no, pfMany_eq, pfInt_eq, pfHash_eq, pfEdit_eq, hM2, go_sem, Nat.reduceAdd, Nat.reduceMul, Nat.reduceSub]
      all_goals with_reducible rfl
    case q20 =>
    refine xwp_seq ?_
    refine xwp_seq (xwp_region (e := ?e21) (s' := ?s21) base11 ?h21 ?q21)
    case h21 =>
      simp (disch := first | decide | omega | (simp only [List.length_cons, List.length_nil, List.length_append, length_bvs, List.length_take, List.length_drop]; omega)) only [go_sem, Nat.reduceAdd, Nat.reduceMul, Nat.reduceSub]
      all_goals with_reducible rfl
    case q21 =>
    refine xwp_block ?_
    refine xwp_le (chle_lit (F' := [(2, some (.pointer (some ⟨0, 0, none⟩))), (3, some (.int .i64 0)), (4, some (.pointer (some ⟨1, 0, none⟩))), (5, some (.pointer (some ⟨2, 0, none⟩))), (6, some (.int .i64 (n2 : Int))), (8, some (.int .i64 ((0 : Nat) : Int)))]) (L' := [(0, some (.cells (.slice none 0 0 :: .slice none 0 0 :: zt) 34 (0, 0))), (1, some (rfo s4 t4)), (2, some (.cells (gslV (rowB lp) lp.length :: gsv 3 0 :: zt) 34 (0, 0))), (3, growO 64 (rowE []) 0)]) (n' := 4) (lg' := []) (nl' := 0) (by simp (disch := decide) [AllLk, lk_hit, lk_miss, lk_nil]) (by simp (disch := decide) [AllLk, lk_hit, lk_miss, lk_nil, gsv, growO]) (by decide)) ?_
    refine xwp_loop (α := FSt2 fEdit okE n2 s4 t4) (fun x => ⟨frm [(2, some (.pointer (some ⟨0, 0, none⟩))), (3, some (.int .i64 0)), (4, some (.pointer (some ⟨1, 0, none⟩))), (5, some (.pointer (some ⟨2, 0, none⟩))), (6, some (.int .i64 (n2 : Int))), (8, some (.int .i64 (x.i : Int)))], wd [(0, some (.cells (.slice none 0 0 :: .slice none 0 0 :: zt) 34 (0, 0))), (1, some (rfo x.s x.t)), (2, some (.cells (gslV (rowB lp) lp.length :: gsv 3 x.l.length :: zt) 34 (0, 0))), (3, growO 64 (rowE x.l) x.l.length)] 4 [] 0, []⟩) (fun x => n2 - x.i) ?_ ⟨⟨0, [], s4, t4, rfl, Nat.zero_le _, by simp⟩, fun _ h => by cases h⟩
    intro ⟨⟨i, l, sL, tL, hi, hN, heq⟩, hok⟩
    simp only at hok ⊢
    by_cases hgo : i < n2 ∧ tL = false
    · obtain ⟨hlt, rfl⟩ := hgo
      refine xwp_seq ?_
      refine xwp_seq (xwp_region (e := ?e22) (s' := ?s22) base11 ?h22 ?q22)
      case h22 =>
        simp (disch := first | decide | omega | (simp only [List.length_cons, List.length_nil, List.length_append, length_bvs, List.length_take, List.length_drop]; omega)) only [rfo, go_sem, Nat.reduceAdd, Nat.reduceMul, Nat.reduceSub]
        all_goals with_reducible rfl
      case q22 =>
      refine xwp_ct ?h23 ?q23
      case h23 =>
        simp (disch := first | decide | omega | (simp only [List.length_cons, List.length_nil, List.length_append, length_bvs, List.length_take, List.length_drop]; omega)) only [go_sem, Nat.reduceAdd, Nat.reduceMul, Nat.reduceSub]
        all_goals with_reducible rfl
      case q23 =>
      refine xwp_skip ?_
      rcases hr1 : fEdit sL false with ⟨xw, u1, v1⟩
      have hx : okE xw := okE_f hr1
      refine xwp_bdrawn_to base11 ⟨frm [(2, some (.pointer (some ⟨0, 0, none⟩))), (3, some (.int .i64 0)), (4, some (.pointer (some ⟨1, 0, none⟩))), (5, some (.pointer (some ⟨2, 0, none⟩))), (6, some (.int .i64 (n2 : Int))), (8, some (.int .i64 (i : Int)))], wd [(0, some (.cells (.slice none 0 0 :: .slice none 0 0 :: zt) 34 (0, 0))), (1, some (rfo u1 v1)), (2, some (.cells (gslV (rowB lp) lp.length :: .slice (some ⟨5, 0, none⟩) (l.length + 1) openCap :: zt) 34 (0, 0))), (5, some (.cells (rowE (l ++ [xw])) 64 (0, 0)))] 6 [] 0, []⟩ ?hdw ?qdw
      case hdw =>
        rcases l with _ | ⟨p, l'⟩
        · have hlen := rowE_length (l := []) hok
          simp only [List.length_cons, List.length_nil] at hlen hi
          refine ⟨?rswx, ?swx, ?hwx, ?kwx, ?lwx⟩
          case hwx =>
            simp (disch := first | decide | omega | (simp only [List.length_cons, List.length_nil, List.length_append, length_bvs, List.length_take, List.length_drop]; omega)) only [traceX.eq_1, traceX.eq_2, trc1.eq_1, trcK.eq_1, trcK.eq_2, traceD_nil, traceD_t, traceD_f, holeK.eq_1, holeK.eq_2, T11, rgH_eq, rgO_eq, rgO_lit, rgK.eq_1, pfTake_ok, pfTake_no, pfMany_eq, pfInt_eq, pfHash_eq, pfEdit_eq, hr1, okE_enc, gsv.eq_1, growO.eq_1, rowE_snoc, rowE_nil, one_gslV, one_slV, go_sem, Nat.reduceAdd, Nat.reduceMul, Nat.reduceSub]
            all_goals with_reducible rfl
          case kwx => kernel_rfl
          case lwx =>
            exact chle_lit (by simp (disch := decide) [AllLk, lk_hit, lk_miss, lk_nil]) (by simp (disch := decide) [AllLk, lk_hit, lk_miss, lk_nil, rowE_one, rfo]) (by decide)
        · have hlen := rowE_length (l := p :: l') hok
          simp only [List.length_cons, List.length_nil] at hlen hi
          refine ⟨?rswy, ?swy, ?hwy, ?kwy, ?lwy⟩
          case hwy =>
            simp (disch := first | decide | omega | (simp only [List.length_cons, List.length_nil, List.length_append, length_bvs, List.length_take, List.length_drop]; omega)) only [traceX.eq_1, traceX.eq_2, trc1.eq_1, trcK.eq_1, trcK.eq_2, traceD_nil, traceD_t, traceD_f, holeK.eq_1, holeK.eq_2, T11, rgH_eq, rgO_eq, rgO_lit, rgK.eq_1, pfTake_ok, pfTake_no, pfMany_eq, pfInt_eq, pfHash_eq, pfEdit_eq, hr1, okE_enc, gsv.eq_2, growO.eq_2, List.length_cons, rowE_snoc, one_gslV, one_slV, go_sem, Nat.reduceAdd, Nat.reduceMul, Nat.reduceSub]
            all_goals with_reducible rfl
          case kwy => kernel_rfl
          case lwy =>
            exact chle_lit (by simp (disch := decide) [AllLk, lk_hit, lk_miss, lk_nil]) (by simp (disch := decide) [AllLk, lk_hit, lk_miss, lk_nil, rowE_snoc, rfo]) (by decide)
      case qdw =>
      refine xwp_region (e := ?e24) (s' := ?s24) base11 ?h24 ?q24
      case h24 =>
        simp (disch := first | decide | omega | (simp only [List.length_cons, List.length_nil, List.length_append, length_bvs, List.length_take, List.length_drop]; omega)) only [go_sem, Nat.reduceAdd, Nat.reduceMul, Nat.reduceSub]
        all_goals with_reducible rfl
      case q24 =>
      refine ⟨⟨⟨i + 1, l ++ [xw], u1, v1, by simp [hi], by omega, ?_⟩, ?_⟩, by simp only; omega, ?_⟩
      · rw [← heq, show n2 - i = (n2 - (i + 1)) + 1 by omega, fLs_go hr1]
        simp
      · intro y hy
        rcases List.mem_append.1 hy with hy | hy
        · exact hok y hy
        · rw [List.mem_singleton.1 hy]; exact hx
      · simp only [List.length_append, List.length_cons, List.length_nil, Nat.zero_add, gsv.eq_2, growO.eq_2]
        exact chle_ren_lit [(0, some 0), (1, some 1), (2, some 2), (5, some 3)] [(0, some 0), (1, some 1), (2, some 2), (3, some 5)] (by decide) (by decide) (by decide)
          (allTv_cons (v := .pointer (some ⟨0, 0, none⟩)) (by decide) (by simp (disch := first | decide | omega) only [lk_hit, lk_miss]) (tv_ptr (by simp (disch := first | decide | omega) only [lk_hit, lk_miss])) (allTv_cons (v := .int .i64 0) (by decide) (by simp (disch := first | decide | omega) only [lk_hit, lk_miss]) (tv_flat 1 rfl) (allTv_cons (v := .pointer (some ⟨1, 0, none⟩)) (by decide) (by simp (disch := first | decide | omega) only [lk_hit, lk_miss]) (tv_ptr (by simp (disch := first | decide | omega) only [lk_hit, lk_miss])) (allTv_cons (v := .pointer (some ⟨2, 0, none⟩)) (by decide) (by simp (disch := first | decide | omega) only [lk_hit, lk_miss]) (tv_ptr (by simp (disch := first | decide | omega) only [lk_hit, lk_miss]))
            (allTv_cons (v := .int .i64 (n2 : Int)) (by decide) (by simp (disch := first | decide | omega) only [lk_hit, lk_miss]) (tv_flat 1 rfl) (allTv_cons (v := .int .i64 ((i + 1 : Nat) : Int)) (by decide) (by simp (disch := first | decide | omega) only [lk_hit, lk_miss]) (tv_flat 1 rfl) allTv_nil))))))
          (allTo_cons (o := .cells (.slice none 0 0 :: .slice none 0 0 :: zt) 34 (0, 0)) 0 (by simp (disch := first | decide | omega) only [lk_hit, lk_miss]) (by decide) (by decide) (by simp (disch := first | decide | omega) only [lk_hit, lk_miss]) (to_bareO names_fz (bareO_bares (bares_cons (bare_flat 1 rfl) (bares_cons (bare_flat 1 rfl) bares_zt))))
            (allTo_cons (o := rfo u1 v1) 1 (by simp (disch := first | decide | omega) only [lk_hit, lk_miss]) (by decide) (by decide) (by simp (disch := first | decide | omega) only [lk_hit, lk_miss]) (to_bareO names_fz bareO_rfo)
            (allTo_cons (o := .cells (gslV (rowB lp) lp.length :: .slice (some ⟨5, 0, none⟩) (l.length + 1) openCap :: zt) 34 (0, 0)) 2 (by simp (disch := first | decide | omega) only [lk_hit, lk_miss]) (by decide) (by decide) (by simp (disch := first | decide | omega) only [lk_hit, lk_miss]) (to_tvs (tvs_cons (bare_gslV (bares_rowB _) _ _ names_fz) (tvs_cons (tv_slice (by simp (disch := first | decide | omega) only [lk_hit, lk_miss])) (bares_zt _ names_fz))))
            (allTo_cons (o := .cells (rowE (l ++ [xw])) 64 (0, 0)) 5 (by simp (disch := first | decide | omega) only [lk_hit, lk_miss]) (by decide) (by decide) (by simp (disch := first | decide | omega) only [lk_hit, lk_miss]) (to_bareO names_fz (bareO_bares (bares_rowE _))) allTo_nil)))) .nil
    · have hfinw : fLs fEdit n2 s4 t4 = (l, sL, tL) := by
        rw [← heq, fLs_stop (by
          by_cases h : i < n2
          · exact .inr (by cases tL with
              | true => rfl
              | false => exact absurd ⟨h, rfl⟩ hgo)
          · exact .inl (by omega))]
        simp
      refine xwp_seq ?_
      refine xwp_region_to base11 ⟨frm [(2, some (.pointer (some ⟨0, 0, none⟩))), (3, some (.int .i64 0)), (4, some (.pointer (some ⟨1, 0, none⟩))), (5, some (.pointer (some ⟨2, 0, none⟩))), (6, some (.int .i64 (n2 : Int))), (8, some (.int .i64 (i : Int))), (53, some (.bool false))], wd [(0, some (.cells (.slice none 0 0 :: .slice none 0 0 :: zt) 34 (0, 0))), (1, some (.cells [.string (str sL), .bool tL] 103 (0, 0))), (2, some (.cells (gslV (rowB lp) lp.length :: gsv 3 l.length :: zt) 34 (0, 0))), (3, growO 64 (rowE l) l.length)] 4 [] 0, []⟩ ?hsw ?qsw
      case hsw =>
        by_cases hlt : i < n2
        · have htt : tL = true := by cases tL with
            | true => rfl
            | false => exact absurd ⟨hlt, rfl⟩ hgo
          subst htt
          refine ⟨?syw, ?ayw, ?byw⟩
          case ayw =>
            simp (disch := first | decide | omega | (simp only [List.length_cons, List.length_nil, List.length_append, length_bvs, List.length_take, List.length_drop]; omega)) only [rfo, go_sem, Nat.reduceAdd, Nat.reduceMul, Nat.reduceSub]
            all_goals with_reducible rfl
          case byw =>
            exact chle_lit (by simp (disch := decide) [AllLk, lk_hit, lk_miss, lk_nil]) (by cases l <;> simp (disch := decide) [AllLk, lk_hit, lk_miss, lk_nil, gsv, growO]) (by decide)
        · refine ⟨?szw, ?azw, ?bzw⟩
          case azw =>
            simp (disch := first | decide | omega | (simp only [List.length_cons, List.length_nil, List.length_append, length_bvs, List.length_take, List.length_drop]; omega)) only [rfo, go_sem, Nat.reduceAdd, Nat.reduceMul, Nat.reduceSub]
            all_goals with_reducible rfl
          case bzw =>
            exact chle_lit (by simp (disch := decide) [AllLk, lk_hit, lk_miss, lk_nil]) (by cases l <;> simp (disch := decide) [AllLk, lk_hit, lk_miss, lk_nil, gsv, growO]) (by decide)
      case qsw =>
      refine xwp_cf ?h25 ?q25
      case h25 =>
        simp (disch := first | decide | omega | (simp only [List.length_cons, List.length_nil, List.length_append, length_bvs, List.length_take, List.length_drop]; omega)) only [go_sem, Nat.reduceAdd, Nat.reduceMul, Nat.reduceSub]
        all_goals with_reducible rfl
      case q25 =>
      refine xwp_exit ?_
      show XWp _ _ _ _ _ _
      have hlb : l.length ≤ 1000 := by omega
      refine xwp_le (ChLe.trans (freeze_row (c := rowE l) (d := gslV (rowB lp) lp.length :: gsv 3 l.length :: zt) (e := 64) (e2 := 34) (fr2 := (0, 0)) (k := l.length) (L' := [(0, some (.cells (.slice none 0 0 :: .slice none 0 0 :: zt) 34 (0, 0))), (1, some (.cells [.string (str sL), .bool tL] 103 (0, 0))), (2, some (.cells (gslV (rowB lp) lp.length :: gslV (rowE l) l.length :: zt) 34 (0, 0)))]) 3 2 1 (by simp (disch := first | decide | omega) only [lk_hit, lk_miss]) (by simp (disch := first | decide | omega) only [lk_hit, lk_miss]) rfl (by decide) (by decide) (by decide) (by decide) (by show l.length ≤ 4611686018427387904; omega) .nil (by simp (disch := decide) [AllLk, lk_hit, lk_miss, lk_nil]))
        (chle_lit (F' := [(2, some (.pointer (some ⟨0, 0, none⟩))), (3, some (.int .i64 0)), (4, some (.pointer (some ⟨1, 0, none⟩))), (5, some (.pointer (some ⟨2, 0, none⟩)))]) (L' := [(0, some (.cells (.slice none 0 0 :: .slice none 0 0 :: zt) 34 (0, 0))), (1, some (rfo sL tL)), (2, some (.cells (gslV (rowB lp) lp.length :: gslV (rowE l) l.length :: zt) 34 (0, 0)))]) (n' := 4) (lg' := []) (nl' := 0) (by simp (disch := decide) [AllLk, lk_hit, lk_miss, lk_nil]) (by simp (disch := decide) [AllLk, lk_hit, lk_miss, lk_nil, rfo]) (by decide))) ?_
      obtain ⟨le, hle⟩ : ∃ le, le = l := ⟨l, rfl⟩
      rw [← hle] at hfinw ⊢
      clear hle hok hi hN hgo hlb heq
      clear l i
      rcases hB : fHash sL tL with ⟨tr, s6, t6⟩
      have htr : tr.length = 32 := okB_f hB
      refine xwp_seq (xwp_region (e := ?e26) (s' := ?s26) base11 ?h26 ?q26)
      case h26 =>
        simp (disch := first | decide | omega | (simp only [List.length_cons, List.length_nil, List.length_append, length_bvs, List.length_take, List.length_drop]; omega)) only [T11, rgH_eq, rgO_eq, rgO_lit, rgK.eq_1, pfTake_ok, pfTake_no, pfMany_eq, pfInt_eq, pfHash_eq, pfEdit_eq, hB, htr, zt_drop, go_sem, Nat.reduceAdd, Nat.reduceMul, Nat.reduceSub]
        all_goals with_reducible rfl
      case q26 =>
      rcases hM3 : fMany 65535 s6 t6 with ⟨k, s7, t7⟩
      obtain ⟨tx, s8, t8, hT, hT2⟩ : ∃ tx s8 t8, pfTake [.int .i64 ((k : Nat) : Int)] s7 t7 = some (.string (str tx), s8, t8) ∧ fTake k s7 t7 = (tx, s8, t8) := ⟨_, _, _, rfl, rfl⟩
      refine xwp_seq (xwp_region (e := ?e27) (s' := ?s27) base11 ?h27 ?q27)
      case h27 =>
        simp (disch := first | decide | omega | (simp only [List.length_cons, List.length_nil, List.length_append, length_bvs, List.length_take, List.length_drop]; omega)) only [T11, rgH_eq, rgO_eq, rgK.eq_1, pfMany_eq, hM3, hT, htr, tk32 htr, dr33 htr, go_sem, Nat.reduceAdd, Nat.reduceMul, Nat.reduceSub]
        all_goals with_reducible rfl
      case q27 =>
      refine xwp_seq ?_
      have hdec : fDec s1 = if t8 = true ∨ s8 ≠ [] then none else some ⟨lp, le, tr, tx⟩ := by
        simp only [fDec, hM1, hfinu, hM2, hfinw, hB, hM3, hT2]
      by_cases hbad : t8 = true ∨ s8 ≠ []
      · refine xwp_region_to base11 ⟨frm [(2, some (.pointer (some ⟨0, 0, none⟩))), (81, some (.bool true))], wd [(0, some (.cells (.slice none 0 0 :: .slice none 0 0 :: zt) 34 (0, 0)))] 4 [] 0, []⟩ ?hsb ?qsb
        case hsb =>
          by_cases h8 : t8 = true
          · subst h8
            refine ⟨?s28, ?a28, ?b28⟩
            case a28 =>
              simp (disch := first | decide | omega | (simp only [List.length_cons, List.length_nil, List.length_append, length_bvs, List.length_take, List.length_drop]; omega)) only [rfo, wantU, go_sem, Nat.reduceAdd, Nat.reduceMul, Nat.reduceSub]
              all_goals with_reducible rfl
            case b28 =>
              exact chle_lit (by simp (disch := decide) [AllLk, lk_hit, lk_miss, lk_nil]) (by simp (disch := decide) [AllLk, lk_hit, lk_miss, lk_nil]) (by decide)
          · have h9 : t8 = false := by simpa using h8
            subst h9
            have hz : s8 ≠ [] := by simpa using hbad
            refine ⟨?s29, ?a29, ?b29⟩
            case a29 =>
              simp (disch := first | decide | omega | (simp only [List.length_cons, List.length_nil, List.length_append, length_bvs, List.length_take, List.length_drop]; omega)) only [rfo, hz, str0, go_sem, Nat.reduceAdd, Nat.reduceMul, Nat.reduceSub]
              all_goals with_reducible rfl
            case b29 =>
              exact chle_lit (by simp (disch := decide) [AllLk, lk_hit, lk_miss, lk_nil]) (by simp (disch := decide) [AllLk, lk_hit, lk_miss, lk_nil]) (by decide)
        case qsb =>
        refine xwp_ct ?h30 ?q30
        case h30 =>
          simp (disch := first | decide | omega | (simp only [List.length_cons, List.length_nil, List.length_append, length_bvs, List.length_take, List.length_drop]; omega)) only [go_sem, Nat.reduceAdd, Nat.reduceMul, Nat.reduceSub]
          all_goals with_reducible rfl
        case q30 =>
        refine xwp_seq (xwp_region (e := ?e31) (s' := ?s31) base11 ?h31 ?q31)
        case h31 =>
          simp (disch := first | decide | omega | (simp only [List.length_cons, List.length_nil, List.length_append, length_bvs, List.length_take, List.length_drop]; omega)) only [zt_len, List.drop_eq_nil_of_le, go_sem, Nat.reduceAdd, Nat.reduceMul, Nat.reduceSub]
          all_goals with_reducible rfl
        case q31 =>
        refine xwp_ret ?_
        refine ⟨_, ?e32, ?W32, rfl, ?h32, ?q32⟩
        case h32 =>
          simp (disch := first | decide | omega | (simp only [List.length_cons, List.length_nil, List.length_append, length_bvs, List.length_take, List.length_drop]; omega)) only [Tryz.results11, go_sem, Nat.reduceAdd, Nat.reduceMul, Nat.reduceSub]
          all_goals with_reducible rfl
        case q32 =>
        rw [show fDecR (b :: s1) = if b = 3 then decV (fDec s1) else _ from rfl, if_pos hb3, hdec, if_pos hbad]
        rfl
      · have hbad2 : t8 = false ∧ s8 = [] := by
          refine ⟨?_, ?_⟩
          · cases t8 with
            | true => exact absurd (.inl rfl) hbad
            | false => rfl
          · rcases s8 with _ | ⟨c, r⟩
            · rfl
            · exact absurd (.inr (by simp)) hbad
        obtain ⟨rfl, rfl⟩ := hbad2
        refine xwp_seq (xwp_region (e := ?e33) (s' := ?s33) base11 ?h33 ?q33)
        case h33 =>
          simp (disch := first | decide | omega | (simp only [List.length_cons, List.length_nil, List.length_append, length_bvs, List.length_take, List.length_drop]; omega)) only [rfo, str0, go_sem, Nat.reduceAdd, Nat.reduceMul, Nat.reduceSub]
          all_goals with_reducible rfl
        case q33 =>
        refine xwp_cf ?h34 ?q34
        case h34 =>
          simp (disch := first | decide | omega | (simp only [List.length_cons, List.length_nil, List.length_append, length_bvs, List.length_take, List.length_drop]; omega)) only [go_sem, Nat.reduceAdd, Nat.reduceMul, Nat.reduceSub]
          all_goals with_reducible rfl
        case q34 =>
        refine xwp_skip ?_
        refine xwp_seq (xwp_region (e := ?e35) (s' := ?s35) base11 ?h35 ?q35)
        case h35 =>
          simp (disch := first | decide | omega | (simp only [List.length_cons, List.length_nil, List.length_append, length_bvs, List.length_take, List.length_drop]; omega)) only [htr, one_gslV, List.drop_eq_nil_of_le, List.all_append, zt_len, go_sem, Nat.reduceAdd, Nat.reduceMul, Nat.reduceSub]
          all_goals with_reducible rfl
        case q35 =>
        refine xwp_ret ?_
        refine ⟨_, ?e36, ?W36, rfl, ?h36, ?q36⟩
        case h36 =>
          simp (disch := first | decide | omega | (simp only [List.length_cons, List.length_nil, List.length_append, length_bvs, List.length_take, List.length_drop]; omega)) only [Tryz.results11, htr, go_sem, Nat.reduceAdd, Nat.reduceMul, Nat.reduceSub]
          all_goals with_reducible rfl
        case q36 =>
        rw [show fDecR (b :: s1) = if b = 3 then decV (fDec s1) else _ from rfl, if_pos hb3, hdec, if_neg hbad]
        have hl : (bvs tr ++ [Value.string (str tx)]).length = 33 := by rw [List.length_append, length_bvs, htr]; rfl
        rw [List.drop_eq_nil_of_le (by rw [hl, zt_len]; exact Nat.le_refl _), List.append_nil, List.take_of_length_le (by rw [hl]; exact Nat.le_refl _)]
        rfl
end Go.Proofs.YthlkgmdkabelpaaGreatDoor.X
namespace Go.Proofs.YthlkgmdkabelpaaGreatDoor.X
open Go Go.RowKit
structure Sim {α : Type} (f : List UInt8 → Bool → α × List UInt8 × Bool) (p : List UInt8 → Option (α × List UInt8)) : Prop where
  ok : ∀ s a s', p s = some (a, s') → f s false = (a, s', false)
  no : ∀ s, p s = none → (f s false).2.2 = true
  bad : ∀ s, (f s true).2.2 = true
def fb {α β : Type} (f : List UInt8 → Bool → α × List UInt8 × Bool) (g : α → List UInt8 → Bool → β × List UInt8 × Bool) (s : List UInt8) (t : Bool) : β × List UInt8 × Bool := match f s t with
  | (a, s1, t1) => g a s1 t1
def pb {α β : Type} (p : List UInt8 → Option (α × List UInt8)) (q : α → List UInt8 → Option (β × List UInt8)) (s : List UInt8) : Option (β × List UInt8) := match p s with
  | none => none
  | some (a, s1) => q a s1
theorem Sim.bind {α β : Type} {f : List UInt8 → Bool → α × List UInt8 × Bool} {g : α → List UInt8 → Bool → β × List UInt8 × Bool} {p : List UInt8 → Option (α × List UInt8)} {q : α → List UInt8 → Option (β × List UInt8)} (h : Sim f p) (k : ∀ a, Sim (g a) (q a)) : Sim (fb f g) (pb p q) := by
  have key : ∀ s t, (f s t).2.2 = true → (fb f g s t).2.2 = true := fun s t e => by
    unfold fb
    rcases he : f s t with ⟨a, s1, t1⟩
    rw [he] at e
    simp only at e ⊢
    rw [e]
    exact (k a).bad s1
  refine ⟨fun s b s' e => ?_, fun s e => ?_, fun s => key _ _ (h.bad s)⟩
  · unfold pb at e
    cases hp : p s with
    | none => rw [hp] at e; cases e
    | some x =>
      obtain ⟨a, s1⟩ := x
      rw [hp] at e
      unfold fb
      rw [h.ok s a s1 hp]
      exact (k a).ok s1 b s' e
  · unfold pb at e
    cases hp : p s with
    | none => exact key _ _ (h.no s hp)
    | some x =>
      obtain ⟨a, s1⟩ := x
      rw [hp] at e
      unfold fb
      rw [h.ok s a s1 hp]
      exact (k a).no s1 e
theorem Sim.pure {α : Type} (a : α) : Sim (fun s t => (a, s, t)) (fun s => some (a, s)) := ⟨fun s b s' e => by cases e; rfl, fun s e => (by cases e), fun s => rfl⟩
theorem rfU_rdU : ∀ (f k acc : Nat) (s : List UInt8), k + f = 10 → 0 < f → (∀ n s', rdU k acc s = some (n, s') → rfU f k acc s = (n, s', false)) ∧ (rdU k acc s = none → (rfU f k acc s).2.2 = true)
  | 0, k, acc, s, hk, h0 => absurd h0 (by decide)
  | f + 1, k, acc, [], hk, _ => ⟨fun n s' e => (by cases e), fun e => rfl⟩
  | f + 1, k, acc, b :: s, hk, _ => by
    have hb := b.toNat_lt
    unfold rdU
    rw [rfU.eq_3]
    by_cases h9 : k = 9 ∧ 1 < b.toNat
    · rw [if_pos h9, if_pos (by omega)]
      exact ⟨fun n s' e => (by cases e), fun e => rfl⟩
    · rw [if_neg h9, if_neg (by omega)]
      by_cases h128 : b.toNat < 128
      · rw [if_pos h128, if_pos h128]
        by_cases h0 : 0 < k ∧ b.toNat = 0
        · rw [if_pos h0]
          exact ⟨fun n s' e => (by cases e), fun e => by simp only [decide_eq_true_eq]; exact h0⟩
        · rw [if_neg h0]
          exact ⟨fun n s' e => by cases e; rw [show decide (0 < k ∧ b.toNat = 0) = false from decide_eq_false h0], fun e => by cases e⟩
      · rw [if_neg h128, if_neg h128]
        exact rfU_rdU f (k + 1) _ s (by omega) (by omega)
theorem simNum : Sim fNum (rdU 0 0) := by
  refine ⟨fun s a s' e => ?_, fun s e => ?_, fun s => rfl⟩
  · exact (rfU_rdU 10 0 0 s rfl (by decide)).1 a s' e
  · exact (rfU_rdU 10 0 0 s rfl (by decide)).2 e
theorem simInt : Sim fInt rdI := by
  refine ⟨fun s a s' e => ?_, fun s e => ?_, fun s => rfl⟩
  · unfold rdI at e
    cases h : rdU 0 0 s with
    | none => rw [h] at e; cases e
    | some x =>
      obtain ⟨n, s1⟩ := x
      rw [h] at e
      cases e
      show (unz (fNum s false).1, (fNum s false).2) = _
      rw [simNum.ok s n s1 h]
  · unfold rdI at e
    cases h : rdU 0 0 s with
    | none => exact simNum.no s h
    | some x => rw [h] at e; cases e
theorem simMany (most : Nat) : Sim (fMany most) (rdM most) := by
  refine ⟨fun s a s' e => ?_, fun s e => ?_, fun s => ?_⟩
  · unfold rdM at e
    cases h : rdU 0 0 s with
    | none => rw [h] at e; cases e
    | some x =>
      obtain ⟨n, s1⟩ := x
      rw [h] at e
      simp only at e
      split at e
      · cases e
        unfold fMany
        rw [simNum.ok s a s' h, if_neg (by simp only; omega)]
      · cases e
  · unfold rdM at e
    cases h : rdU 0 0 s with
    | none =>
      unfold fMany
      split
      · rfl
      · exact simNum.no s h
    | some x =>
      obtain ⟨n, s1⟩ := x
      rw [h] at e
      simp only at e
      split at e
      · cases e
      · unfold fMany
        rw [simNum.ok s n s1 h, if_pos (by simp only; omega)]
  · unfold fMany
    split
    · rfl
    · rfl
theorem simHash : Sim fHash rdB := by
  refine ⟨fun s a s' e => ?_, fun s e => ?_, fun s => ?_⟩
  · unfold rdB at e
    unfold fHash
    split at e
    · rename_i h; cases e; rw [if_pos h]
    · cases e
  · unfold rdB at e
    unfold fHash
    split at e
    · cases e
    · rename_i h; rw [if_neg h]
  · unfold fHash
    split <;> rfl
theorem simL {α : Type} {f : List UInt8 → Bool → α × List UInt8 × Bool} {p : List UInt8 → Option (α × List UInt8)} (h : Sim f p) : ∀ n, Sim (fLs f n) (rdL p n)
  | 0 => Sim.pure []
  | n + 1 => by
    have ih := simL h n
    have hb : ∀ s, (fLs f (n + 1) s true).2.2 = true := fun s => by rw [fLs, if_pos rfl]
    refine ⟨fun s a s' e => ?_, fun s e => ?_, hb⟩
    · unfold rdL at e
      cases hp : p s with
      | none => rw [hp] at e; cases e
      | some x =>
        obtain ⟨y, s1⟩ := x
        rw [hp] at e
        simp only at e
        cases hr : rdL p n s1 with
        | none => rw [hr] at e; cases e
        | some z =>
          obtain ⟨l, s2⟩ := z
          rw [hr] at e
          cases e
          rw [fLs_go (h.ok s y s1 hp), ih.ok _ _ _ hr]
    · unfold rdL at e
      rw [fLs, if_neg (by decide)]
      cases hp : p s with
      | none =>
        have hb := h.no s hp
        rcases hf : f s false with ⟨y, s1, t1⟩
        rw [hf] at hb
        simp only at hb ⊢
        rw [hb]
        exact ih.bad s1
      | some x =>
        obtain ⟨y, s1⟩ := x
        rw [hp] at e
        rw [h.ok s y s1 hp]
        simp only at e ⊢
        cases hr : rdL p n s1 with
        | none => exact ih.no s1 hr
        | some z => rw [hr] at e; cases e
theorem simPair : Sim fPair (pb rdI fun a => pb rdI fun b s => some ((a, b), s)) := simInt.bind fun a => simInt.bind fun b => Sim.pure (a, b)
theorem rdP_rdL : ∀ n s, rdP n s = rdL (pb rdI fun a => pb rdI fun b s => some ((a, b), s)) n s
  | 0, s => rfl
  | n + 1, s => by
    rw [rdL]
    unfold rdP
    simp only [pb]
    cases h1 : rdI s with
    | none => rfl
    | some x =>
      obtain ⟨a, s1⟩ := x
      simp only
      cases h2 : rdI s1 with
      | none => rfl
      | some y =>
        obtain ⟨b, s2⟩ := y
        simp only
        rw [rdP_rdL n s2]
theorem simP (n : Nat) : Sim (fLs fPair n) (rdP n) := by
  have h := simL simPair n
  rwa [show rdL (pb rdI fun a => pb rdI fun b s => some ((a, b), s)) n = rdP n from funext fun s => (rdP_rdL n s).symm] at h
theorem simEdit : Sim fEdit rdE := by
  have h := simInt.bind fun a1 => simInt.bind fun a2 => simInt.bind fun a3 => simInt.bind fun a4 => simInt.bind fun a5 => (simMany 4000).bind fun n => (simP n).bind fun l => (simMany 4000).bind fun m => (simP m).bind fun r => Sim.pure (EditL.mk a1 a2 a3 a4 a5 l r)
  have e1 : fEdit = (fb fInt fun a1 => fb fInt fun a2 => fb fInt fun a3 => fb fInt fun a4 => fb fInt fun a5 => fb (fMany 4000) fun n => fb (fLs fPair n) fun l => fb (fMany 4000) fun m => fb (fLs fPair m) fun r s t => (EditL.mk a1 a2 a3 a4 a5 l r, s, t)) := rfl
  have e2 : rdE = (pb rdI fun a1 => pb rdI fun a2 => pb rdI fun a3 => pb rdI fun a4 => pb rdI fun a5 => pb (rdM 4000) fun n => pb (rdP n) fun l => pb (rdM 4000) fun m => pb (rdP m) fun r s => some (EditL.mk a1 a2 a3 a4 a5 l r, s)) := by
    funext s0
    unfold rdE
    simp only [pb]
    cases rdI s0 with
    | none => rfl
    | some x =>
    obtain ⟨a1, s1⟩ := x
    simp only
    cases rdI s1 with
    | none => rfl
    | some x =>
    obtain ⟨a2, s2⟩ := x
    simp only
    cases rdI s2 with
    | none => rfl
    | some x =>
    obtain ⟨a3, s3⟩ := x
    simp only
    cases rdI s3 with
    | none => rfl
    | some x =>
    obtain ⟨a4, s4⟩ := x
    simp only
    cases rdI s4 with
    | none => rfl
    | some x =>
    obtain ⟨a5, s5⟩ := x
    simp only
    cases rdM 4000 s5 with
    | none => rfl
    | some x =>
    obtain ⟨n, s6⟩ := x
    simp only
    cases rdP n s6 with
    | none => rfl
    | some x =>
    obtain ⟨l, s7⟩ := x
    simp only
    cases rdM 4000 s7 with
    | none => rfl
    | some x =>
    obtain ⟨m, s8⟩ := x
    simp only
    cases rdP m s8 with
    | none => rfl
    | some x =>
    obtain ⟨r, s9⟩ := x
    simp only
  rw [e1, e2]
  exact h
theorem simTake (k : Nat) : Sim (fTake k) (fun s => if k ≤ s.length then some (s.take k, s.drop k) else none) := by
  refine ⟨fun s a s' e => ?_, fun s e => ?_, fun s => ?_⟩
  · unfold fTake
    by_cases h : k ≤ s.length
    · rw [if_pos h] at e ⊢; cases e; rfl
    · rw [if_neg h] at e; cases e
  · unfold fTake
    by_cases h : k ≤ s.length
    · rw [if_pos h] at e; cases e
    · rw [if_neg h]
  · unfold fTake
    split <;> rfl
theorem simDec : Sim (fb (fMany 8) fun n => fb (fLs fHash n) fun ps => fb (fMany 1000) fun m => fb (fLs fEdit m) fun es => fb fHash fun tr => fb (fMany 65535) fun k => fb (fTake k) fun tx => fun s t => (CommitL.mk ps es tr tx, s, t))
    (pb (rdM 8) fun n => pb (rdL rdB n) fun ps => pb (rdM 1000) fun m => pb (rdL rdE m) fun es => pb rdB fun tr => pb (rdM 65535) fun k => pb (fun s => if k ≤ s.length then some (s.take k, s.drop k) else none) fun tx => fun s => some (CommitL.mk ps es tr tx, s)) :=
  (simMany 8).bind fun n => (simL simHash n).bind fun ps => (simMany 1000).bind fun m => (simL simEdit m).bind fun es => simHash.bind fun tr => (simMany 65535).bind fun k => (simTake k).bind fun tx => Sim.pure _
theorem fDec_eq (s : List UInt8) : fDec s = dec s := by
  have h1 : fDec s = match (fb (fMany 8) fun n => fb (fLs fHash n) fun ps => fb (fMany 1000) fun m => fb (fLs fEdit m) fun es => fb fHash fun tr => fb (fMany 65535) fun k => fb (fTake k) fun tx => fun s t => (CommitL.mk ps es tr tx, s, t)) s false with
    | (c, s', t') => if t' = true ∨ s' ≠ [] then none else some c := rfl
  have h2 : dec s = match (pb (rdM 8) fun n => pb (rdL rdB n) fun ps => pb (rdM 1000) fun m => pb (rdL rdE m) fun es => pb rdB fun tr => pb (rdM 65535) fun k => pb (fun s => if k ≤ s.length then some (s.take k, s.drop k) else none) fun tx => fun s => some (CommitL.mk ps es tr tx, s)) s with
    | none => none
    | some (c, s') => if s' = [] then some c else none := by
    unfold dec pb
    cases rdM 8 s with
    | none => rfl
    | some x =>
    obtain ⟨n1, s2⟩ := x
    simp only [pb]
    cases rdL rdB n1 s2 with
    | none => rfl
    | some x =>
    obtain ⟨ps, s3⟩ := x
    simp only
    cases rdM 1000 s3 with
    | none => rfl
    | some x =>
    obtain ⟨n2, s4⟩ := x
    simp only
    cases rdL rdE n2 s4 with
    | none => rfl
    | some x =>
    obtain ⟨es, s5⟩ := x
    simp only
    cases rdB s5 with
    | none => rfl
    | some x =>
    obtain ⟨tr, s6⟩ := x
    simp only
    cases rdM 65535 s6 with
    | none => rfl
    | some x =>
    obtain ⟨k, s7⟩ := x
    simp only
    by_cases hk : k ≤ s7.length
    · rw [if_pos hk]
      by_cases hz : s7.drop k = []
      · simp only [hk, hz, and_self, if_true]
      · simp only [hz, and_false, if_false]
    · rw [if_neg hk]
      simp only [hk, false_and, if_false]
  rw [h1, h2]
  cases hp : (pb (rdM 8) fun n => pb (rdL rdB n) fun ps => pb (rdM 1000) fun m => pb (rdL rdE m) fun es => pb rdB fun tr => pb (rdM 65535) fun k => pb (fun s => if k ≤ s.length then some (s.take k, s.drop k) else none) fun tx => fun s => some (CommitL.mk ps es tr tx, s)) s with
  | none =>
    have := simDec.no s hp
    generalize (fb (fMany 8) fun n => fb (fLs fHash n) fun ps => fb (fMany 1000) fun m => fb (fLs fEdit m) fun es => fb fHash fun tr => fb (fMany 65535) fun k => fb (fTake k) fun tx => fun s t => (CommitL.mk ps es tr tx, s, t)) s false = r at this ⊢
    obtain ⟨c, s', t'⟩ := r
    simp only at this ⊢
    rw [if_pos (.inl this)]
  | some x =>
    obtain ⟨c, s'⟩ := x
    rw [simDec.ok s c s' hp]
    simp only [Bool.false_eq_true, false_or]
    by_cases hz : s' = []
    · rw [if_neg (by simpa using hz), if_pos hz]
    · rw [if_pos hz, if_neg hz]
theorem fDecR_eq (s : List UInt8) : fDecR s = decR s := by
  cases s with
  | nil => rfl
  | cons b s => show (if b = 3 then decV (fDec s) else _) = (if b = 3 then decV (dec s) else _); rw [fDec_eq]
end Go.Proofs.YthlkgmdkabelpaaGreatDoor.X
namespace Go.Proofs.YthlkgmdkabelpaaGreatDoor.X
open Go Go.RowKit
structure Upto (n : Nat) where
  i : Nat
  h : i ≤ n
structure OkE (e : EditL) : Prop where
  s : e.sides.length ≤ 4000
  p : e.pairs.length ≤ 4000
structure OkC (c : CommitL) : Prop where
  t : c.tree.length = 32
  p : ∀ x ∈ c.parents, okB x
  np : c.parents.length ≤ 1000
  ne : c.edits.length ≤ 1000
  e : ∀ x ∈ c.edits, OkE x
theorem lenB_gslV {W : XW} {e : TypeId} {c : List Value} {k : Nat} : lenB W (gslV c k) (some (.slice e)) = some (.val (some (.int .i64 (k : Int)))) := by cases k <;> rfl
theorem lenB_slV {W : XW} {e : TypeId} {l : List (Int × Int)} : lenB W (slV l) (some (.slice e)) = some (.val (some (.int .i64 (l.length : Int)))) := by cases l <;> rfl
theorem iad_gslV {P : Program} {e : TypeId} {c : List Value} {k i : Nat} {j : IntKind} (h : i < k) : iadX P (some (.slice e)) (some (gslV c k)) (some (.int j ((i : Nat) : Int))) = iadZ c i k (sz P e) := by
  cases k with
  | zero => omega
  | succ k => rfl
theorem iad_slV {P : Program} {e : TypeId} {l : List (Int × Int)} {i : Nat} {j : IntKind} (h : i < l.length) : iadX P (some (.slice e)) (some (slV l)) (some (.int j ((i : Nat) : Int))) = iadZ (rowV l) i l.length (sz P e) := by
  cases l with
  | nil => exact absurd h (Nat.not_lt_zero _)
  | cons p l => rfl
theorem load_FP {P : Program} {W : XW} {t : TypeId} {c : List Value} : loadX P W t (FP c) = cut P t c 0 := rfl
theorem row_at {α : Type} {g : α → List Value} {m : Nat} : ∀ {l : List α} (hl : ∀ x ∈ l, (g x).length = m) {i : Nat} (h : i < l.length), ((l.flatMap g).drop (i * m)).take m = g l[i]
  | [], _, i, h => absurd h (Nat.not_lt_zero _)
  | a :: l, hl, 0, h => by
    rw [List.flatMap_cons, Nat.zero_mul, List.drop_zero, List.take_left' (hl a List.mem_cons_self)]
    rfl
  | a :: l, hl, i + 1, h => by
    have ha := hl a List.mem_cons_self
    rw [List.flatMap_cons, Nat.succ_mul, Nat.add_comm, ← List.drop_drop, List.drop_left' ha]
    exact row_at (fun x hx => hl x (List.mem_cons_of_mem _ hx)) (Nat.lt_of_succ_lt_succ h)
theorem rowV_at {l : List (Int × Int)} {i : Nat} (h : i < l.length) : ((rowV l).drop (i * 2)).take 2 = [.int .i64 (l[i]).1, .int .i64 (l[i]).2] := row_at (g := encSide) (m := 2) (fun x _ => rfl) h
theorem rowB_at {l : List (List UInt8)} (hl : ∀ x ∈ l, okB x) {i : Nat} (h : i < l.length) : ((rowB l).drop (i * 32)).take 32 = bvs l[i] := row_at (fun x hx => by rw [length_bvs]; exact hl x hx) h
theorem rowE_at {l : List EditL} {i : Nat} (h : i < l.length) : ((rowE l).drop (i * 7)).take 7 = encEdit l[i] := row_at (g := encEdit) (m := 7) (fun x _ => rfl) h
theorem bin_hash {l : List UInt8} (h : l.length = 32) {x y : Operand} : binX Tryz.prog .neq 32 x y (some (.agg (bvs l).toArray)) (some (.agg (bvs l).toArray)) = some (.val (some (.bool false))) :=
  bin_row (n := 32) (e := 5) Tryz.underlying32 (by kernel_rfl) Tryz.underlying5 (by kernel_rfl) (by rw [length_bvs]; exact h) (intRow_bvs l)
theorem bin_twoI {a b : Int} {x y : Operand} : binX Tryz.prog .neq 71 x y (some (.agg #[.int .i64 a, .int .i64 b])) (some (.agg #[.int .i64 a, .int .i64 b])) = some (.val (some (.bool false))) :=
  bin_row (n := 2) (e := 3) (c := [.int .i64 a, .int .i64 b]) Tryz.underlying71 (by kernel_rfl) Tryz.underlying3 (by kernel_rfl) rfl fun v hv => by
    simp only [List.mem_cons, List.not_mem_nil, or_false] at hv
    rcases hv with rfl | rfl <;> exact ⟨_, _, rfl⟩
theorem bin_side {a b : Int} {x y : Operand} : binX Tryz.prog .neq 70 x y (some (.agg #[.int .i64 a, .int .i64 b])) (some (.agg #[.int .i64 a, .int .i64 b])) = some (.val (some (.bool false))) :=
  bin_two Tryz.underlying70 (by kernel_rfl) Tryz.underlying3 Tryz.underlying3 rfl rfl (by kernel_rfl)
theorem dec_self {α : Type} [DecidableEq α] {a : α} : decide (a = a) = true := by simp
theorem at32 {l : List UInt8} (h : l.length = 32) {v : Value} : (bvs l ++ [v])[32]? = some v := by
  rw [List.getElem?_append_right (by rw [length_bvs, h]; exact Nat.le_refl _), length_bvs, h]; rfl
set_option maxHeartbeats 2000000 in
theorem sameLocal (c : CommitL) (hc : OkC c) : Local Tryz.prog 10 [.agg (encC c).toArray, .agg (encC c).toArray] (wd [] 0 [] 0) fun e W' => e = .ret (.bool true) := by
  refine lit_local base0 Tryz.func10 rfl (Nat.le_of_ble_eq_true rfl) ?_
  simp only [frOfL.eq_1, frOfL.eq_2, wd_next, Tryz.ntmps10, Nat.reduceAdd, encC]
  have htr := hc.t
  refine xwp_seq (xwp_region (e := ?e1) (s' := ?s1) base0 ?h1 ?q1)
  case h1 =>
    simp (disch := first | decide | omega | (simp only [List.length_cons, List.length_nil, List.length_append, length_bvs, List.length_take, List.length_drop]; omega)) only [go_sem, Nat.reduceAdd, Nat.reduceMul, Nat.reduceSub]
    all_goals with_reducible rfl
  case q1 =>
  refine xwp_seq ?_
  refine xwp_seq (xwp_region (e := ?e2) (s' := ?s2) base0 ?h2 ?q2)
  case h2 =>
    simp (disch := first | decide | omega | (simp only [List.length_cons, List.length_nil, List.length_append, length_bvs, List.length_take, List.length_drop]; omega)) only [lenB_gslV, one_gslV, htr, tk32 htr, at32 htr, bin_hash htr, dec_self, go_sem, Nat.reduceAdd, Nat.reduceMul, Nat.reduceSub]
    all_goals with_reducible rfl
  case q2 =>
  refine xwp_cf ?h3 ?q3
  case h3 =>
    simp (disch := first | decide | omega | (simp only [List.length_cons, List.length_nil, List.length_append, length_bvs, List.length_take, List.length_drop]; omega)) only [go_sem, Nat.reduceAdd, Nat.reduceMul, Nat.reduceSub]
    all_goals with_reducible rfl
  case q3 =>
  refine xwp_skip ?_
  have hnp := hc.np
  have hne := hc.ne
  refine xwp_seq ?_
  refine xwp_seq (xwp_region (e := ?e4) (s' := ?s4) base0 ?h4 ?q4)
  case h4 =>
    simp (disch := first | decide | omega | (simp only [List.length_cons, List.length_nil, List.length_append, length_bvs, List.length_take, List.length_drop]; omega)) only [go_sem, Nat.reduceAdd, Nat.reduceMul, Nat.reduceSub]
    all_goals with_reducible rfl
  case q4 =>
  refine xwp_block ?_
  refine xwp_le (chle_lit (F' := [(2, some (.pointer (some ⟨0, 0, none⟩))), (3, some (.pointer (some ⟨1, 0, none⟩))), (4, some (.bool false)), (5, some (.int .i64 ((0 : Nat) : Int)))]) (L' := [(0, some (.cells (gslV (rowB c.parents) c.parents.length :: gslV (rowE c.edits) c.edits.length :: (bvs c.tree ++ [.string (str c.text)])) 34 (0, 0))), (1, some (.cells (gslV (rowB c.parents) c.parents.length :: gslV (rowE c.edits) c.edits.length :: (bvs c.tree ++ [.string (str c.text)])) 34 (0, 0)))]) (n' := 2) (lg' := []) (nl' := 0) (by simp (disch := decide) [AllLk, lk_hit, lk_miss, lk_nil]) (by simp (disch := decide) [AllLk, lk_hit, lk_miss, lk_nil]) (by decide)) ?_
  refine xwp_loop (α := Upto c.parents.length) (fun x => ⟨frm [(2, some (.pointer (some ⟨0, 0, none⟩))), (3, some (.pointer (some ⟨1, 0, none⟩))), (4, some (.bool false)), (5, some (.int .i64 (x.i : Int)))], wd [(0, some (.cells (gslV (rowB c.parents) c.parents.length :: gslV (rowE c.edits) c.edits.length :: (bvs c.tree ++ [.string (str c.text)])) 34 (0, 0))), (1, some (.cells (gslV (rowB c.parents) c.parents.length :: gslV (rowE c.edits) c.edits.length :: (bvs c.tree ++ [.string (str c.text)])) 34 (0, 0)))] 2 [] 0, []⟩) (fun x => c.parents.length - x.i) ?_ ⟨0, Nat.zero_le _⟩
  intro ⟨i, hi⟩
  simp only
  refine xwp_seq ?_
  by_cases hlt : i < c.parents.length
  · refine xwp_seq (xwp_region (e := ?e5) (s' := ?s5) base0 ?h5 ?q5)
    case h5 =>
      simp (disch := first | decide | omega | (simp only [List.length_cons, List.length_nil, List.length_append, length_bvs, List.length_take, List.length_drop]; omega)) only [lenB_gslV, go_sem, Nat.reduceAdd, Nat.reduceMul, Nat.reduceSub]
      all_goals with_reducible rfl
    case q5 =>
    refine xwp_ct ?h6 ?q6
    case h6 =>
      simp (disch := first | decide | omega | (simp only [List.length_cons, List.length_nil, List.length_append, length_bvs, List.length_take, List.length_drop]; omega)) only [go_sem, Nat.reduceAdd, Nat.reduceMul, Nat.reduceSub]
      all_goals with_reducible rfl
    case q6 =>
    refine xwp_skip ?_
    refine xwp_seq (xwp_block ?_)
    have hh : (c.parents[i]).length = 32 := hc.p _ (List.getElem_mem hlt)
    refine xwp_drawn_to base0 ⟨frm [(2, some (.pointer (some ⟨0, 0, none⟩))), (3, some (.pointer (some ⟨1, 0, none⟩))), (4, some (.bool false)), (5, some (.int .i64 (i : Int))), (58, some (.bool false))], wd [(0, some (.cells (gslV (rowB c.parents) c.parents.length :: gslV (rowE c.edits) c.edits.length :: (bvs c.tree ++ [.string (str c.text)])) 34 (0, 0))), (1, some (.cells (gslV (rowB c.parents) c.parents.length :: gslV (rowE c.edits) c.edits.length :: (bvs c.tree ++ [.string (str c.text)])) 34 (0, 0)))] 2 [] 0, []⟩ ?hdp ?qdp
    case hdp =>
      refine ⟨?rspx, ?spx, ?hpx, ?kpx, ?lpx⟩
      case hpx =>
        simp (disch := first | decide | omega | (simp only [List.length_cons, List.length_nil, List.length_append, length_bvs, List.length_take, List.length_drop]; omega)) only [traceX.eq_1, traceX.eq_2, trc1.eq_1, trcK.eq_1, trcK.eq_2, traceD_nil, traceD_t, traceD_f, holeK.eq_1, holeK.eq_2, iad_gslV hlt, iadZ.eq_1, load_FP, rowB_at hc.p hlt, hh, bin_hash hh, go_sem, Nat.reduceAdd, Nat.reduceMul, Nat.reduceSub]
        all_goals with_reducible rfl
      case kpx => kernel_rfl
      case lpx => exact chle_lit (by simp (disch := decide) [AllLk, lk_hit, lk_miss, lk_nil]) (by simp (disch := decide) [AllLk, lk_hit, lk_miss, lk_nil]) (by decide)
    case qdp =>
    refine xwp_cf ?h7 ?q7
    case h7 =>
      simp (disch := first | decide | omega | (simp only [List.length_cons, List.length_nil, List.length_append, length_bvs, List.length_take, List.length_drop]; omega)) only [go_sem, Nat.reduceAdd, Nat.reduceMul, Nat.reduceSub]
      all_goals with_reducible rfl
    case q7 =>
    refine xwp_skip ?_
    show XWp _ _ _ _ _ _
    refine xwp_region (e := ?e8) (s' := ?s8) base0 ?h8 ?q8
    case h8 =>
      simp (disch := first | decide | omega | (simp only [List.length_cons, List.length_nil, List.length_append, length_bvs, List.length_take, List.length_drop]; omega)) only [go_sem, Nat.reduceAdd, Nat.reduceMul, Nat.reduceSub]
      all_goals with_reducible rfl
    case q8 =>
    exact ⟨⟨i + 1, hlt⟩, by simp only; omega, chle_lit (by simp (disch := decide) [AllLk, lk_hit, lk_miss, lk_nil]) (by simp (disch := decide) [AllLk, lk_hit, lk_miss, lk_nil]) (by decide)⟩
  refine xwp_seq (xwp_region (e := ?e9) (s' := ?s9) base0 ?h9 ?q9)
  case h9 =>
    simp (disch := first | decide | omega | (simp only [List.length_cons, List.length_nil, List.length_append, length_bvs, List.length_take, List.length_drop]; omega)) only [lenB_gslV, go_sem, Nat.reduceAdd, Nat.reduceMul, Nat.reduceSub]
    all_goals with_reducible rfl
  case q9 =>
  refine xwp_cf ?h10 ?q10
  case h10 =>
    simp (disch := first | decide | omega | (simp only [List.length_cons, List.length_nil, List.length_append, length_bvs, List.length_take, List.length_drop]; omega)) only [go_sem, Nat.reduceAdd, Nat.reduceMul, Nat.reduceSub]
    all_goals with_reducible rfl
  case q10 =>
  refine xwp_exit ?_
  show XWp _ _ _ _ _ _
  refine xwp_le (chle_lit (F' := [(2, some (.pointer (some ⟨0, 0, none⟩))), (3, some (.pointer (some ⟨1, 0, none⟩))), (4, some (.bool false))]) (L' := [(0, some (.cells (gslV (rowB c.parents) c.parents.length :: gslV (rowE c.edits) c.edits.length :: (bvs c.tree ++ [.string (str c.text)])) 34 (0, 0))), (1, some (.cells (gslV (rowB c.parents) c.parents.length :: gslV (rowE c.edits) c.edits.length :: (bvs c.tree ++ [.string (str c.text)])) 34 (0, 0)))]) (n' := 2) (lg' := []) (nl' := 0) (by simp (disch := decide) [AllLk, lk_hit, lk_miss, lk_nil]) (by simp (disch := decide) [AllLk, lk_hit, lk_miss, lk_nil]) (by decide)) ?_
  clear hlt hi
  clear i
  refine xwp_seq ?_
  refine xwp_seq (xwp_region (e := ?e11) (s' := ?s11) base0 ?h11 ?q11)
  case h11 =>
    simp (disch := first | decide | omega | (simp only [List.length_cons, List.length_nil, List.length_append, length_bvs, List.length_take, List.length_drop]; omega)) only [go_sem, Nat.reduceAdd, Nat.reduceMul, Nat.reduceSub]
    all_goals with_reducible rfl
  case q11 =>
  refine xwp_block ?_
  refine xwp_le (chle_lit (F' := [(2, some (.pointer (some ⟨0, 0, none⟩))), (3, some (.pointer (some ⟨1, 0, none⟩))), (4, some (.bool false)), (6, some (.int .i64 ((0 : Nat) : Int)))]) (L' := [(0, some (.cells (gslV (rowB c.parents) c.parents.length :: gslV (rowE c.edits) c.edits.length :: (bvs c.tree ++ [.string (str c.text)])) 34 (0, 0))), (1, some (.cells (gslV (rowB c.parents) c.parents.length :: gslV (rowE c.edits) c.edits.length :: (bvs c.tree ++ [.string (str c.text)])) 34 (0, 0)))]) (n' := 2) (lg' := []) (nl' := 0) (by simp (disch := decide) [AllLk, lk_hit, lk_miss, lk_nil]) (by simp (disch := decide) [AllLk, lk_hit, lk_miss, lk_nil]) (by decide)) ?_
  refine xwp_loop (α := Upto c.edits.length) (fun x => ⟨frm [(2, some (.pointer (some ⟨0, 0, none⟩))), (3, some (.pointer (some ⟨1, 0, none⟩))), (4, some (.bool false)), (6, some (.int .i64 (x.i : Int)))], wd [(0, some (.cells (gslV (rowB c.parents) c.parents.length :: gslV (rowE c.edits) c.edits.length :: (bvs c.tree ++ [.string (str c.text)])) 34 (0, 0))), (1, some (.cells (gslV (rowB c.parents) c.parents.length :: gslV (rowE c.edits) c.edits.length :: (bvs c.tree ++ [.string (str c.text)])) 34 (0, 0)))] 2 [] 0, []⟩) (fun x => c.edits.length - x.i) ?_ ⟨0, Nat.zero_le _⟩
  intro ⟨k, hk⟩
  simp only
  refine xwp_seq ?_
  by_cases hlt : k < c.edits.length
  case neg =>
    refine xwp_seq (xwp_region (e := ?e12) (s' := ?s12) base0 ?h12 ?q12)
    case h12 =>
      simp (disch := first | decide | omega | (simp only [List.length_cons, List.length_nil, List.length_append, length_bvs, List.length_take, List.length_drop]; omega)) only [lenB_gslV, go_sem, Nat.reduceAdd, Nat.reduceMul, Nat.reduceSub]
      all_goals with_reducible rfl
    case q12 =>
    refine xwp_cf ?h13 ?q13
    case h13 =>
      simp (disch := first | decide | omega | (simp only [List.length_cons, List.length_nil, List.length_append, length_bvs, List.length_take, List.length_drop]; omega)) only [go_sem, Nat.reduceAdd, Nat.reduceMul, Nat.reduceSub]
      all_goals with_reducible rfl
    case q13 =>
    refine xwp_exit ?_
    show XWp _ _ _ _ _ _
    refine xwp_seq (xwp_region (e := ?e14) (s' := ?s14) base0 ?h14 ?q14)
    case h14 =>
      simp (disch := first | decide | omega | (simp only [List.length_cons, List.length_nil, List.length_append, length_bvs, List.length_take, List.length_drop]; omega)) only [go_sem, Nat.reduceAdd, Nat.reduceMul, Nat.reduceSub]
      all_goals with_reducible rfl
    case q14 =>
    refine xwp_ret ?_
    refine ⟨_, ?e15, ?W15, rfl, ?h15, ?q15⟩
    case h15 =>
      simp (disch := first | decide | omega | (simp only [List.length_cons, List.length_nil, List.length_append, length_bvs, List.length_take, List.length_drop]; omega)) only [Tryz.results10, go_sem, Nat.reduceAdd, Nat.reduceMul, Nat.reduceSub]
      all_goals with_reducible rfl
    case q15 =>
    rfl
  refine xwp_seq (xwp_region (e := ?e16) (s' := ?s16) base0 ?h16 ?q16)
  case h16 =>
    simp (disch := first | decide | omega | (simp only [List.length_cons, List.length_nil, List.length_append, length_bvs, List.length_take, List.length_drop]; omega)) only [lenB_gslV, go_sem, Nat.reduceAdd, Nat.reduceMul, Nat.reduceSub]
    all_goals with_reducible rfl
  case q16 =>
  refine xwp_ct ?h17 ?q17
  case h17 =>
    simp (disch := first | decide | omega | (simp only [List.length_cons, List.length_nil, List.length_append, length_bvs, List.length_take, List.length_drop]; omega)) only [go_sem, Nat.reduceAdd, Nat.reduceMul, Nat.reduceSub]
    all_goals with_reducible rfl
  case q17 =>
  refine xwp_skip ?_
  refine xwp_seq (xwp_block ?_)
  obtain ⟨e, he⟩ : ∃ e, e = c.edits[k] := ⟨_, rfl⟩
  have hoe : OkE e := by rw [he]; exact hc.e _ (List.getElem_mem hlt)
  have hrow := rowE_at hlt
  rw [← he] at hrow
  have hes := hoe.s
  have hep := hoe.p
  refine xwp_seq (xwp_region (e := ?e18) (s' := ?s18) base0 ?h18 ?q18)
  case h18 =>
    simp (disch := first | decide | omega | (simp only [List.length_cons, List.length_nil, List.length_append, length_bvs, List.length_take, List.length_drop]; omega)) only [iad_gslV hlt, iadZ.eq_1, load_FP, hrow, encEdit, one_slV, go_sem, Nat.reduceAdd, Nat.reduceMul, Nat.reduceSub]
    all_goals with_reducible rfl
  case q18 =>
  refine xwp_seq (xwp_region (e := ?e19) (s' := ?s19) base0 ?h19 ?q19)
  case h19 =>
    simp (disch := first | decide | omega | (simp only [List.length_cons, List.length_nil, List.length_append, length_bvs, List.length_take, List.length_drop]; omega)) only [iad_gslV hlt, iadZ.eq_1, load_FP, hrow, encEdit, one_slV, go_sem, Nat.reduceAdd, Nat.reduceMul, Nat.reduceSub]
    all_goals with_reducible rfl
  case q19 =>
  refine xwp_seq ?_
  refine xwp_seq (xwp_region (e := ?e20) (s' := ?s20) base0 ?h20 ?q20)
  case h20 =>
    simp (disch := first | decide | omega | (simp only [List.length_cons, List.length_nil, List.length_append, length_bvs, List.length_take, List.length_drop]; omega)) only [lenB_slV, one_slV, go_sem, Nat.reduceAdd, Nat.reduceMul, Nat.reduceSub]
    all_goals with_reducible rfl
  case q20 =>
  refine xwp_cf ?h21 ?q21
  case h21 =>
    simp (disch := first | decide | omega | (simp only [List.length_cons, List.length_nil, List.length_append, length_bvs, List.length_take, List.length_drop]; omega)) only [go_sem, Nat.reduceAdd, Nat.reduceMul, Nat.reduceSub]
    all_goals with_reducible rfl
  case q21 =>
  refine xwp_skip ?_
  refine xwp_seq ?_
  refine xwp_seq (xwp_region (e := ?e22) (s' := ?s22) base0 ?h22 ?q22)
  case h22 =>
    simp (disch := first | decide | omega | (simp only [List.length_cons, List.length_nil, List.length_append, length_bvs, List.length_take, List.length_drop]; omega)) only [go_sem, Nat.reduceAdd, Nat.reduceMul, Nat.reduceSub]
    all_goals with_reducible rfl
  case q22 =>
  refine xwp_block ?_
  refine xwp_le (chle_lit (F' := [(2, some (.pointer (some ⟨0, 0, none⟩))), (3, some (.pointer (some ⟨1, 0, none⟩))), (4, some (.bool false)), (6, some (.int .i64 (k : Int))), (7, some (.pointer (some ⟨2, 0, none⟩))), (8, some (.pointer (some ⟨3, 0, none⟩))), (9, some (.int .i64 ((0 : Nat) : Int)))]) (L' := [(0, some (.cells (gslV (rowB c.parents) c.parents.length :: gslV (rowE c.edits) c.edits.length :: (bvs c.tree ++ [.string (str c.text)])) 34 (0, 0))), (1, some (.cells (gslV (rowB c.parents) c.parents.length :: gslV (rowE c.edits) c.edits.length :: (bvs c.tree ++ [.string (str c.text)])) 34 (0, 0))), (2, some (.cells [.int .i64 e.kind, .int .i64 e.cell, .int .i64 e.dim, .int .i64 e.new, .int .i64 e.other, slV e.sides, slV e.pairs] 64 (0, 0))), (3, some (.cells [.int .i64 e.kind, .int .i64 e.cell, .int .i64 e.dim, .int .i64 e.new, .int .i64 e.other, slV e.sides, slV e.pairs] 64 (0, 0)))]) (n' := 4) (lg' := []) (nl' := 0) (by simp (disch := decide) [AllLk, lk_hit, lk_miss, lk_nil]) (by simp (disch := decide) [AllLk, lk_hit, lk_miss, lk_nil]) (by decide)) ?_
  refine xwp_loop (α := Upto e.sides.length) (fun j => ⟨frm [(2, some (.pointer (some ⟨0, 0, none⟩))), (3, some (.pointer (some ⟨1, 0, none⟩))), (4, some (.bool false)), (6, some (.int .i64 (k : Int))), (7, some (.pointer (some ⟨2, 0, none⟩))), (8, some (.pointer (some ⟨3, 0, none⟩))), (9, some (.int .i64 (j.i : Int)))], wd [(0, some (.cells (gslV (rowB c.parents) c.parents.length :: gslV (rowE c.edits) c.edits.length :: (bvs c.tree ++ [.string (str c.text)])) 34 (0, 0))), (1, some (.cells (gslV (rowB c.parents) c.parents.length :: gslV (rowE c.edits) c.edits.length :: (bvs c.tree ++ [.string (str c.text)])) 34 (0, 0))), (2, some (.cells [.int .i64 e.kind, .int .i64 e.cell, .int .i64 e.dim, .int .i64 e.new, .int .i64 e.other, slV e.sides, slV e.pairs] 64 (0, 0))), (3, some (.cells [.int .i64 e.kind, .int .i64 e.cell, .int .i64 e.dim, .int .i64 e.new, .int .i64 e.other, slV e.sides, slV e.pairs] 64 (0, 0)))] 4 [] 0, []⟩) (fun j => e.sides.length - j.i) ?_ ⟨0, Nat.zero_le _⟩
  intro ⟨j, hj⟩
  simp only
  refine xwp_seq ?_
  by_cases hltj : j < e.sides.length
  · refine xwp_seq (xwp_region (e := ?e23) (s' := ?s23) base0 ?h23 ?q23)
    case h23 =>
      simp (disch := first | decide | omega | (simp only [List.length_cons, List.length_nil, List.length_append, length_bvs, List.length_take, List.length_drop]; omega)) only [lenB_slV, go_sem, Nat.reduceAdd, Nat.reduceMul, Nat.reduceSub]
      all_goals with_reducible rfl
    case q23 =>
    refine xwp_ct ?h24 ?q24
    case h24 =>
      simp (disch := first | decide | omega | (simp only [List.length_cons, List.length_nil, List.length_append, length_bvs, List.length_take, List.length_drop]; omega)) only [go_sem, Nat.reduceAdd, Nat.reduceMul, Nat.reduceSub]
      all_goals with_reducible rfl
    case q24 =>
    refine xwp_skip ?_
    refine xwp_seq (xwp_block ?_)
    refine xwp_drawn_to base0 ⟨frm [(2, some (.pointer (some ⟨0, 0, none⟩))), (3, some (.pointer (some ⟨1, 0, none⟩))), (4, some (.bool false)), (6, some (.int .i64 (k : Int))), (7, some (.pointer (some ⟨2, 0, none⟩))), (8, some (.pointer (some ⟨3, 0, none⟩))), (9, some (.int .i64 (j : Int))), (144, some (.bool false))], wd [(0, some (.cells (gslV (rowB c.parents) c.parents.length :: gslV (rowE c.edits) c.edits.length :: (bvs c.tree ++ [.string (str c.text)])) 34 (0, 0))), (1, some (.cells (gslV (rowB c.parents) c.parents.length :: gslV (rowE c.edits) c.edits.length :: (bvs c.tree ++ [.string (str c.text)])) 34 (0, 0))), (2, some (.cells [.int .i64 e.kind, .int .i64 e.cell, .int .i64 e.dim, .int .i64 e.new, .int .i64 e.other, slV e.sides, slV e.pairs] 64 (0, 0))), (3, some (.cells [.int .i64 e.kind, .int .i64 e.cell, .int .i64 e.dim, .int .i64 e.new, .int .i64 e.other, slV e.sides, slV e.pairs] 64 (0, 0)))] 4 [] 0, []⟩ ?hds ?qds
    case hds =>
      refine ⟨?rssx, ?ssx, ?hsx, ?ksx, ?lsx⟩
      case hsx =>
        simp (disch := first | decide | omega | (simp only [List.length_cons, List.length_nil, List.length_append, length_bvs, List.length_take, List.length_drop]; omega)) only [traceX.eq_1, traceX.eq_2, trc1.eq_1, trcK.eq_1, trcK.eq_2, traceD_nil, traceD_t, traceD_f, holeK.eq_1, holeK.eq_2, iad_slV hltj, iadZ.eq_1, load_FP, rowV_at hltj, bin_side, bin_twoI, go_sem, Nat.reduceAdd, Nat.reduceMul, Nat.reduceSub]
        all_goals with_reducible rfl
      case ksx => kernel_rfl
      case lsx => exact chle_lit (by simp (disch := decide) [AllLk, lk_hit, lk_miss, lk_nil]) (by simp (disch := decide) [AllLk, lk_hit, lk_miss, lk_nil]) (by decide)
    case qds =>
    refine xwp_cf ?h25 ?q25
    case h25 =>
      simp (disch := first | decide | omega | (simp only [List.length_cons, List.length_nil, List.length_append, length_bvs, List.length_take, List.length_drop]; omega)) only [go_sem, Nat.reduceAdd, Nat.reduceMul, Nat.reduceSub]
      all_goals with_reducible rfl
    case q25 =>
    refine xwp_skip ?_
    show XWp _ _ _ _ _ _
    refine xwp_region (e := ?e26) (s' := ?s26) base0 ?h26 ?q26
    case h26 =>
      simp (disch := first | decide | omega | (simp only [List.length_cons, List.length_nil, List.length_append, length_bvs, List.length_take, List.length_drop]; omega)) only [go_sem, Nat.reduceAdd, Nat.reduceMul, Nat.reduceSub]
      all_goals with_reducible rfl
    case q26 =>
    refine ⟨⟨j + 1, hltj⟩, by simp only; omega, chle_lit (by simp (disch := decide) [AllLk, lk_hit, lk_miss, lk_nil]) (by simp (disch := decide) [AllLk, lk_hit, lk_miss, lk_nil]) (by decide)⟩
  have hjn : j = e.sides.length := by omega
  refine xwp_seq (xwp_region (e := ?e27) (s' := ?s27) base0 ?h27 ?q27)
  case h27 =>
    simp (disch := first | decide | omega | (simp only [List.length_cons, List.length_nil, List.length_append, length_bvs, List.length_take, List.length_drop]; omega)) only [lenB_slV, go_sem, Nat.reduceAdd, Nat.reduceMul, Nat.reduceSub]
    all_goals with_reducible rfl
  case q27 =>
  refine xwp_cf ?h28 ?q28
  case h28 =>
    simp (disch := first | decide | omega | (simp only [List.length_cons, List.length_nil, List.length_append, length_bvs, List.length_take, List.length_drop]; omega)) only [go_sem, Nat.reduceAdd, Nat.reduceMul, Nat.reduceSub]
    all_goals with_reducible rfl
  case q28 =>
  refine xwp_exit ?_
  show XWp _ _ _ _ _ _
  refine xwp_le (chle_lit (F' := [(2, some (.pointer (some ⟨0, 0, none⟩))), (3, some (.pointer (some ⟨1, 0, none⟩))), (4, some (.bool false)), (6, some (.int .i64 (k : Int))), (7, some (.pointer (some ⟨2, 0, none⟩))), (8, some (.pointer (some ⟨3, 0, none⟩)))]) (L' := [(0, some (.cells (gslV (rowB c.parents) c.parents.length :: gslV (rowE c.edits) c.edits.length :: (bvs c.tree ++ [.string (str c.text)])) 34 (0, 0))), (1, some (.cells (gslV (rowB c.parents) c.parents.length :: gslV (rowE c.edits) c.edits.length :: (bvs c.tree ++ [.string (str c.text)])) 34 (0, 0))), (2, some (.cells [.int .i64 e.kind, .int .i64 e.cell, .int .i64 e.dim, .int .i64 e.new, .int .i64 e.other, slV e.sides, slV e.pairs] 64 (0, 0))), (3, some (.cells [.int .i64 e.kind, .int .i64 e.cell, .int .i64 e.dim, .int .i64 e.new, .int .i64 e.other, slV e.sides, slV e.pairs] 64 (0, 0)))]) (n' := 4) (lg' := []) (nl' := 0) (by simp (disch := decide) [AllLk, lk_hit, lk_miss, lk_nil]) (by simp (disch := decide) [AllLk, lk_hit, lk_miss, lk_nil]) (by decide)) ?_
  clear hjn hltj hj
  clear j
  refine xwp_seq (xwp_region (e := ?e29) (s' := ?s29) base0 ?h29 ?q29)
  case h29 =>
    simp (disch := first | decide | omega | (simp only [List.length_cons, List.length_nil, List.length_append, length_bvs, List.length_take, List.length_drop]; omega)) only [go_sem, Nat.reduceAdd, Nat.reduceMul, Nat.reduceSub]
    all_goals with_reducible rfl
  case q29 =>
  refine xwp_block ?_
  refine xwp_le (chle_lit (F' := [(2, some (.pointer (some ⟨0, 0, none⟩))), (3, some (.pointer (some ⟨1, 0, none⟩))), (4, some (.bool false)), (6, some (.int .i64 (k : Int))), (7, some (.pointer (some ⟨2, 0, none⟩))), (8, some (.pointer (some ⟨3, 0, none⟩))), (10, some (.int .i64 ((0 : Nat) : Int)))]) (L' := [(0, some (.cells (gslV (rowB c.parents) c.parents.length :: gslV (rowE c.edits) c.edits.length :: (bvs c.tree ++ [.string (str c.text)])) 34 (0, 0))), (1, some (.cells (gslV (rowB c.parents) c.parents.length :: gslV (rowE c.edits) c.edits.length :: (bvs c.tree ++ [.string (str c.text)])) 34 (0, 0))), (2, some (.cells [.int .i64 e.kind, .int .i64 e.cell, .int .i64 e.dim, .int .i64 e.new, .int .i64 e.other, slV e.sides, slV e.pairs] 64 (0, 0))), (3, some (.cells [.int .i64 e.kind, .int .i64 e.cell, .int .i64 e.dim, .int .i64 e.new, .int .i64 e.other, slV e.sides, slV e.pairs] 64 (0, 0)))]) (n' := 4) (lg' := []) (nl' := 0) (by simp (disch := decide) [AllLk, lk_hit, lk_miss, lk_nil]) (by simp (disch := decide) [AllLk, lk_hit, lk_miss, lk_nil]) (by decide)) ?_
  refine xwp_loop (α := Upto e.pairs.length) (fun j => ⟨frm [(2, some (.pointer (some ⟨0, 0, none⟩))), (3, some (.pointer (some ⟨1, 0, none⟩))), (4, some (.bool false)), (6, some (.int .i64 (k : Int))), (7, some (.pointer (some ⟨2, 0, none⟩))), (8, some (.pointer (some ⟨3, 0, none⟩))), (10, some (.int .i64 (j.i : Int)))], wd [(0, some (.cells (gslV (rowB c.parents) c.parents.length :: gslV (rowE c.edits) c.edits.length :: (bvs c.tree ++ [.string (str c.text)])) 34 (0, 0))), (1, some (.cells (gslV (rowB c.parents) c.parents.length :: gslV (rowE c.edits) c.edits.length :: (bvs c.tree ++ [.string (str c.text)])) 34 (0, 0))), (2, some (.cells [.int .i64 e.kind, .int .i64 e.cell, .int .i64 e.dim, .int .i64 e.new, .int .i64 e.other, slV e.sides, slV e.pairs] 64 (0, 0))), (3, some (.cells [.int .i64 e.kind, .int .i64 e.cell, .int .i64 e.dim, .int .i64 e.new, .int .i64 e.other, slV e.sides, slV e.pairs] 64 (0, 0)))] 4 [] 0, []⟩) (fun j => e.pairs.length - j.i) ?_ ⟨0, Nat.zero_le _⟩
  intro ⟨j, hj⟩
  simp only
  refine xwp_seq ?_
  by_cases hltj : j < e.pairs.length
  · refine xwp_seq (xwp_region (e := ?e30) (s' := ?s30) base0 ?h30 ?q30)
    case h30 =>
      simp (disch := first | decide | omega | (simp only [List.length_cons, List.length_nil, List.length_append, length_bvs, List.length_take, List.length_drop]; omega)) only [lenB_slV, go_sem, Nat.reduceAdd, Nat.reduceMul, Nat.reduceSub]
      all_goals with_reducible rfl
    case q30 =>
    refine xwp_ct ?h31 ?q31
    case h31 =>
      simp (disch := first | decide | omega | (simp only [List.length_cons, List.length_nil, List.length_append, length_bvs, List.length_take, List.length_drop]; omega)) only [go_sem, Nat.reduceAdd, Nat.reduceMul, Nat.reduceSub]
      all_goals with_reducible rfl
    case q31 =>
    refine xwp_skip ?_
    refine xwp_seq (xwp_block ?_)
    refine xwp_drawn_to base0 ⟨frm [(2, some (.pointer (some ⟨0, 0, none⟩))), (3, some (.pointer (some ⟨1, 0, none⟩))), (4, some (.bool false)), (6, some (.int .i64 (k : Int))), (7, some (.pointer (some ⟨2, 0, none⟩))), (8, some (.pointer (some ⟨3, 0, none⟩))), (10, some (.int .i64 (j : Int))), (162, some (.bool false))], wd [(0, some (.cells (gslV (rowB c.parents) c.parents.length :: gslV (rowE c.edits) c.edits.length :: (bvs c.tree ++ [.string (str c.text)])) 34 (0, 0))), (1, some (.cells (gslV (rowB c.parents) c.parents.length :: gslV (rowE c.edits) c.edits.length :: (bvs c.tree ++ [.string (str c.text)])) 34 (0, 0))), (2, some (.cells [.int .i64 e.kind, .int .i64 e.cell, .int .i64 e.dim, .int .i64 e.new, .int .i64 e.other, slV e.sides, slV e.pairs] 64 (0, 0))), (3, some (.cells [.int .i64 e.kind, .int .i64 e.cell, .int .i64 e.dim, .int .i64 e.new, .int .i64 e.other, slV e.sides, slV e.pairs] 64 (0, 0)))] 4 [] 0, []⟩ ?hdw ?qdw
    case hdw =>
      refine ⟨?rswx, ?swx, ?hwx, ?kwx, ?lwx⟩
      case hwx =>
        simp (disch := first | decide | omega | (simp only [List.length_cons, List.length_nil, List.length_append, length_bvs, List.length_take, List.length_drop]; omega)) only [traceX.eq_1, traceX.eq_2, trc1.eq_1, trcK.eq_1, trcK.eq_2, traceD_nil, traceD_t, traceD_f, holeK.eq_1, holeK.eq_2, iad_slV hltj, iadZ.eq_1, load_FP, rowV_at hltj, bin_side, bin_twoI, go_sem, Nat.reduceAdd, Nat.reduceMul, Nat.reduceSub]
        all_goals with_reducible rfl
      case kwx => kernel_rfl
      case lwx => exact chle_lit (by simp (disch := decide) [AllLk, lk_hit, lk_miss, lk_nil]) (by simp (disch := decide) [AllLk, lk_hit, lk_miss, lk_nil]) (by decide)
    case qdw =>
    refine xwp_cf ?h32 ?q32
    case h32 =>
      simp (disch := first | decide | omega | (simp only [List.length_cons, List.length_nil, List.length_append, length_bvs, List.length_take, List.length_drop]; omega)) only [go_sem, Nat.reduceAdd, Nat.reduceMul, Nat.reduceSub]
      all_goals with_reducible rfl
    case q32 =>
    refine xwp_skip ?_
    show XWp _ _ _ _ _ _
    refine xwp_region (e := ?e33) (s' := ?s33) base0 ?h33 ?q33
    case h33 =>
      simp (disch := first | decide | omega | (simp only [List.length_cons, List.length_nil, List.length_append, length_bvs, List.length_take, List.length_drop]; omega)) only [go_sem, Nat.reduceAdd, Nat.reduceMul, Nat.reduceSub]
      all_goals with_reducible rfl
    case q33 =>
    refine ⟨⟨j + 1, hltj⟩, by simp only; omega, chle_lit (by simp (disch := decide) [AllLk, lk_hit, lk_miss, lk_nil]) (by simp (disch := decide) [AllLk, lk_hit, lk_miss, lk_nil]) (by decide)⟩
  have hjn : j = e.pairs.length := by omega
  refine xwp_seq (xwp_region (e := ?e34) (s' := ?s34) base0 ?h34 ?q34)
  case h34 =>
    simp (disch := first | decide | omega | (simp only [List.length_cons, List.length_nil, List.length_append, length_bvs, List.length_take, List.length_drop]; omega)) only [lenB_slV, go_sem, Nat.reduceAdd, Nat.reduceMul, Nat.reduceSub]
    all_goals with_reducible rfl
  case q34 =>
  refine xwp_cf ?h35 ?q35
  case h35 =>
    simp (disch := first | decide | omega | (simp only [List.length_cons, List.length_nil, List.length_append, length_bvs, List.length_take, List.length_drop]; omega)) only [go_sem, Nat.reduceAdd, Nat.reduceMul, Nat.reduceSub]
    all_goals with_reducible rfl
  case q35 =>
  refine xwp_exit ?_
  show XWp _ _ _ _ _ _
  refine xwp_le (chle_lit (F' := [(2, some (.pointer (some ⟨0, 0, none⟩))), (3, some (.pointer (some ⟨1, 0, none⟩))), (4, some (.bool false)), (6, some (.int .i64 (k : Int))), (7, some (.pointer (some ⟨2, 0, none⟩))), (8, some (.pointer (some ⟨3, 0, none⟩)))]) (L' := [(0, some (.cells (gslV (rowB c.parents) c.parents.length :: gslV (rowE c.edits) c.edits.length :: (bvs c.tree ++ [.string (str c.text)])) 34 (0, 0))), (1, some (.cells (gslV (rowB c.parents) c.parents.length :: gslV (rowE c.edits) c.edits.length :: (bvs c.tree ++ [.string (str c.text)])) 34 (0, 0))), (2, some (.cells [.int .i64 e.kind, .int .i64 e.cell, .int .i64 e.dim, .int .i64 e.new, .int .i64 e.other, slV e.sides, slV e.pairs] 64 (0, 0))), (3, some (.cells [.int .i64 e.kind, .int .i64 e.cell, .int .i64 e.dim, .int .i64 e.new, .int .i64 e.other, slV e.sides, slV e.pairs] 64 (0, 0)))]) (n' := 4) (lg' := []) (nl' := 0) (by simp (disch := decide) [AllLk, lk_hit, lk_miss, lk_nil]) (by simp (disch := decide) [AllLk, lk_hit, lk_miss, lk_nil]) (by decide)) ?_
  clear hjn hltj hj
  clear j
  refine xwp_region (e := ?e36) (s' := ?s36) base0 ?h36 ?q36
  case h36 =>
    simp (disch := first | decide | omega | (simp only [List.length_cons, List.length_nil, List.length_append, length_bvs, List.length_take, List.length_drop]; omega)) only [go_sem, Nat.reduceAdd, Nat.reduceMul, Nat.reduceSub]
    all_goals with_reducible rfl
  case q36 =>
  refine ⟨⟨k + 1, hlt⟩, by simp only; omega, ?_⟩
  have hbc : Bares (gslV (rowB c.parents) c.parents.length :: gslV (rowE c.edits) c.edits.length :: (bvs c.tree ++ [.string (str c.text)])) := bares_cons (bare_gslV (bares_rowB _) _) (bares_cons (bare_gslV (bares_rowE _) _) (bares_append (bares_bvs _) (bares_cons bare_str bares_nil)))
  exact chle_ren_lit [(0, some 0), (1, some 1)] [(0, some 0), (1, some 1)] (by decide) (by decide) (by decide)
    (allTv_cons (v := .pointer (some ⟨0, 0, none⟩)) (by decide) (by simp (disch := first | decide | omega) only [lk_hit, lk_miss]) (tv_ptr (by simp (disch := first | decide | omega) only [lk_hit, lk_miss])) (allTv_cons (v := .pointer (some ⟨1, 0, none⟩)) (by decide) (by simp (disch := first | decide | omega) only [lk_hit, lk_miss]) (tv_ptr (by simp (disch := first | decide | omega) only [lk_hit, lk_miss])) (allTv_cons (v := .bool false) (by decide) (by simp (disch := first | decide | omega) only [lk_hit, lk_miss]) (tv_flat 1 rfl)
      (allTv_cons (v := .int .i64 ((k + 1 : Nat) : Int)) (by decide) (by simp (disch := first | decide | omega) only [lk_hit, lk_miss]) (tv_flat 1 rfl) allTv_nil))))
    (allTo_cons (o := .cells (gslV (rowB c.parents) c.parents.length :: gslV (rowE c.edits) c.edits.length :: (bvs c.tree ++ [.string (str c.text)])) 34 (0, 0)) 0 (by simp (disch := first | decide | omega) only [lk_hit, lk_miss]) (by decide) (by decide) (by simp (disch := first | decide | omega) only [lk_hit, lk_miss]) (to_bareO names_fz (bareO_bares hbc))
    (allTo_cons (o := .cells (gslV (rowB c.parents) c.parents.length :: gslV (rowE c.edits) c.edits.length :: (bvs c.tree ++ [.string (str c.text)])) 34 (0, 0)) 1 (by simp (disch := first | decide | omega) only [lk_hit, lk_miss]) (by decide) (by decide) (by simp (disch := first | decide | omega) only [lk_hit, lk_miss]) (to_bareO names_fz (bareO_bares hbc)) allTo_nil)) .nil
end Go.Proofs.YthlkgmdkabelpaaGreatDoor.X
