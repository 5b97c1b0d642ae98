/-
  Commits encoded by the reference: numbers.
  Commits encoded by the reference: what can be encoded.
  Commits encoded by the reference: Encode itself.
  Commits encoded: the writer and its row, as a caller sees them.
  Commits encoded: methods of the writer that take a slice.
  Commits encoded: methods of the writer that change nothing.
  Commits encoded: the builder's methods.
  Commits encoded: Write, and the hooks of the builder's methods.
  Commits encoded: the writer's numbers.
  Commits encoded: the writer's many and hash.
  Commits encoded: the writer's codes.
  Commits encoded: the builder's String, after which the writer is used no more.
  Commits encoded: the first byte of a writer.
  Commits encoded: what can be encoded.
  Commits encoded: encodes.
  No condition.
-/
import Derived.Test.YthlkgmdkabelpaaGreatDoorKF
set_option linter.all false
set_option linter.unusedVariables false
set_option linter.unusedSimpArgs false
namespace Go.Proofs.YthlkgmdkabelpaaGreatDoor.X
open Go Go.RowKit
def pureK (W : XW) : Option Value → Option (XEnd × XW)
  | some v => some (.ret v, W)
  | none => none
def pureH (p : List Value → Option Value) : HF := fun args W => pureK W (p args)
theorem pureH_ok {P : Program} {f : FuncId} {p : List Value → Option Value} (he : Enters P f) (hb : ∀ xs v, p xs = some v → Bares xs ∧ Bare v) (hl : ∀ xs v, p xs = some v → Local P f xs (wd [] 0 [] 0) fun e W' => e = .ret v) : HookOk P f (pureH p) := by
  have key : ∀ args W e W', pureH p args W = some (e, W') → ∃ v, p args = some v ∧ e = .ret v ∧ W' = W := fun args W e W' h => by
    unfold pureH at h
    cases hp : p args with
    | none => rw [hp] at h; cases h
    | some v => rw [hp] at h; cases h; exact ⟨v, rfl, rfl, rfl⟩
  refine ⟨he, fun args W e W' h => ?_, fun args W e W' h => ?_⟩
  · obtain ⟨v, _, _, rfl⟩ := key _ _ _ _ h
    exact .refl _
  · obtain ⟨v, hp, rfl, rfl⟩ := key _ _ _ _ h
    exact call_bare (hb _ _ hp).1 (hl _ _ hp) (fun e' W' hS => hS) (hb _ _ hp).2
theorem pureH_eq {p : List Value → Option Value} {args : List Value} {W : XW} : pureH p args W = pureK W (p args) := rfl
/-! ### bytes of strings -/
theorem bytesOf_cons {n : Nat} {l : List Value} : bytesOf (.int .u8 ((n : Nat) : Int) :: l) = byteIn n (bytesOf l) := rfl
theorem bytesOf_bvs : ∀ l : List UInt8, bytesOf (bvs l) = some l
  | [] => rfl
  | b :: l => by
    have hb := b.toNat_lt
    show byteIn b.toNat (bytesOf (bvs l)) = _
    rw [bytesOf_bvs l]
    show (bif Nat.blt b.toNat 256 then some (UInt8.ofNat b.toNat :: l) else none) = _
    rw [blt_t hb]
    simp
theorem strO_some {l : List UInt8} : strO (some l) = some (.val (some (.string (str l)))) := rfl
/-! ### digits -/
def dU (n : Nat) : List UInt8 := if h : 128 ≤ n then UInt8.ofNat (n % 128 + 128) :: dU (n / 128) else [UInt8.ofNat n]
termination_by n
decreasing_by omega
theorem dU_big {n : Nat} (h : 128 ≤ n) : dU n = UInt8.ofNat (n % 128 + 128) :: dU (n / 128) := by rw [dU, dif_pos h]
theorem dU_small {n : Nat} (h : n < 128) : dU n = [UInt8.ofNat n] := by rw [dU, dif_neg (by omega)]
theorem dU_len : ∀ (k n : Nat), n < 128 ^ (k + 1) → (dU n).length ≤ k + 1
  | 0, n, h => by rw [dU_small (by omega)]; exact Nat.le_refl _
  | k + 1, n, h => by
    by_cases hn : 128 ≤ n
    · rw [dU_big hn, List.length_cons]
      have := dU_len k (n / 128) (by rw [Nat.pow_succ] at h; exact Nat.div_lt_of_lt_mul (by omega))
      omega
    · rw [dU_small (by omega)]; show 1 ≤ _; omega
theorem dU_len10 {n : Nat} (h : n < 18446744073709551616) : (dU n).length ≤ 10 := dU_len 9 n (by
  have : (128 : Nat) ^ (9 + 1) = 1180591620717411303424 := rfl
  omega)
structure DuS (n0 : Nat) where
  n : Nat
  acc : List UInt8
  hn : n < 18446744073709551616
  eq : acc ++ dU n = dU n0
theorem rDigitsLocal (n0 : Nat) (h0 : n0 < 18446744073709551616) : Local Tryz.prog 32 [.int .u64 (n0 : Int)] (wd [] 0 [] 0) fun e W' => e = .ret (.string (str (dU n0))) := by
  refine lit_local base0 Tryz.func32 rfl (Nat.le_of_ble_eq_true rfl) ?_
  simp only [frOfL.eq_1, frOfL.eq_2, wd_next, Tryz.ntmps32, Nat.reduceAdd]
  have h10 := dU_len10 h0
  refine xwp_seq (xwp_region (e := ?e1) (s' := ?s1) base0 ?h1 ?q1)
  case h1 =>
    simp (disch := first | decide | omega | (simp only [List.length_cons, List.length_nil, List.length_append, length_bvs, List.length_take, List.length_drop]; omega)) only [go_sem, Nat.reduceAdd, Nat.reduceMul, Nat.reduceSub]
    all_goals with_reducible rfl
  case q1 =>
  refine xwp_seq (xwp_region (e := ?e2) (s' := ?s2) base0 ?h2 ?q2)
  case h2 =>
    simp (disch := first | decide | omega | (simp only [List.length_cons, List.length_nil, List.length_append, length_bvs, List.length_take, List.length_drop]; omega)) only [go_sem, Nat.reduceAdd, Nat.reduceMul, Nat.reduceSub]
    all_goals with_reducible rfl
  case q2 =>
  refine xwp_seq (xwp_block ?_)
  refine xwp_le (chle_lit (F' := [(0, some (.int .u64 (n0 : Int))), (3, some (.string (str [])))]) (L' := []) (n' := 0) (lg' := []) (nl' := 0) (by simp (disch := decide) [AllLk, lk_hit, lk_miss, lk_nil]) (by simp [AllLk]) (by decide)) ?_
  refine xwp_loop (α := DuS n0) (fun x => ⟨frm [(0, some (.int .u64 (x.n : Int))), (3, some (.string (str x.acc)))], wd [] 0 [] 0, []⟩) (fun x => x.n) ?_ ⟨n0, [], h0, rfl⟩
  intro ⟨n, acc, hn, heq⟩
  simp only
  have hla : acc.length + (dU n).length ≤ 10 := by rw [← heq, List.length_append] at h10; exact h10
  refine xwp_seq ?_
  by_cases hb : 128 ≤ n
  · have hand : bitsI .and .u64 (n : Int) ((127 : Nat) : Int) = ((n % 128 : Nat) : Int) := by
      rw [bits_and .u64 rfl hn (by decide), show (127 : Nat) = 2 ^ 7 - 1 from rfl, Nat.and_two_pow_sub_one_eq_mod]
    refine xwp_seq (xwp_region (e := ?e3) (s' := ?s3) base0 ?h3 ?q3)
    case h3 =>
      simp (disch := first | decide | omega | (simp only [List.length_cons, List.length_nil, List.length_append, length_bvs, List.length_take, List.length_drop]; omega)) only [go_sem, Nat.reduceAdd, Nat.reduceMul, Nat.reduceSub]
      all_goals with_reducible rfl
    case q3 =>
    refine xwp_ct ?h4 ?q4
    case h4 =>
      simp (disch := first | decide | omega | (simp only [List.length_cons, List.length_nil, List.length_append, length_bvs, List.length_take, List.length_drop]; omega)) only [go_sem, Nat.reduceAdd, Nat.reduceMul, Nat.reduceSub]
      all_goals with_reducible rfl
    case q4 =>
    refine xwp_skip ?_
    refine xwp_block ?_
    refine xwp_seq (xwp_region (e := ?e5) (s' := ?s5) base0 ?h5 ?q5)
    case h5 =>
      simp (disch := first | decide | omega | (simp only [List.length_cons, List.length_nil, List.length_append, length_bvs, List.length_take, List.length_drop]; omega)) only [hand, bytesOf_cons, byteIn.eq_1, strO_some, bin_sadd, go_sem, Nat.reduceAdd, Nat.reduceMul, Nat.reduceSub]
      all_goals with_reducible rfl
    case q5 =>
    refine xwp_region (e := ?e6) (s' := ?s6) base0 ?h6 ?q6
    case h6 =>
      simp (disch := first | decide | omega | (simp only [List.length_cons, List.length_nil, List.length_append, length_bvs, List.length_take, List.length_drop]; omega)) only [go_sem, Nat.reduceAdd, Nat.reduceMul, Nat.reduceSub]
      all_goals with_reducible rfl
    case q6 =>
    have hd : n / 2 ^ 7 = n / 128 := rfl
    refine ⟨⟨n / 2 ^ 7, acc ++ [UInt8.ofNat (n % 128 + 128)], by omega, by rw [← heq, dU_big hb, hd]; simp⟩, by simp only; omega, ?_⟩
    exact chle_ren_lit [] [] (by decide) (by decide) (by decide)
      (allTv_cons (v := .int .u64 ((n / 2 ^ 7 : Nat) : Int)) (by decide) (by simp (disch := first | decide | omega) only [lk_hit, lk_miss]) (tv_flat 1 rfl) (allTv_cons (v := .string (str (acc ++ [UInt8.ofNat (n % 128 + 128)]))) (by decide) (by simp (disch := first | decide | omega) only [lk_hit, lk_miss]) (tv_flat 1 rfl) allTv_nil)) allTo_nil .nil
  · refine xwp_seq (xwp_region (e := ?e7) (s' := ?s7) base0 ?h7 ?q7)
    case h7 =>
      simp (disch := first | decide | omega | (simp only [List.length_cons, List.length_nil, List.length_append, length_bvs, List.length_take, List.length_drop]; omega)) only [go_sem, Nat.reduceAdd, Nat.reduceMul, Nat.reduceSub]
      all_goals with_reducible rfl
    case q7 =>
    refine xwp_cf ?h8 ?q8
    case h8 =>
      simp (disch := first | decide | omega | (simp only [List.length_cons, List.length_nil, List.length_append, length_bvs, List.length_take, List.length_drop]; omega)) only [go_sem, Nat.reduceAdd, Nat.reduceMul, Nat.reduceSub]
      all_goals with_reducible rfl
    case q8 =>
    refine xwp_exit ?_
    show XWp _ _ _ _ _ _
    rw [dU_small (by omega)] at heq hla
    rw [← heq]
    have hla : acc.length + 1 ≤ 10 := hla
    refine xwp_seq (xwp_region (e := ?e9) (s' := ?s9) base0 ?h9 ?q9)
    case h9 =>
      simp (disch := first | decide | omega | (simp only [List.length_cons, List.length_nil, List.length_append, length_bvs, List.length_take, List.length_drop]; omega)) only [bytesOf_cons, byteIn.eq_1, strO_some, bin_sadd, go_sem, Nat.reduceAdd, Nat.reduceMul, Nat.reduceSub]
      all_goals with_reducible rfl
    case q9 =>
    refine xwp_ret ?_
    refine ⟨_, ?e10, ?W10, rfl, ?h10, ?q10⟩
    case h10 =>
      simp (disch := first | decide | omega | (simp only [List.length_cons, List.length_nil, List.length_append, length_bvs, List.length_take, List.length_drop]; omega)) only [Tryz.results32, go_sem, Nat.reduceAdd, Nat.reduceMul, Nat.reduceSub]
      all_goals with_reducible rfl
    case q10 =>
    rfl
def pRDig : List Value → Option Value
  | [.int .u64 (.ofNat n)] => bif Nat.blt n 18446744073709551616 then some (.string (str (dU n))) else none
  | _ => none
theorem pRDig_eq {n : Nat} (h : n < 18446744073709551616) : pRDig [.int .u64 (n : Int)] = some (.string (str (dU n))) := by
  show (bif Nat.blt n 18446744073709551616 then _ else none) = _
  rw [blt_t h]; rfl
theorem okRDig : HookOk Tryz.prog 32 (pureH pRDig) := by
  have key : ∀ xs v, pRDig xs = some v → ∃ n : Nat, xs = [.int .u64 (n : Int)] ∧ n < 18446744073709551616 ∧ v = .string (str (dU n)) := fun xs v h => by
    unfold pRDig at h
    split at h
    · rename_i n
      cases hb : Nat.blt n 18446744073709551616 with
      | false => rw [hb] at h; cases h
      | true => rw [hb] at h; cases h; exact ⟨n, rfl, Nat.le_of_ble_eq_true hb, rfl⟩
    · cases h
  refine pureH_ok (enters_of (by kernel_rfl)) (fun xs v h => ?_) (fun xs v h => ?_)
  · obtain ⟨n, rfl, _, rfl⟩ := key _ _ h
    exact ⟨bares_cons (bare_flat 1 rfl) bares_nil, bare_str⟩
  · obtain ⟨n, rfl, hn, rfl⟩ := key _ _ h
    exact rDigitsLocal n hn
/-! ### code -/
noncomputable def T14 : List (FuncId × HF) := [(32, pureH pRDig)]
theorem base14 : Base Tryz.prog (hooksOf T14 []) := ⟨mixed, hooksOf_sim (.cons _ _ _ okRDig .nil) .nil⟩
def zz (a : Int) : Nat := if a < 0 then (-(a + 1)).toNat * 2 + 1 else a.toNat * 2
def cU (a : Int) : List UInt8 := dU (zz a)
def I64 (a : Int) : Prop := -9223372036854775808 ≤ a ∧ a < 9223372036854775808
theorem rCodeLocal (a : Int) (h : I64 a) : Local Tryz.prog 33 [.int .i64 a] (wd [] 0 [] 0) fun e W' => e = .ret (.string (str (cU a))) := by
  refine lit_local base14 Tryz.func33 rfl (Nat.le_of_ble_eq_true rfl) ?_
  simp only [frOfL.eq_1, frOfL.eq_2, wd_next, Tryz.ntmps33, Nat.reduceAdd]
  obtain ⟨h1, h2⟩ := h
  unfold cU zz
  refine xwp_seq (xwp_region (e := ?e11) (s' := ?s11) base14 ?h11 ?q11)
  case h11 =>
    simp (disch := first | decide | omega | (simp only [List.length_cons, List.length_nil, List.length_append, length_bvs, List.length_take, List.length_drop]; omega)) only [go_sem, Nat.reduceAdd, Nat.reduceMul, Nat.reduceSub]
    all_goals with_reducible rfl
  case q11 =>
  refine xwp_seq ?_
  refine xwp_seq (xwp_region (e := ?e12) (s' := ?s12) base14 ?h12 ?q12)
  case h12 =>
    simp (disch := first | decide | omega | (simp only [List.length_cons, List.length_nil, List.length_append, length_bvs, List.length_take, List.length_drop]; omega)) only [go_sem, Nat.reduceAdd, Nat.reduceMul, Nat.reduceSub]
    all_goals with_reducible rfl
  case q12 =>
  by_cases hn : a < 0
  · rw [if_pos hn]
    obtain ⟨m, hm⟩ : ∃ m : Nat, a = -(m : Int) - 1 := ⟨(-(a + 1)).toNat, by omega⟩
    subst hm
    have hk : (-(-(m : Int) - 1 + 1)).toNat = m := by omega
    have hE : (0 - (-(m : Int) - 1 + ((1 : Nat) : Int))) = (m : Int) := by omega
    have hlt : m * 2 + 1 < 18446744073709551616 := by omega
    rw [hk]
    refine xwp_ct ?h13 ?q13
    case h13 =>
      simp (disch := first | decide | omega | (simp only [List.length_cons, List.length_nil, List.length_append, length_bvs, List.length_take, List.length_drop]; omega)) only [go_sem, Nat.reduceAdd, Nat.reduceMul, Nat.reduceSub]
      all_goals with_reducible rfl
    case q13 =>
    refine xwp_seq (xwp_region (e := ?e14) (s' := ?s14) base14 ?h14 ?q14)
    case h14 =>
      simp (disch := first | decide | omega | (simp only [List.length_cons, List.length_nil, List.length_append, length_bvs, List.length_take, List.length_drop]; omega)) only [T14, hE, pureH_eq, pureK.eq_1, pRDig_eq hlt, go_sem, Nat.reduceAdd, Nat.reduceMul, Nat.reduceSub]
      all_goals with_reducible rfl
    case q14 =>
    refine xwp_ret ?_
    refine ⟨_, ?e15, ?W15, rfl, ?h15, ?q15⟩
    case h15 =>
      simp (disch := first | decide | omega | (simp only [List.length_cons, List.length_nil, List.length_append, length_bvs, List.length_take, List.length_drop]; omega)) only [Tryz.results33, go_sem, Nat.reduceAdd, Nat.reduceMul, Nat.reduceSub]
      all_goals with_reducible rfl
    case q15 =>
    rfl
  · rw [if_neg hn]
    obtain ⟨m, rfl⟩ : ∃ m : Nat, a = (m : Int) := ⟨a.toNat, by omega⟩
    have hlt : m * 2 < 18446744073709551616 := by omega
    refine xwp_cf ?h16 ?q16
    case h16 =>
      simp (disch := first | decide | omega | (simp only [List.length_cons, List.length_nil, List.length_append, length_bvs, List.length_take, List.length_drop]; omega)) only [go_sem, Nat.reduceAdd, Nat.reduceMul, Nat.reduceSub]
      all_goals with_reducible rfl
    case q16 =>
    refine xwp_skip ?_
    refine xwp_seq (xwp_region (e := ?e17) (s' := ?s17) base14 ?h17 ?q17)
    case h17 =>
      simp (disch := first | decide | omega | (simp only [List.length_cons, List.length_nil, List.length_append, length_bvs, List.length_take, List.length_drop]; omega)) only [T14, pureH_eq, pureK.eq_1, pRDig_eq hlt, go_sem, Nat.reduceAdd, Nat.reduceMul, Nat.reduceSub]
      all_goals with_reducible rfl
    case q17 =>
    refine xwp_ret ?_
    refine ⟨_, ?e18, ?W18, rfl, ?h18, ?q18⟩
    case h18 =>
      simp (disch := first | decide | omega | (simp only [List.length_cons, List.length_nil, List.length_append, length_bvs, List.length_take, List.length_drop]; omega)) only [Tryz.results33, go_sem, Nat.reduceAdd, Nat.reduceMul, Nat.reduceSub]
      all_goals with_reducible rfl
    case q18 =>
    rfl
theorem zz_lt {a : Int} (h : I64 a) : zz a < 18446744073709551616 := by
  obtain ⟨h1, h2⟩ := h
  unfold zz
  split <;> omega
theorem cU_len {a : Int} (h : I64 a) : (cU a).length ≤ 10 := dU_len10 (zz_lt h)
def pRCode : List Value → Option Value
  | [.int .i64 a] => if -9223372036854775808 ≤ a ∧ a < 9223372036854775808 then some (.string (str (cU a))) else none
  | _ => none
theorem pRCode_eq {a : Int} (h : I64 a) : pRCode [.int .i64 a] = some (.string (str (cU a))) := if_pos h
theorem okRCode : HookOk Tryz.prog 33 (pureH pRCode) := by
  have key : ∀ xs v, pRCode xs = some v → ∃ a, xs = [.int .i64 a] ∧ I64 a ∧ v = .string (str (cU a)) := fun xs v h => by
    unfold pRCode at h
    split at h
    · rename_i a
      split at h
      · rename_i hr; cases h; exact ⟨a, rfl, hr, rfl⟩
      · cases h
    · cases h
  refine pureH_ok (enters_of (by kernel_rfl)) (fun xs v h => ?_) (fun xs v h => ?_)
  · obtain ⟨n, rfl, _, rfl⟩ := key _ _ h
    exact ⟨bares_cons (bare_flat 1 rfl) bares_nil, bare_str⟩
  · obtain ⟨n, rfl, hn, rfl⟩ := key _ _ h
    exact rCodeLocal n hn
end Go.Proofs.YthlkgmdkabelpaaGreatDoor.X
namespace Go.Proofs.YthlkgmdkabelpaaGreatDoor.X
open Go Go.RowKit
theorem fadX_FP {P : Program} {f : Nat} {fs : Array Field} {c : List Value} : fadX P f (some (.struct fs)) (some (FP c)) = fadY P c fs[f]? := rfl
def canE (c : CommitL) : Prop := c.parents.length ≤ 8 ∧ c.text.length ≤ 65535
instance (c : CommitL) : Decidable (canE c) := inferInstanceAs (Decidable (_ ∧ _))
set_option maxHeartbeats 1000000 in
theorem rEncodesLocal (c : CommitL) (hc : OkC c) : Local Tryz.prog 31 [.agg (encC c).toArray] (wd [] 0 [] 0) fun e W' => e = .ret (.bool (decide (canE c))) := by
  refine lit_local base0 Tryz.func31 rfl (Nat.le_of_ble_eq_true rfl) ?_
  simp only [frOfL.eq_1, frOfL.eq_2, wd_next, Tryz.ntmps31, Nat.reduceAdd, encC]
  have htr := hc.t
  have hnp := hc.np
  have hne := hc.ne
  refine xwp_seq (xwp_region (e := ?e1) (s' := ?s1) base0 ?h1 ?q1)
  case h1 =>
    simp (disch := first | decide | omega | (simp only [List.length_cons, List.length_nil, List.length_append, length_bvs, List.length_take, List.length_drop]; omega)) only [go_sem, Nat.reduceAdd, Nat.reduceMul, Nat.reduceSub]
    all_goals with_reducible rfl
  case q1 =>
  refine xwp_seq ?_
  by_cases hcan : canE c
  case neg =>
    rw [decide_eq_false hcan]
    refine xwp_region_to base0 ⟨frm [(19, some (.bool true))], wd [] 1 [] 0, []⟩ ?hs ?qs
    case hs =>
      by_cases h8 : c.parents.length ≤ 8
      · have hx : ¬ c.text.length ≤ 65535 := fun h => hcan ⟨h8, h⟩
        refine ⟨?s2, ?a2, ?b2⟩
        case a2 =>
          simp (disch := first | decide | omega | (simp only [List.length_cons, List.length_nil, List.length_append, length_bvs, List.length_take, List.length_drop]; omega)) only [lenB_gslV, one_gslV, htr, at32 htr, lenB.eq_4, go_sem, Nat.reduceAdd, Nat.reduceMul, Nat.reduceSub]
          all_goals with_reducible rfl
        case b2 =>
          exact chle_lit (by simp (disch := decide) [AllLk, lk_hit, lk_miss, lk_nil]) (by simp (disch := decide) [AllLk, lk_hit, lk_miss, lk_nil]) (by decide)
      · refine ⟨?s3, ?a3, ?b3⟩
        case a3 =>
          simp (disch := first | decide | omega | (simp only [List.length_cons, List.length_nil, List.length_append, length_bvs, List.length_take, List.length_drop]; omega)) only [lenB_gslV, one_gslV, htr, at32 htr, wantU, go_sem, Nat.reduceAdd, Nat.reduceMul, Nat.reduceSub]
          all_goals with_reducible rfl
        case b3 =>
          exact chle_lit (by simp (disch := decide) [AllLk, lk_hit, lk_miss, lk_nil]) (by simp (disch := decide) [AllLk, lk_hit, lk_miss, lk_nil]) (by decide)
    case qs =>
    refine xwp_ct ?h4 ?q4
    case h4 =>
      simp (disch := first | decide | omega | (simp only [List.length_cons, List.length_nil, List.length_append, length_bvs, List.length_take, List.length_drop]; omega)) only [go_sem, Nat.reduceAdd, Nat.reduceMul, Nat.reduceSub]
      all_goals with_reducible rfl
    case q4 =>
    refine xwp_seq (xwp_region (e := ?e5) (s' := ?s5) base0 ?h5 ?q5)
    case h5 =>
      simp (disch := first | decide | omega | (simp only [List.length_cons, List.length_nil, List.length_append, length_bvs, List.length_take, List.length_drop]; omega)) only [go_sem, Nat.reduceAdd, Nat.reduceMul, Nat.reduceSub]
      all_goals with_reducible rfl
    case q5 =>
    refine xwp_ret ?_
    refine ⟨_, ?e6, ?W6, rfl, ?h6, ?q6⟩
    case h6 =>
      simp (disch := first | decide | omega | (simp only [List.length_cons, List.length_nil, List.length_append, length_bvs, List.length_take, List.length_drop]; omega)) only [Tryz.results31, go_sem, Nat.reduceAdd, Nat.reduceMul, Nat.reduceSub]
      all_goals with_reducible rfl
    case q6 =>
    rfl
  rw [decide_eq_true hcan]
  obtain ⟨h8, htx⟩ := hcan
  refine xwp_seq (xwp_region (e := ?e7) (s' := ?s7) base0 ?h7 ?q7)
  case h7 =>
    simp (disch := first | decide | omega | (simp only [List.length_cons, List.length_nil, List.length_append, length_bvs, List.length_take, List.length_drop]; omega)) only [lenB_gslV, one_gslV, htr, at32 htr, go_sem, Nat.reduceAdd, Nat.reduceMul, Nat.reduceSub]
    all_goals with_reducible rfl
  case q7 =>
  refine xwp_cf ?h8 ?q8
  case h8 =>
    simp (disch := first | decide | omega | (simp only [List.length_cons, List.length_nil, List.length_append, length_bvs, List.length_take, List.length_drop]; omega)) only [go_sem, Nat.reduceAdd, Nat.reduceMul, Nat.reduceSub]
    all_goals with_reducible rfl
  case q8 =>
  refine xwp_skip ?_
  refine xwp_seq ?_
  refine xwp_seq (xwp_region (e := ?e9) (s' := ?s9) base0 ?h9 ?q9)
  case h9 =>
    simp (disch := first | decide | omega | (simp only [List.length_cons, List.length_nil, List.length_append, length_bvs, List.length_take, List.length_drop]; omega)) only [go_sem, Nat.reduceAdd, Nat.reduceMul, Nat.reduceSub]
    all_goals with_reducible rfl
  case q9 =>
  refine xwp_block ?_
  refine xwp_le (chle_lit (F' := [(1, some (.pointer (some ⟨0, 0, none⟩))), (2, some (.bool false)), (3, some (.int .i64 ((0 : Nat) : Int)))]) (L' := [(0, some (.cells (gslV (rowB c.parents) c.parents.length :: gslV (rowE c.edits) c.edits.length :: (bvs c.tree ++ [.string (str c.text)])) 34 (0, 0)))]) (n' := 1) (lg' := []) (nl' := 0) (by simp (disch := decide) [AllLk, lk_hit, lk_miss, lk_nil]) (by simp (disch := decide) [AllLk, lk_hit, lk_miss, lk_nil]) (by decide)) ?_
  refine xwp_loop (α := Upto c.edits.length) (fun x => ⟨frm [(1, some (.pointer (some ⟨0, 0, none⟩))), (2, some (.bool false)), (3, some (.int .i64 (x.i : Int)))], wd [(0, some (.cells (gslV (rowB c.parents) c.parents.length :: gslV (rowE c.edits) c.edits.length :: (bvs c.tree ++ [.string (str c.text)])) 34 (0, 0)))] 1 [] 0, []⟩) (fun x => c.edits.length - x.i) ?_ ⟨0, Nat.zero_le _⟩
  intro ⟨k, hk⟩
  simp only
  refine xwp_seq ?_
  by_cases hlt : k < c.edits.length
  case neg =>
    refine xwp_seq (xwp_region (e := ?e10) (s' := ?s10) base0 ?h10 ?q10)
    case h10 =>
      simp (disch := first | decide | omega | (simp only [List.length_cons, List.length_nil, List.length_append, length_bvs, List.length_take, List.length_drop]; omega)) only [lenB_gslV, go_sem, Nat.reduceAdd, Nat.reduceMul, Nat.reduceSub]
      all_goals with_reducible rfl
    case q10 =>
    refine xwp_cf ?h11 ?q11
    case h11 =>
      simp (disch := first | decide | omega | (simp only [List.length_cons, List.length_nil, List.length_append, length_bvs, List.length_take, List.length_drop]; omega)) only [go_sem, Nat.reduceAdd, Nat.reduceMul, Nat.reduceSub]
      all_goals with_reducible rfl
    case q11 =>
    refine xwp_exit ?_
    show XWp _ _ _ _ _ _
    refine xwp_seq (xwp_region (e := ?e12) (s' := ?s12) base0 ?h12 ?q12)
    case h12 =>
      simp (disch := first | decide | omega | (simp only [List.length_cons, List.length_nil, List.length_append, length_bvs, List.length_take, List.length_drop]; omega)) only [go_sem, Nat.reduceAdd, Nat.reduceMul, Nat.reduceSub]
      all_goals with_reducible rfl
    case q12 =>
    refine xwp_ret ?_
    refine ⟨_, ?e13, ?W13, rfl, ?h13, ?q13⟩
    case h13 =>
      simp (disch := first | decide | omega | (simp only [List.length_cons, List.length_nil, List.length_append, length_bvs, List.length_take, List.length_drop]; omega)) only [Tryz.results31, go_sem, Nat.reduceAdd, Nat.reduceMul, Nat.reduceSub]
      all_goals with_reducible rfl
    case q13 =>
    rfl
  refine xwp_seq (xwp_region (e := ?e14) (s' := ?s14) base0 ?h14 ?q14)
  case h14 =>
    simp (disch := first | decide | omega | (simp only [List.length_cons, List.length_nil, List.length_append, length_bvs, List.length_take, List.length_drop]; omega)) only [lenB_gslV, go_sem, Nat.reduceAdd, Nat.reduceMul, Nat.reduceSub]
    all_goals with_reducible rfl
  case q14 =>
  refine xwp_ct ?h15 ?q15
  case h15 =>
    simp (disch := first | decide | omega | (simp only [List.length_cons, List.length_nil, List.length_append, length_bvs, List.length_take, List.length_drop]; omega)) only [go_sem, Nat.reduceAdd, Nat.reduceMul, Nat.reduceSub]
    all_goals with_reducible rfl
  case q15 =>
  refine xwp_skip ?_
  refine xwp_seq (xwp_block ?_)
  obtain ⟨e, he⟩ : ∃ e, e = c.edits[k] := ⟨_, rfl⟩
  have hoe : OkE e := by rw [he]; exact hc.e _ (List.getElem_mem hlt)
  have hrow := rowE_at hlt
  rw [← he] at hrow
  have hes := hoe.s
  have hep := hoe.p
  refine xwp_seq (xwp_region (e := ?e16) (s' := ?s16) base0 ?h16 ?q16)
  case h16 =>
    simp (disch := first | decide | omega | (simp only [List.length_cons, List.length_nil, List.length_append, length_bvs, List.length_take, List.length_drop]; omega)) only [iad_gslV hlt, iadZ.eq_1, load_FP, fadX_FP, hrow, encEdit, lenB_slV, one_slV, go_sem, Nat.reduceAdd, Nat.reduceMul, Nat.reduceSub]
    all_goals with_reducible rfl
  case q16 =>
  refine xwp_cf ?h17 ?q17
  case h17 =>
    simp (disch := first | decide | omega | (simp only [List.length_cons, List.length_nil, List.length_append, length_bvs, List.length_take, List.length_drop]; omega)) only [go_sem, Nat.reduceAdd, Nat.reduceMul, Nat.reduceSub]
    all_goals with_reducible rfl
  case q17 =>
  refine xwp_skip ?_
  show XWp _ _ _ _ _ _
  refine xwp_region (e := ?e18) (s' := ?s18) base0 ?h18 ?q18
  case h18 =>
    simp (disch := first | decide | omega | (simp only [List.length_cons, List.length_nil, List.length_append, length_bvs, List.length_take, List.length_drop]; omega)) only [go_sem, Nat.reduceAdd, Nat.reduceMul, Nat.reduceSub]
    all_goals with_reducible rfl
  case q18 =>
  exact ⟨⟨k + 1, hlt⟩, by simp only; omega, chle_lit (by simp (disch := decide) [AllLk, lk_hit, lk_miss, lk_nil]) (by simp (disch := decide) [AllLk, lk_hit, lk_miss, lk_nil]) (by decide)⟩
end Go.Proofs.YthlkgmdkabelpaaGreatDoor.X
namespace Go.Proofs.YthlkgmdkabelpaaGreatDoor.X
open Go Go.RowKit
open Classical in
noncomputable def pOne (a : List Value) (v : Value) (xs : List Value) : Option Value := if xs = a then some v else none
theorem pOne_eq {a : List Value} {v : Value} : pOne a v a = some v := if_pos rfl
theorem okOne {P : Program} {f : FuncId} {a : List Value} {v : Value} (he : Enters P f) (ha : Bares a) (hv : Bare v) (hl : Local P f a (wd [] 0 [] 0) fun e W' => e = .ret v) : HookOk P f (pureH (pOne a v)) := by
  have key : ∀ xs u, pOne a v xs = some u → xs = a ∧ u = v := fun xs u h => by
    unfold pOne at h
    split at h
    · rename_i hx; cases h; exact ⟨hx, rfl⟩
    · cases h
  refine pureH_ok he (fun xs u h => ?_) (fun xs u h => ?_)
  · obtain ⟨rfl, rfl⟩ := key _ _ h; exact ⟨ha, hv⟩
  · obtain ⟨rfl, rfl⟩ := key _ _ h; exact hl
theorem bares_encC (c : CommitL) : Bares (encC c) := bares_cons (bare_gslV (bares_rowB _) _) (bares_cons (bare_gslV (bares_rowE _) _) (bares_append (bares_bvs _) (bares_cons bare_str bares_nil)))
structure RgE (e : EditL) : Prop where
  a1 : I64 e.kind
  a2 : I64 e.cell
  a3 : I64 e.dim
  a4 : I64 e.new
  a5 : I64 e.other
  s : ∀ x ∈ e.sides, I64 x.1 ∧ I64 x.2
  p : ∀ x ∈ e.pairs, I64 x.1 ∧ I64 x.2
def encPr (p : Int × Int) : List UInt8 := cU p.1 ++ cU p.2
def encEd (e : EditL) : List UInt8 := cU e.kind ++ cU e.cell ++ cU e.dim ++ cU e.new ++ cU e.other ++ dU e.sides.length ++ e.sides.flatMap encPr ++ dU e.pairs.length ++ e.pairs.flatMap encPr
def encB (c : CommitL) : List UInt8 := (3 :: dU c.parents.length) ++ c.parents.flatMap id ++ dU c.edits.length ++ c.edits.flatMap encEd ++ c.tree ++ dU c.text.length ++ c.text
def encR (c : CommitL) : List UInt8 := if canE c then encB c else []
theorem flat_len {α : Type} {f : α → List UInt8} {m : Nat} : ∀ {l : List α}, (∀ x ∈ l, (f x).length ≤ m) → (l.flatMap f).length ≤ m * l.length
  | [], _ => Nat.le_refl _
  | a :: l, h => by
    rw [List.flatMap_cons, List.length_append, List.length_cons, Nat.mul_succ]
    have h1 := h a List.mem_cons_self
    have h2 := flat_len (l := l) fun x hx => h x (List.mem_cons_of_mem _ hx)
    omega
theorem flat_take {α : Type} {f : α → List UInt8} {l : List α} {i : Nat} (h : i < l.length) : (l.take i).flatMap f ++ f l[i] = (l.take (i + 1)).flatMap f := by
  rw [List.take_succ_eq_append_getElem h, List.flatMap_append]
  simp
structure AccS {α : Type} (f : α → List UInt8) (l : List α) (base : List UInt8) where
  i : Nat
  acc : List UInt8
  hi : i ≤ l.length
  eq : acc = base ++ (l.take i).flatMap f
theorem AccS.len {α : Type} {f : α → List UInt8} {l : List α} {base acc : List UInt8} {i m : Nat} (eq : acc = base ++ (l.take i).flatMap f) (hm : ∀ x ∈ l, (f x).length ≤ m) : acc.length ≤ base.length + m * l.length := by
  rw [eq, List.length_append]
  have h1 := flat_len (f := f) (m := m) (l := l.take i) fun x hx => hm x (List.mem_of_mem_take hx)
  have h2 : m * (l.take i).length ≤ m * l.length := Nat.mul_le_mul_left _ (by rw [List.length_take]; omega)
  omega
theorem iad_FP {P : Program} {n i : Nat} {e : TypeId} {c : List Value} {k : IntKind} : iadX P (some (.array n e)) (some (FP c)) (some (.int k ((i : Nat) : Int))) = iadZ c i n (sz P e) := rfl
theorem encPr_len {p : Int × Int} (h : I64 p.1 ∧ I64 p.2) : (encPr p).length ≤ 20 := by
  unfold encPr
  rw [List.length_append]
  have := cU_len h.1
  have := cU_len h.2
  omega
theorem encEd_len {e : EditL} (ho : OkE e) (hr : RgE e) : (encEd e).length ≤ 200000 := by
  unfold encEd
  simp only [List.length_append]
  have h1 := cU_len hr.a1
  have h2 := cU_len hr.a2
  have h3 := cU_len hr.a3
  have h4 := cU_len hr.a4
  have h5 := cU_len hr.a5
  have h6 := ho.s
  have h7 := ho.p
  have h8 : (dU e.sides.length).length ≤ 10 := dU_len10 (by omega)
  have h9 : (dU e.pairs.length).length ≤ 10 := dU_len10 (by omega)
  have h10 := flat_len (f := encPr) (m := 20) fun x hx => encPr_len (hr.s x hx)
  have h11 := flat_len (f := encPr) (m := 20) fun x hx => encPr_len (hr.p x hx)
  omega
noncomputable def T16 (c : CommitL) : List (FuncId × HF) := [(31, pureH (pOne [.agg (encC c).toArray] (.bool (decide (canE c))))), (32, pureH pRDig), (33, pureH pRCode)]
theorem base16' (c : CommitL) (hc : OkC c) : Base Tryz.prog (hooksOf (T16 c) []) := ⟨mixed, hooksOf_sim (.cons _ _ _ (okOne (enters_of (by kernel_rfl)) (bares_cons (bare_agg (bares_encC c)) bares_nil) (bare_flat 1 rfl) (rEncodesLocal c hc)) (.cons _ _ _ okRDig (.cons _ _ _ okRCode .nil))) .nil⟩
set_option maxHeartbeats 2000000 in
theorem rEncodeLocal (c : CommitL) (hc : OkC c) (hr : ∀ x ∈ c.edits, RgE x) : Local Tryz.prog 8 [.agg (encC c).toArray] (wd [] 0 [] 0) fun e W' => e = .ret (.string (str (encR c))) := by
  have base16 := base16' c hc
  refine lit_local base16 Tryz.func8 rfl (Nat.le_of_ble_eq_true rfl) ?_
  simp only [frOfL.eq_1, frOfL.eq_2, wd_next, Tryz.ntmps8, Nat.reduceAdd, encC]
  have htr := hc.t
  unfold encR
  refine xwp_seq (xwp_region (e := ?e1) (s' := ?s1) base16 ?h1 ?q1)
  case h1 =>
    simp (disch := first | decide | omega | (simp only [List.length_cons, List.length_nil, List.length_append, length_bvs, List.length_take, List.length_drop]; omega)) only [go_sem, Nat.reduceAdd, Nat.reduceMul, Nat.reduceSub]
    all_goals with_reducible rfl
  case q1 =>
  refine xwp_seq (xwp_region (e := ?e2) (s' := ?s2) base16 ?h2 ?q2)
  case h2 =>
    simp (disch := first | decide | omega | (simp only [List.length_cons, List.length_nil, List.length_append, length_bvs, List.length_take, List.length_drop]; omega)) only [T16, encC, pureH_eq, pureK.eq_1, pOne_eq, one_gslV, htr, List.all_append, go_sem, Nat.reduceAdd, Nat.reduceMul, Nat.reduceSub]
    all_goals with_reducible rfl
  case q2 =>
  refine xwp_seq ?_
  refine xwp_seq (xwp_region (e := ?e3) (s' := ?s3) base16 ?h3 ?q3)
  case h3 =>
    simp (disch := first | decide | omega | (simp only [List.length_cons, List.length_nil, List.length_append, length_bvs, List.length_take, List.length_drop]; omega)) only [T16, go_sem, Nat.reduceAdd, Nat.reduceMul, Nat.reduceSub]
    all_goals with_reducible rfl
  case q3 =>
  by_cases hcan : canE c
  case neg =>
    rw [decide_eq_false hcan, if_neg hcan]
    refine xwp_ct ?h4 ?q4
    case h4 =>
      simp (disch := first | decide | omega | (simp only [List.length_cons, List.length_nil, List.length_append, length_bvs, List.length_take, List.length_drop]; omega)) only [go_sem, Nat.reduceAdd, Nat.reduceMul, Nat.reduceSub]
      all_goals with_reducible rfl
    case q4 =>
    refine xwp_seq (xwp_region (e := ?e5) (s' := ?s5) base16 ?h5 ?q5)
    case h5 =>
      simp (disch := first | decide | omega | (simp only [List.length_cons, List.length_nil, List.length_append, length_bvs, List.length_take, List.length_drop]; omega)) only [go_sem, Nat.reduceAdd, Nat.reduceMul, Nat.reduceSub]
      all_goals with_reducible rfl
    case q5 =>
    refine xwp_ret ?_
    refine ⟨_, ?e6, ?W6, rfl, ?h6, ?q6⟩
    case h6 =>
      simp (disch := first | decide | omega | (simp only [List.length_cons, List.length_nil, List.length_append, length_bvs, List.length_take, List.length_drop]; omega)) only [Tryz.results8, go_sem, Nat.reduceAdd, Nat.reduceMul, Nat.reduceSub]
      all_goals with_reducible rfl
    case q6 =>
    rfl
  rw [decide_eq_true hcan, if_pos hcan]
  obtain ⟨h8, htx⟩ := hcan
  refine xwp_cf ?h7 ?q7
  case h7 =>
    simp (disch := first | decide | omega | (simp only [List.length_cons, List.length_nil, List.length_append, length_bvs, List.length_take, List.length_drop]; omega)) only [go_sem, Nat.reduceAdd, Nat.reduceMul, Nat.reduceSub]
    all_goals with_reducible rfl
  case q7 =>
  refine xwp_skip ?_
  have hnp := hc.np
  have hne := hc.ne
  have hd1 : (dU c.parents.length).length ≤ 10 := dU_len10 (by omega)
  have hd2 : (dU c.edits.length).length ≤ 10 := dU_len10 (by omega)
  have hd3 : (dU c.text.length).length ≤ 10 := dU_len10 (by omega)
  refine xwp_seq (xwp_region (e := ?e8) (s' := ?s8) base16 ?h8 ?q8)
  case h8 =>
    simp (disch := first | decide | omega | (simp only [List.length_cons, List.length_nil, List.length_append, length_bvs, List.length_take, List.length_drop]; omega)) only [T16, lenB_gslV, pureH_eq, pureK.eq_1, pRDig_eq, bin_sadd, go_sem, Nat.reduceAdd, Nat.reduceMul, Nat.reduceSub]
    all_goals with_reducible rfl
  case q8 =>
  refine xwp_seq ?_
  refine xwp_seq (xwp_region (e := ?e9) (s' := ?s9) base16 ?h9 ?q9)
  case h9 =>
    simp (disch := first | decide | omega | (simp only [List.length_cons, List.length_nil, List.length_append, length_bvs, List.length_take, List.length_drop]; omega)) only [go_sem, Nat.reduceAdd, Nat.reduceMul, Nat.reduceSub]
    all_goals with_reducible rfl
  case q9 =>
  refine xwp_block ?_
  refine xwp_le (chle_lit (F' := [(1, some (.pointer (some ⟨0, 0, none⟩))), (4, some (.string (str (3 :: dU c.parents.length)))), (5, some (.int .i64 ((0 : Nat) : Int)))]) (L' := [(0, some (.cells (gslV (rowB c.parents) c.parents.length :: gslV (rowE c.edits) c.edits.length :: (bvs c.tree ++ [.string (str c.text)])) 34 (0, 0)))]) (n' := 1) (lg' := []) (nl' := 0) (by simp (disch := decide) [AllLk, lk_hit, lk_miss, lk_nil]) (by simp (disch := decide) [AllLk, lk_hit, lk_miss, lk_nil]) (by decide)) ?_
  refine xwp_loop (α := AccS id c.parents (3 :: dU c.parents.length)) (fun x => ⟨frm [(1, some (.pointer (some ⟨0, 0, none⟩))), (4, some (.string (str x.acc))), (5, some (.int .i64 (x.i : Int)))], wd [(0, some (.cells (gslV (rowB c.parents) c.parents.length :: gslV (rowE c.edits) c.edits.length :: (bvs c.tree ++ [.string (str c.text)])) 34 (0, 0)))] 1 [] 0, []⟩) (fun x => c.parents.length - x.i) ?_ ⟨0, 3 :: dU c.parents.length, Nat.zero_le _, by simp⟩
  intro ⟨i, acc, hi, heq⟩
  simp only
  have hal := AccS.len (m := 32) heq fun x hx => by rw [id, hc.p x hx]; exact Nat.le_refl _
  rw [List.length_cons] at hal
  refine xwp_seq ?_
  by_cases hlt : i < c.parents.length
  · refine xwp_seq (xwp_region (e := ?e10) (s' := ?s10) base16 ?h10 ?q10)
    case h10 =>
      simp (disch := first | decide | omega | (simp only [List.length_cons, List.length_nil, List.length_append, length_bvs, List.length_take, List.length_drop]; omega)) only [lenB_gslV, go_sem, Nat.reduceAdd, Nat.reduceMul, Nat.reduceSub]
      all_goals with_reducible rfl
    case q10 =>
    refine xwp_ct ?h11 ?q11
    case h11 =>
      simp (disch := first | decide | omega | (simp only [List.length_cons, List.length_nil, List.length_append, length_bvs, List.length_take, List.length_drop]; omega)) only [go_sem, Nat.reduceAdd, Nat.reduceMul, Nat.reduceSub]
      all_goals with_reducible rfl
    case q11 =>
    refine xwp_skip ?_
    refine xwp_seq (xwp_block ?_)
    have hh : (c.parents[i]).length = 32 := hc.p _ (List.getElem_mem hlt)
    have hrow := rowB_at hc.p hlt
    obtain ⟨h, hhe⟩ : ∃ h, h = c.parents[i] := ⟨_, rfl⟩
    rw [← hhe] at hrow hh
    refine xwp_seq (xwp_region (e := ?e12) (s' := ?s12) base16 ?h12 ?q12)
    case h12 =>
      simp (disch := first | decide | omega | (simp only [List.length_cons, List.length_nil, List.length_append, length_bvs, List.length_take, List.length_drop]; omega)) only [iad_gslV hlt, iadZ.eq_1, load_FP, hrow, hh, List.drop_eq_nil_of_le, go_sem, Nat.reduceAdd, Nat.reduceMul, Nat.reduceSub]
      all_goals with_reducible rfl
    case q12 =>
    refine xwp_region (e := ?e13) (s' := ?s13) base16 ?h13 ?q13
    case h13 =>
      simp (disch := first | decide | omega | (simp only [List.length_cons, List.length_nil, List.length_append, length_bvs, List.length_take, List.length_drop]; omega)) only [hh, List.drop_eq_nil_of_le, bytesOf_bvs, strO_some, bin_sadd, go_sem, Nat.reduceAdd, Nat.reduceMul, Nat.reduceSub]
      all_goals with_reducible rfl
    case q13 =>
    show XWp _ _ _ _ _ _
    refine xwp_region (e := ?e14) (s' := ?s14) base16 ?h14 ?q14
    case h14 =>
      simp (disch := first | decide | omega | (simp only [List.length_cons, List.length_nil, List.length_append, length_bvs, List.length_take, List.length_drop]; omega)) only [go_sem, Nat.reduceAdd, Nat.reduceMul, Nat.reduceSub]
      all_goals with_reducible rfl
    case q14 =>
    refine ⟨⟨i + 1, acc ++ h, hlt, by rw [heq, List.append_assoc, hhe]; exact congrArg _ (flat_take (f := id) hlt)⟩, by simp only; omega, ?_⟩
    exact chle_ren_lit [(0, some 0)] [(0, some 0)] (by decide) (by decide) (by decide)
      (allTv_cons (v := .pointer (some ⟨0, 0, none⟩)) (by decide) (by simp (disch := first | decide | omega) only [lk_hit, lk_miss]) (tv_ptr (by simp (disch := first | decide | omega) only [lk_hit, lk_miss])) (allTv_cons (v := .string (str (acc ++ h))) (by decide) (by simp (disch := first | decide | omega) only [lk_hit, lk_miss]) (tv_flat 1 rfl) (allTv_cons (v := .int .i64 ((i + 1 : Nat) : Int)) (by decide) (by simp (disch := first | decide | omega) only [lk_hit, lk_miss]) (tv_flat 1 rfl) allTv_nil)))
      (allTo_cons (o := .cells (gslV (rowB c.parents) c.parents.length :: gslV (rowE c.edits) c.edits.length :: (bvs c.tree ++ [.string (str c.text)])) 34 (0, 0)) 0 (by simp (disch := first | decide | omega) only [lk_hit, lk_miss]) (by decide) (by decide) (by simp (disch := first | decide | omega) only [lk_hit, lk_miss]) (to_bareO names_fz (bareO_bares (bares_encC c))) allTo_nil) .nil
  refine xwp_seq (xwp_region (e := ?e15) (s' := ?s15) base16 ?h15 ?q15)
  case h15 =>
    simp (disch := first | decide | omega | (simp only [List.length_cons, List.length_nil, List.length_append, length_bvs, List.length_take, List.length_drop]; omega)) only [lenB_gslV, go_sem, Nat.reduceAdd, Nat.reduceMul, Nat.reduceSub]
    all_goals with_reducible rfl
  case q15 =>
  refine xwp_cf ?h16 ?q16
  case h16 =>
    simp (disch := first | decide | omega | (simp only [List.length_cons, List.length_nil, List.length_append, length_bvs, List.length_take, List.length_drop]; omega)) only [go_sem, Nat.reduceAdd, Nat.reduceMul, Nat.reduceSub]
    all_goals with_reducible rfl
  case q16 =>
  refine xwp_exit ?_
  show XWp _ _ _ _ _ _
  have hin : i = c.parents.length := by omega
  rw [hin, List.take_length] at heq
  clear hlt hi hin
  have hb1 : acc.length ≤ 300 := by omega
  refine xwp_le (chle_lit (F' := [(1, some (.pointer (some ⟨0, 0, none⟩))), (4, some (.string (str acc)))]) (L' := [(0, some (.cells (gslV (rowB c.parents) c.parents.length :: gslV (rowE c.edits) c.edits.length :: (bvs c.tree ++ [.string (str c.text)])) 34 (0, 0)))]) (n' := 1) (lg' := []) (nl' := 0) (by simp (disch := decide) [AllLk, lk_hit, lk_miss, lk_nil]) (by simp (disch := decide) [AllLk, lk_hit, lk_miss, lk_nil]) (by decide)) ?_
  refine xwp_seq (xwp_region (e := ?e17) (s' := ?s17) base16 ?h17 ?q17)
  case h17 =>
    simp (disch := first | decide | omega | (simp only [List.length_cons, List.length_nil, List.length_append, length_bvs, List.length_take, List.length_drop]; omega)) only [T16, lenB_gslV, pureH_eq, pureK.eq_1, pRDig_eq, bin_sadd, go_sem, Nat.reduceAdd, Nat.reduceMul, Nat.reduceSub]
    all_goals with_reducible rfl
  case q17 =>
  obtain ⟨bs, hbs⟩ : ∃ bs, bs = acc ++ dU c.edits.length := ⟨_, rfl⟩
  have hbl : bs.length ≤ 310 := by rw [hbs, List.length_append]; omega
  refine xwp_seq ?_
  refine xwp_seq (xwp_region (e := ?e18) (s' := ?s18) base16 ?h18 ?q18)
  case h18 =>
    simp (disch := first | decide | omega | (simp only [List.length_cons, List.length_nil, List.length_append, length_bvs, List.length_take, List.length_drop]; omega)) only [go_sem, Nat.reduceAdd, Nat.reduceMul, Nat.reduceSub]
    all_goals with_reducible rfl
  case q18 =>
  refine xwp_block ?_
  refine xwp_le (chle_lit (F' := [(1, some (.pointer (some ⟨0, 0, none⟩))), (4, some (.string (str bs))), (7, some (.int .i64 ((0 : Nat) : Int)))]) (L' := [(0, some (.cells (gslV (rowB c.parents) c.parents.length :: gslV (rowE c.edits) c.edits.length :: (bvs c.tree ++ [.string (str c.text)])) 34 (0, 0)))]) (n' := 1) (lg' := []) (nl' := 0) (by simp (disch := decide) [AllLk, lk_hit, lk_miss, lk_nil, hbs]) (by simp (disch := decide) [AllLk, lk_hit, lk_miss, lk_nil]) (by decide)) ?_
  refine xwp_loop (α := AccS encEd c.edits bs) (fun x => ⟨frm [(1, some (.pointer (some ⟨0, 0, none⟩))), (4, some (.string (str x.acc))), (7, some (.int .i64 (x.i : Int)))], wd [(0, some (.cells (gslV (rowB c.parents) c.parents.length :: gslV (rowE c.edits) c.edits.length :: (bvs c.tree ++ [.string (str c.text)])) 34 (0, 0)))] 1 [] 0, []⟩) (fun x => c.edits.length - x.i) ?_ ⟨0, bs, Nat.zero_le _, by simp⟩
  intro ⟨k, acc2, hk, heq2⟩
  simp only
  have hal2 := AccS.len (m := 200000) heq2 fun x hx => encEd_len (hc.e x hx) (hr x hx)
  have hb2 : acc2.length ≤ 200001000 := by omega
  refine xwp_seq ?_
  by_cases hlt : k < c.edits.length
  case neg =>
    refine xwp_seq (xwp_region (e := ?e19) (s' := ?s19) base16 ?h19 ?q19)
    case h19 =>
      simp (disch := first | decide | omega | (simp only [List.length_cons, List.length_nil, List.length_append, length_bvs, List.length_take, List.length_drop]; omega)) only [lenB_gslV, go_sem, Nat.reduceAdd, Nat.reduceMul, Nat.reduceSub]
      all_goals with_reducible rfl
    case q19 =>
    refine xwp_cf ?h20 ?q20
    case h20 =>
      simp (disch := first | decide | omega | (simp only [List.length_cons, List.length_nil, List.length_append, length_bvs, List.length_take, List.length_drop]; omega)) only [go_sem, Nat.reduceAdd, Nat.reduceMul, Nat.reduceSub]
      all_goals with_reducible rfl
    case q20 =>
    refine xwp_exit ?_
    show XWp _ _ _ _ _ _
    have hin : k = c.edits.length := by omega
    rw [hin, List.take_length] at heq2
    have hfin : encB c = acc2 ++ c.tree ++ dU c.text.length ++ c.text := by rw [heq2, hbs, heq]; rfl
    refine xwp_seq (xwp_region (e := ?e21) (s' := ?s21) base16 ?h21 ?q21)
    case h21 =>
      simp (disch := first | decide | omega | (simp only [List.length_cons, List.length_nil, List.length_append, length_bvs, List.length_take, List.length_drop]; omega)) only [one_gslV, htr, tk32 htr, List.drop_eq_nil_of_le, go_sem, Nat.reduceAdd, Nat.reduceMul, Nat.reduceSub]
      all_goals with_reducible rfl
    case q21 =>
    rw [hfin]
    refine xwp_drawn_to base16 ⟨frm [(2, some (.string (str (acc2 ++ c.tree ++ dU c.text.length ++ c.text))))], wd [] 2 [] 0, []⟩ ?hz ?qz
    case hz =>
      refine ⟨?rsz, ?sz, ?hzz, ?kz, ?lz⟩
      case hzz =>
        simp (disch := first | decide | omega | (simp only [List.length_cons, List.length_nil, List.length_append, length_bvs, List.length_take, List.length_drop]; omega)) only [traceX.eq_1, traceX.eq_2, trc1.eq_1, trcK.eq_1, trcK.eq_2, traceD_nil, traceD_t, traceD_f, holeK.eq_1, holeK.eq_2, T16, htr, at32 htr, List.drop_eq_nil_of_le, bytesOf_bvs, strO_some, pureH_eq, pureK.eq_1, pRDig_eq, bin_sadd, go_sem, Nat.reduceAdd, Nat.reduceMul, Nat.reduceSub]
        all_goals with_reducible rfl
      case kz => kernel_rfl
      case lz => exact chle_lit (by simp (disch := decide) [AllLk, lk_hit, lk_miss, lk_nil]) (by simp [AllLk]) (by decide)
    case qz =>
    refine xwp_ret ?_
    refine ⟨_, ?e22, ?W22, rfl, ?h22, ?q22⟩
    case h22 =>
      simp (disch := first | decide | omega | (simp only [List.length_cons, List.length_nil, List.length_append, length_bvs, List.length_take, List.length_drop]; omega)) only [Tryz.results8, go_sem, Nat.reduceAdd, Nat.reduceMul, Nat.reduceSub]
      all_goals with_reducible rfl
    case q22 =>
    rfl
  refine xwp_seq (xwp_region (e := ?e23) (s' := ?s23) base16 ?h23 ?q23)
  case h23 =>
    simp (disch := first | decide | omega | (simp only [List.length_cons, List.length_nil, List.length_append, length_bvs, List.length_take, List.length_drop]; omega)) only [lenB_gslV, go_sem, Nat.reduceAdd, Nat.reduceMul, Nat.reduceSub]
    all_goals with_reducible rfl
  case q23 =>
  refine xwp_ct ?h24 ?q24
  case h24 =>
    simp (disch := first | decide | omega | (simp only [List.length_cons, List.length_nil, List.length_append, length_bvs, List.length_take, List.length_drop]; omega)) only [go_sem, Nat.reduceAdd, Nat.reduceMul, Nat.reduceSub]
    all_goals with_reducible rfl
  case q24 =>
  refine xwp_skip ?_
  refine xwp_seq (xwp_block ?_)
  obtain ⟨e, he⟩ : ∃ e, e = c.edits[k] := ⟨_, rfl⟩
  have hoe : OkE e := by rw [he]; exact hc.e _ (List.getElem_mem hlt)
  have hre : RgE e := by rw [he]; exact hr _ (List.getElem_mem hlt)
  have hrow := rowE_at hlt
  rw [← he] at hrow
  have hes := hoe.s
  have hep := hoe.p
  have hc1 := cU_len hre.a1
  have hc2 := cU_len hre.a2
  have hc3 := cU_len hre.a3
  have hc4 := cU_len hre.a4
  have hc5 := cU_len hre.a5
  have hd4 : (dU e.sides.length).length ≤ 10 := dU_len10 (by omega)
  have hd5 : (dU e.pairs.length).length ≤ 10 := dU_len10 (by omega)
  refine xwp_seq (xwp_region (e := ?e25) (s' := ?s25) base16 ?h25 ?q25)
  case h25 =>
    simp (disch := first | decide | omega | (simp only [List.length_cons, List.length_nil, List.length_append, length_bvs, List.length_take, List.length_drop]; omega)) only [iad_gslV hlt, iadZ.eq_1, load_FP, hrow, encEdit, one_slV, go_sem, Nat.reduceAdd, Nat.reduceMul, Nat.reduceSub]
    all_goals with_reducible rfl
  case q25 =>
  obtain ⟨a3, ha3⟩ : ∃ a3, a3 = acc2 ++ cU e.kind ++ cU e.cell ++ cU e.dim ++ cU e.new ++ cU e.other := ⟨_, rfl⟩
  have hb3 : a3.length ≤ 200001050 := by rw [ha3]; simp only [List.length_append]; omega
  refine xwp_drawn_to base16 ⟨frm [(1, some (.pointer (some ⟨0, 0, none⟩))), (4, some (.string (str a3))), (7, some (.int .i64 (k : Int))), (8, some (.pointer (some ⟨1, 0, none⟩)))], wd [(0, some (.cells (gslV (rowB c.parents) c.parents.length :: gslV (rowE c.edits) c.edits.length :: (bvs c.tree ++ [.string (str c.text)])) 34 (0, 0))), (1, some (.cells [.int .i64 e.kind, .int .i64 e.cell, .int .i64 e.dim, .int .i64 e.new, .int .i64 e.other, slV e.sides, slV e.pairs] 64 (0, 0)))] 2 [] 0, []⟩ ?hda ?qda
  case hda =>
    refine ⟨?rsa, ?sa, ?ha, ?ka, ?la⟩
    case ha =>
      simp (disch := first | decide | omega | (simp only [List.length_cons, List.length_nil, List.length_append, length_bvs, List.length_take, List.length_drop]; omega)) only [traceX.eq_1, traceX.eq_2, trc1.eq_1, trcK.eq_1, trcK.eq_2, traceD_nil, traceD_t, traceD_f, holeK.eq_1, holeK.eq_2, T16, pureH_eq, pureK.eq_1, pRCode_eq hre.a1, pRCode_eq hre.a2, pRCode_eq hre.a3, pRCode_eq hre.a4, pRCode_eq hre.a5, bin_sadd, go_sem, Nat.reduceAdd, Nat.reduceMul, Nat.reduceSub]
      all_goals with_reducible rfl
    case ka => kernel_rfl
    case la =>
      rw [ha3]
      exact chle_lit (by simp (disch := decide) [AllLk, lk_hit, lk_miss, lk_nil]) (by simp (disch := decide) [AllLk, lk_hit, lk_miss, lk_nil]) (by decide)
  case qda =>
  refine xwp_seq (xwp_region (e := ?e26) (s' := ?s26) base16 ?h26 ?q26)
  case h26 =>
    simp (disch := first | decide | omega | (simp only [List.length_cons, List.length_nil, List.length_append, length_bvs, List.length_take, List.length_drop]; omega)) only [T16, lenB_slV, pureH_eq, pureK.eq_1, pRDig_eq, bin_sadd, go_sem, Nat.reduceAdd, Nat.reduceMul, Nat.reduceSub]
    all_goals with_reducible rfl
  case q26 =>
  obtain ⟨b4, hb4⟩ : ∃ x, x = a3 ++ dU e.sides.length := ⟨_, rfl⟩
  have hls : b4.length ≤ 200001060 := by rw [hb4, List.length_append]; omega
  refine xwp_seq ?_
  refine xwp_seq (xwp_region (e := ?e27) (s' := ?s27) base16 ?h27 ?q27)
  case h27 =>
    simp (disch := first | decide | omega | (simp only [List.length_cons, List.length_nil, List.length_append, length_bvs, List.length_take, List.length_drop]; omega)) only [go_sem, Nat.reduceAdd, Nat.reduceMul, Nat.reduceSub]
    all_goals with_reducible rfl
  case q27 =>
  refine xwp_block ?_
  refine xwp_le (chle_lit (F' := [(1, some (.pointer (some ⟨0, 0, none⟩))), (4, some (.string (str b4))), (7, some (.int .i64 (k : Int))), (8, some (.pointer (some ⟨1, 0, none⟩))), (9, some (.int .i64 ((0 : Nat) : Int)))]) (L' := [(0, some (.cells (gslV (rowB c.parents) c.parents.length :: gslV (rowE c.edits) c.edits.length :: (bvs c.tree ++ [.string (str c.text)])) 34 (0, 0))), (1, some (.cells [.int .i64 e.kind, .int .i64 e.cell, .int .i64 e.dim, .int .i64 e.new, .int .i64 e.other, slV e.sides, slV e.pairs] 64 (0, 0)))]) (n' := 2) (lg' := []) (nl' := 0) (by simp (disch := decide) [AllLk, lk_hit, lk_miss, lk_nil, hb4]) (by simp (disch := decide) [AllLk, lk_hit, lk_miss, lk_nil]) (by decide)) ?_
  refine xwp_loop (α := AccS encPr e.sides b4) (fun x => ⟨frm [(1, some (.pointer (some ⟨0, 0, none⟩))), (4, some (.string (str x.acc))), (7, some (.int .i64 (k : Int))), (8, some (.pointer (some ⟨1, 0, none⟩))), (9, some (.int .i64 (x.i : Int)))], wd [(0, some (.cells (gslV (rowB c.parents) c.parents.length :: gslV (rowE c.edits) c.edits.length :: (bvs c.tree ++ [.string (str c.text)])) 34 (0, 0))), (1, some (.cells [.int .i64 e.kind, .int .i64 e.cell, .int .i64 e.dim, .int .i64 e.new, .int .i64 e.other, slV e.sides, slV e.pairs] 64 (0, 0)))] 2 [] 0, []⟩) (fun x => e.sides.length - x.i) ?_ ⟨0, b4, Nat.zero_le _, by simp⟩
  intro ⟨j, acs, hjs, heqs⟩
  simp only
  have hals := AccS.len (m := 20) heqs fun x hx => encPr_len (hre.s x hx)
  have hbs : acs.length ≤ 200081060 := by omega
  refine xwp_seq ?_
  by_cases hlts : j < e.sides.length
  · refine xwp_seq (xwp_region (e := ?e28) (s' := ?s28) base16 ?h28 ?q28)
    case h28 =>
      simp (disch := first | decide | omega | (simp only [List.length_cons, List.length_nil, List.length_append, length_bvs, List.length_take, List.length_drop]; omega)) only [lenB_slV, go_sem, Nat.reduceAdd, Nat.reduceMul, Nat.reduceSub]
      all_goals with_reducible rfl
    case q28 =>
    refine xwp_ct ?h29 ?q29
    case h29 =>
      simp (disch := first | decide | omega | (simp only [List.length_cons, List.length_nil, List.length_append, length_bvs, List.length_take, List.length_drop]; omega)) only [go_sem, Nat.reduceAdd, Nat.reduceMul, Nat.reduceSub]
      all_goals with_reducible rfl
    case q29 =>
    refine xwp_skip ?_
    have hrv := rowV_at hlts
    have hpp := hre.s _ (List.getElem_mem hlts)
    have hst := flat_take (f := encPr) hlts
    obtain ⟨p, hp⟩ : ∃ p, p = e.sides[j] := ⟨_, rfl⟩
    rw [← hp] at hrv hpp hst
    have hq1 := cU_len hpp.1
    have hq2 := cU_len hpp.2
    refine xwp_bdrawn_to base16 ⟨frm [(1, some (.pointer (some ⟨0, 0, none⟩))), (4, some (.string (str (acs ++ cU p.1 ++ cU p.2)))), (7, some (.int .i64 (k : Int))), (8, some (.pointer (some ⟨1, 0, none⟩))), (9, some (.int .i64 (j : Int)))], wd [(0, some (.cells (gslV (rowB c.parents) c.parents.length :: gslV (rowE c.edits) c.edits.length :: (bvs c.tree ++ [.string (str c.text)])) 34 (0, 0))), (1, some (.cells [.int .i64 e.kind, .int .i64 e.cell, .int .i64 e.dim, .int .i64 e.new, .int .i64 e.other, slV e.sides, slV e.pairs] 64 (0, 0)))] 2 [] 0, []⟩ ?hds ?qds
    case hds =>
      refine ⟨?rss, ?ss, ?hs, ?ks, ?ls⟩
      case hs =>
        simp (disch := first | decide | omega | (simp only [List.length_cons, List.length_nil, List.length_append, length_bvs, List.length_take, List.length_drop]; omega)) only [traceX.eq_1, traceX.eq_2, trc1.eq_1, trcK.eq_1, trcK.eq_2, traceD_nil, traceD_t, traceD_f, holeK.eq_1, holeK.eq_2, T16, iad_slV hlts, iadZ.eq_1, load_FP, fadX_FP, iad_FP, hrv, pureH_eq, pureK.eq_1, pRCode_eq hpp.1, pRCode_eq hpp.2, bin_sadd, go_sem, Nat.reduceAdd, Nat.reduceMul, Nat.reduceSub]
        all_goals with_reducible rfl
      case ks => kernel_rfl
      case ls => exact chle_lit (by simp (disch := decide) [AllLk, lk_hit, lk_miss, lk_nil]) (by simp (disch := decide) [AllLk, lk_hit, lk_miss, lk_nil]) (by decide)
    case qds =>
    refine xwp_region (e := ?e30) (s' := ?s30) base16 ?h30 ?q30
    case h30 =>
      simp (disch := first | decide | omega | (simp only [List.length_cons, List.length_nil, List.length_append, length_bvs, List.length_take, List.length_drop]; omega)) only [go_sem, Nat.reduceAdd, Nat.reduceMul, Nat.reduceSub]
      all_goals with_reducible rfl
    case q30 =>
    refine ⟨⟨j + 1, acs ++ cU p.1 ++ cU p.2, hlts, by rw [heqs, List.append_assoc, List.append_assoc, ← hst]; rfl⟩, by simp only; omega, chle_lit (by simp (disch := decide) [AllLk, lk_hit, lk_miss, lk_nil]) (by simp (disch := decide) [AllLk, lk_hit, lk_miss, lk_nil]) (by decide)⟩
  refine xwp_seq (xwp_region (e := ?e31) (s' := ?s31) base16 ?h31 ?q31)
  case h31 =>
    simp (disch := first | decide | omega | (simp only [List.length_cons, List.length_nil, List.length_append, length_bvs, List.length_take, List.length_drop]; omega)) only [lenB_slV, go_sem, Nat.reduceAdd, Nat.reduceMul, Nat.reduceSub]
    all_goals with_reducible rfl
  case q31 =>
  refine xwp_cf ?h32 ?q32
  case h32 =>
    simp (disch := first | decide | omega | (simp only [List.length_cons, List.length_nil, List.length_append, length_bvs, List.length_take, List.length_drop]; omega)) only [go_sem, Nat.reduceAdd, Nat.reduceMul, Nat.reduceSub]
    all_goals with_reducible rfl
  case q32 =>
  refine xwp_exit ?_
  show XWp _ _ _ _ _ _
  have hins : j = e.sides.length := by omega
  rw [hins, List.take_length] at heqs
  refine xwp_le (chle_lit (F' := [(1, some (.pointer (some ⟨0, 0, none⟩))), (4, some (.string (str acs))), (7, some (.int .i64 (k : Int))), (8, some (.pointer (some ⟨1, 0, none⟩)))]) (L' := [(0, some (.cells (gslV (rowB c.parents) c.parents.length :: gslV (rowE c.edits) c.edits.length :: (bvs c.tree ++ [.string (str c.text)])) 34 (0, 0))), (1, some (.cells [.int .i64 e.kind, .int .i64 e.cell, .int .i64 e.dim, .int .i64 e.new, .int .i64 e.other, slV e.sides, slV e.pairs] 64 (0, 0)))]) (n' := 2) (lg' := []) (nl' := 0) (by simp (disch := decide) [AllLk, lk_hit, lk_miss, lk_nil]) (by simp (disch := decide) [AllLk, lk_hit, lk_miss, lk_nil]) (by decide)) ?_
  clear hlts hjs hins
  clear j
  refine xwp_seq (xwp_region (e := ?e33) (s' := ?s33) base16 ?h33 ?q33)
  case h33 =>
    simp (disch := first | decide | omega | (simp only [List.length_cons, List.length_nil, List.length_append, length_bvs, List.length_take, List.length_drop]; omega)) only [T16, lenB_slV, pureH_eq, pureK.eq_1, pRDig_eq, bin_sadd, go_sem, Nat.reduceAdd, Nat.reduceMul, Nat.reduceSub]
    all_goals with_reducible rfl
  case q33 =>
  obtain ⟨b5, hb5⟩ : ∃ x, x = acs ++ dU e.pairs.length := ⟨_, rfl⟩
  have hlw : b5.length ≤ 200081070 := by rw [hb5, List.length_append]; omega
  refine xwp_seq (xwp_region (e := ?e34) (s' := ?s34) base16 ?h34 ?q34)
  case h34 =>
    simp (disch := first | decide | omega | (simp only [List.length_cons, List.length_nil, List.length_append, length_bvs, List.length_take, List.length_drop]; omega)) only [go_sem, Nat.reduceAdd, Nat.reduceMul, Nat.reduceSub]
    all_goals with_reducible rfl
  case q34 =>
  refine xwp_block ?_
  refine xwp_le (chle_lit (F' := [(1, some (.pointer (some ⟨0, 0, none⟩))), (4, some (.string (str b5))), (7, some (.int .i64 (k : Int))), (8, some (.pointer (some ⟨1, 0, none⟩))), (10, some (.int .i64 ((0 : Nat) : Int)))]) (L' := [(0, some (.cells (gslV (rowB c.parents) c.parents.length :: gslV (rowE c.edits) c.edits.length :: (bvs c.tree ++ [.string (str c.text)])) 34 (0, 0))), (1, some (.cells [.int .i64 e.kind, .int .i64 e.cell, .int .i64 e.dim, .int .i64 e.new, .int .i64 e.other, slV e.sides, slV e.pairs] 64 (0, 0)))]) (n' := 2) (lg' := []) (nl' := 0) (by simp (disch := decide) [AllLk, lk_hit, lk_miss, lk_nil, hb5]) (by simp (disch := decide) [AllLk, lk_hit, lk_miss, lk_nil]) (by decide)) ?_
  refine xwp_loop (α := AccS encPr e.pairs b5) (fun x => ⟨frm [(1, some (.pointer (some ⟨0, 0, none⟩))), (4, some (.string (str x.acc))), (7, some (.int .i64 (k : Int))), (8, some (.pointer (some ⟨1, 0, none⟩))), (10, some (.int .i64 (x.i : Int)))], wd [(0, some (.cells (gslV (rowB c.parents) c.parents.length :: gslV (rowE c.edits) c.edits.length :: (bvs c.tree ++ [.string (str c.text)])) 34 (0, 0))), (1, some (.cells [.int .i64 e.kind, .int .i64 e.cell, .int .i64 e.dim, .int .i64 e.new, .int .i64 e.other, slV e.sides, slV e.pairs] 64 (0, 0)))] 2 [] 0, []⟩) (fun x => e.pairs.length - x.i) ?_ ⟨0, b5, Nat.zero_le _, by simp⟩
  intro ⟨j, acw, hjw, heqw⟩
  simp only
  have halw := AccS.len (m := 20) heqw fun x hx => encPr_len (hre.p x hx)
  have hbw : acw.length ≤ 200161070 := by omega
  refine xwp_seq ?_
  by_cases hltw : j < e.pairs.length
  · refine xwp_seq (xwp_region (e := ?e35) (s' := ?s35) base16 ?h35 ?q35)
    case h35 =>
      simp (disch := first | decide | omega | (simp only [List.length_cons, List.length_nil, List.length_append, length_bvs, List.length_take, List.length_drop]; omega)) only [lenB_slV, go_sem, Nat.reduceAdd, Nat.reduceMul, Nat.reduceSub]
      all_goals with_reducible rfl
    case q35 =>
    refine xwp_ct ?h36 ?q36
    case h36 =>
      simp (disch := first | decide | omega | (simp only [List.length_cons, List.length_nil, List.length_append, length_bvs, List.length_take, List.length_drop]; omega)) only [go_sem, Nat.reduceAdd, Nat.reduceMul, Nat.reduceSub]
      all_goals with_reducible rfl
    case q36 =>
    refine xwp_skip ?_
    have hrv := rowV_at hltw
    have hpp := hre.p _ (List.getElem_mem hltw)
    have hst := flat_take (f := encPr) hltw
    obtain ⟨p, hp⟩ : ∃ p, p = e.pairs[j] := ⟨_, rfl⟩
    rw [← hp] at hrv hpp hst
    have hq1 := cU_len hpp.1
    have hq2 := cU_len hpp.2
    refine xwp_bdrawn_to base16 ⟨frm [(1, some (.pointer (some ⟨0, 0, none⟩))), (4, some (.string (str (acw ++ cU p.1 ++ cU p.2)))), (7, some (.int .i64 (k : Int))), (8, some (.pointer (some ⟨1, 0, none⟩))), (10, some (.int .i64 (j : Int)))], wd [(0, some (.cells (gslV (rowB c.parents) c.parents.length :: gslV (rowE c.edits) c.edits.length :: (bvs c.tree ++ [.string (str c.text)])) 34 (0, 0))), (1, some (.cells [.int .i64 e.kind, .int .i64 e.cell, .int .i64 e.dim, .int .i64 e.new, .int .i64 e.other, slV e.sides, slV e.pairs] 64 (0, 0)))] 2 [] 0, []⟩ ?hdw ?qdw
    case hdw =>
      refine ⟨?rsw, ?sw, ?hw, ?kw, ?lw⟩
      case hw =>
        simp (disch := first | decide | omega | (simp only [List.length_cons, List.length_nil, List.length_append, length_bvs, List.length_take, List.length_drop]; omega)) only [traceX.eq_1, traceX.eq_2, trc1.eq_1, trcK.eq_1, trcK.eq_2, traceD_nil, traceD_t, traceD_f, holeK.eq_1, holeK.eq_2, T16, iad_slV hltw, iadZ.eq_1, load_FP, fadX_FP, iad_FP, hrv, pureH_eq, pureK.eq_1, pRCode_eq hpp.1, pRCode_eq hpp.2, bin_sadd, go_sem, Nat.reduceAdd, Nat.reduceMul, Nat.reduceSub]
        all_goals with_reducible rfl
      case kw => kernel_rfl
      case lw => exact chle_lit (by simp (disch := decide) [AllLk, lk_hit, lk_miss, lk_nil]) (by simp (disch := decide) [AllLk, lk_hit, lk_miss, lk_nil]) (by decide)
    case qdw =>
    refine xwp_region (e := ?e37) (s' := ?s37) base16 ?h37 ?q37
    case h37 =>
      simp (disch := first | decide | omega | (simp only [List.length_cons, List.length_nil, List.length_append, length_bvs, List.length_take, List.length_drop]; omega)) only [go_sem, Nat.reduceAdd, Nat.reduceMul, Nat.reduceSub]
      all_goals with_reducible rfl
    case q37 =>
    refine ⟨⟨j + 1, acw ++ cU p.1 ++ cU p.2, hltw, by rw [heqw, List.append_assoc, List.append_assoc, ← hst]; rfl⟩, by simp only; omega, chle_lit (by simp (disch := decide) [AllLk, lk_hit, lk_miss, lk_nil]) (by simp (disch := decide) [AllLk, lk_hit, lk_miss, lk_nil]) (by decide)⟩
  refine xwp_seq (xwp_region (e := ?e38) (s' := ?s38) base16 ?h38 ?q38)
  case h38 =>
    simp (disch := first | decide | omega | (simp only [List.length_cons, List.length_nil, List.length_append, length_bvs, List.length_take, List.length_drop]; omega)) only [lenB_slV, go_sem, Nat.reduceAdd, Nat.reduceMul, Nat.reduceSub]
    all_goals with_reducible rfl
  case q38 =>
  refine xwp_cf ?h39 ?q39
  case h39 =>
    simp (disch := first | decide | omega | (simp only [List.length_cons, List.length_nil, List.length_append, length_bvs, List.length_take, List.length_drop]; omega)) only [go_sem, Nat.reduceAdd, Nat.reduceMul, Nat.reduceSub]
    all_goals with_reducible rfl
  case q39 =>
  refine xwp_exit ?_
  show XWp _ _ _ _ _ _
  have hinw : j = e.pairs.length := by omega
  rw [hinw, List.take_length] at heqw
  refine xwp_le (chle_lit (F' := [(1, some (.pointer (some ⟨0, 0, none⟩))), (4, some (.string (str acw))), (7, some (.int .i64 (k : Int))), (8, some (.pointer (some ⟨1, 0, none⟩)))]) (L' := [(0, some (.cells (gslV (rowB c.parents) c.parents.length :: gslV (rowE c.edits) c.edits.length :: (bvs c.tree ++ [.string (str c.text)])) 34 (0, 0))), (1, some (.cells [.int .i64 e.kind, .int .i64 e.cell, .int .i64 e.dim, .int .i64 e.new, .int .i64 e.other, slV e.sides, slV e.pairs] 64 (0, 0)))]) (n' := 2) (lg' := []) (nl' := 0) (by simp (disch := decide) [AllLk, lk_hit, lk_miss, lk_nil]) (by simp (disch := decide) [AllLk, lk_hit, lk_miss, lk_nil]) (by decide)) ?_
  clear hltw hjw hinw
  clear j
  refine xwp_region (e := ?e40) (s' := ?s40) base16 ?h40 ?q40
  case h40 =>
    simp (disch := first | decide | omega | (simp only [List.length_cons, List.length_nil, List.length_append, length_bvs, List.length_take, List.length_drop]; omega)) only [go_sem, Nat.reduceAdd, Nat.reduceMul, Nat.reduceSub]
    all_goals with_reducible rfl
  case q40 =>
  refine ⟨⟨k + 1, acw, hlt, ?_⟩, by simp only; omega, ?_⟩
  · rw [heqw, hb5, heqs, hb4, ha3, heq2, ← flat_take hlt, ← he]
    simp only [encEd, List.append_assoc]
  exact chle_ren_lit [(0, some 0)] [(0, some 0)] (by decide) (by decide) (by decide)
    (allTv_cons (v := .pointer (some ⟨0, 0, none⟩)) (by decide) (by simp (disch := first | decide | omega) only [lk_hit, lk_miss]) (tv_ptr (by simp (disch := first | decide | omega) only [lk_hit, lk_miss])) (allTv_cons (v := .string (str acw)) (by decide) (by simp (disch := first | decide | omega) only [lk_hit, lk_miss]) (tv_flat 1 rfl) (allTv_cons (v := .int .i64 ((k + 1 : Nat) : Int)) (by decide) (by simp (disch := first | decide | omega) only [lk_hit, lk_miss]) (tv_flat 1 rfl) allTv_nil)))
    (allTo_cons (o := .cells (gslV (rowB c.parents) c.parents.length :: gslV (rowE c.edits) c.edits.length :: (bvs c.tree ++ [.string (str c.text)])) 34 (0, 0)) 0 (by simp (disch := first | decide | omega) only [lk_hit, lk_miss]) (by decide) (by decide) (by simp (disch := first | decide | omega) only [lk_hit, lk_miss]) (to_bareO names_fz (bareO_bares (bares_encC c))) allTo_nil) .nil
end Go.Proofs.YthlkgmdkabelpaaGreatDoor.X
namespace Go.Proofs.YthlkgmdkabelpaaGreatDoor.X
open Go Go.RowKit
def wob (w b : Nat) (l : List UInt8) : XObj := .cells [.pointer (some ⟨w, 0, none⟩), .slice (some ⟨b, 0, none⟩) l.length openCap] 78 (0, 0)
def rowW (l : List UInt8) : XObj := .cells (bvs l) 5 (0, 0)
abbrev PW := List Value → List UInt8 → Option (Value × List UInt8)
def wtK (W : XW) (w b : Nat) : Option (Value × List UInt8) → Option (XEnd × XW)
  | some (v, l) => some (.ret v, (((W.put b none).push (rowW l)).put w (some (wob w W.next l))))
  | none => none
def wtL (p : PW) (xs : List Value) (W : XW) (w b n : Nat) : Option (List UInt8) → Option (XEnd × XW)
  | some l => bif Nat.beq l.length n then wtK W w b (p xs l) else none
  | none => none
def wtR (p : PW) (xs : List Value) (W : XW) (w b n : Nat) : Option XObj → Option (XEnd × XW)
  | some (.cells cs e (0, 0)) => bif Nat.beq e 5 then wtL p xs W w b n (bytesOf cs) else none
  | _ => none
def wtO (p : PW) (xs : List Value) (W : XW) (w : Nat) : Option XObj → Option (XEnd × XW)
  | some (.cells [.pointer (some ⟨w', 0, none⟩), .slice (some ⟨b, 0, none⟩) n c] e (0, 0)) => bif Nat.beq e 78 && Nat.beq w' w && Nat.beq c openCap && !(Nat.beq w b) then wtR p xs W w b n (W.get b) else none
  | _ => none
def wtH (p : PW) : HF := fun args W => match args with
  | .pointer (some ⟨w, 0, none⟩) :: xs => wtO p xs W w (W.get w)
  | _ => none
theorem bytesOf_some : ∀ {cs : List Value} {l : List UInt8}, bytesOf cs = some l → cs = bvs l
  | [], l, h => by cases h; rfl
  | v :: cs, l, h => by
    unfold bytesOf at h
    split at h
    · rename_i n
      cases hb : bytesOf cs with
      | none => rw [hb] at h; cases h
      | some r =>
        rw [hb] at h
        unfold byteIn at h
        cases hn : Nat.blt n 256 with
        | false => simp only [hn] at h; cases h
        | true =>
          simp only [hn] at h
          cases h
          have h256 : n < 256 := Nat.le_of_ble_eq_true hn
          rw [bytesOf_some hb]
          show _ = Value.int .u8 ((UInt8.ofNat n).toNat : Int) :: bvs r
          rw [show (UInt8.ofNat n).toNat = n from by simp; omega]
          rfl
    · cases h
theorem wtH_inv {p : PW} {args : List Value} {W W' : XW} {e : XEnd} (h : wtH p args W = some (e, W')) : ∃ w b xs l v l', args = .pointer (some ⟨w, 0, none⟩) :: xs ∧ w ≠ b ∧ W.get w = some (wob w b l) ∧ W.get b = some (rowW l) ∧ p xs l = some (v, l') ∧ e = .ret v ∧ W' = ((W.put b none).push (rowW l')).put w (some (wob w W.next l')) := by
  unfold wtH at h
  split at h
  · rename_i w xs
    unfold wtO at h
    split at h
    · rename_i w' b n c t hg
      cases hc : (Nat.beq t 78 && Nat.beq w' w && Nat.beq c openCap && !(Nat.beq w b)) with
      | false => rw [hc] at h; cases h
      | true =>
        rw [hc] at h
        simp only [Bool.and_eq_true, Bool.not_eq_true'] at hc
        obtain ⟨⟨⟨e1, e2⟩, e3⟩, e4⟩ := hc
        have e1 := Nat.eq_of_beq_eq_true e1
        have e2 := Nat.eq_of_beq_eq_true e2
        have e3 := Nat.eq_of_beq_eq_true e3
        subst e1 e2 e3
        simp only [cond_true] at h
        unfold wtR at h
        split at h
        · rename_i cs t' hb
          cases ht : Nat.beq t' 5 with
          | false => rw [ht] at h; cases h
          | true =>
            rw [ht] at h
            have := Nat.eq_of_beq_eq_true ht
            subst this
            simp only [cond_true] at h
            cases hl : bytesOf cs with
            | none => rw [hl] at h; cases h
            | some l =>
              rw [hl] at h
              unfold wtL at h
              cases hn : Nat.beq l.length n with
              | false => simp only [hn] at h; cases h
              | true =>
                simp only [hn, cond_true] at h
                have := Nat.eq_of_beq_eq_true hn
                subst this
                cases hp : p xs l with
                | none => rw [hp] at h; cases h
                | some q =>
                  obtain ⟨v, l'⟩ := q
                  rw [hp] at h
                  cases h
                  refine ⟨w', b, xs, l, v, l', rfl, fun q => ?_, hg, by rw [hb, bytesOf_some hl]; rfl, hp, rfl, rfl⟩
                  subst q
                  rw [Nat.beq_refl] at e4
                  cases e4
        · cases h
    · cases h
  · cases h
theorem bareO_rowW {P : Program} {l : List UInt8} : BareO P (rowW l) := bareO_bares (bares_bvs l)
theorem wt_ok {p : PW} {f : FuncId} (he : Enters Tryz.prog f) (hb : ∀ xs l v l', p xs l = some (v, l') → Bares xs ∧ Bare v)
    (hl : ∀ xs l v l', p xs l = some (v, l') → Local Tryz.prog f (.pointer (some ⟨0, 0, none⟩) :: xs) (wd [(0, some (wob 0 1 l)), (1, some (rowW l))] 2 [] 0) fun e W' => e = .ret v ∧ ∃ b', 2 ≤ b' ∧ W'.get 0 = some (wob 0 b' l') ∧ W'.get b' = some (rowW l')) : HookOk Tryz.prog f (wtH p) := by
  refine ⟨he, fun args W e W' h => ?_, fun args W e W' h => ?_⟩
  · obtain ⟨w, b, xs, l, v, l', _, _, _, _, _, _, rfl⟩ := wtH_inv h
    exact ((Ext.put _ _ _).trans (Ext.push _ _)).trans (Ext.put _ _ _)
  · obtain ⟨w, b, xs, l, v, l', rfl, hwb, hw, hr, hp, rfl, rfl⟩ := wtH_inv h
    have hwn := get_next hw
    have hbn := get_next hr
    have t0 : (fun n => if n = w then some 0 else if n = b then some 1 else (none : Option Nat)) w = some 0 := if_pos rfl
    have t1 : (fun n => if n = w then some 0 else if n = b then some 1 else (none : Option Nat)) b = some 1 := by simp only [if_neg (Ne.symm hwb), if_pos]
    refine reloc (k := 2) (fun m => if m = 0 then w else b) (fun n => if n = w then some 0 else if n = b then some 1 else none) rfl (fun m m' h h' e => ?_) (fun m h => ?_) (fun n m h => ?_) (fun m oL h => ?_) (tvs_cons (tv_ptr t0) ((hb _ _ _ _ hp).1 _ names_fz)) (hl _ _ _ _ hp) (fun eL WL' hS => ?_)
    · by_cases h0 : m = 0 <;> by_cases h1 : m' = 0 <;> simp only [h0, h1, if_true, if_false] at e ⊢
      · exact absurd e hwb
      · exact absurd e.symm hwb
      · omega
    · split <;> omega
    · split at h
      · rename_i q; cases h; exact ⟨by decide, q.symm⟩
      · split at h
        · rename_i q; cases h; exact ⟨by decide, q.symm⟩
        · cases h
    · have hm : m < 2 := get_next h
      obtain ⟨_, h2⟩ := wd_some h
      have : m = 0 ∨ m = 1 := by omega
      rcases this with rfl | rfl
      · rw [lk_hit] at h2
        cases h2
        exact ⟨by decide, _, hw, to_tvs (tvs_cons (tv_ptr t0) (tvs_cons (tv_slice t1) tvs_nil))⟩
      · rw [lk_miss (by decide), lk_hit] at h2
        cases h2
        exact ⟨by decide, _, hr, bareO_rowW _ names_fz⟩
    · obtain ⟨rfl, b', hb2, g0, g1⟩ := hS
      have s0 : (fun m => if m = 0 then some w else if m = b' then some W.next else (none : Option Nat)) 0 = some w := if_pos rfl
      have s1 : (fun m => if m = 0 then some w else if m = b' then some W.next else (none : Option Nat)) b' = some W.next := by
        simp only [if_neg (show ¬ b' = 0 by omega), if_pos]
      refine ⟨fun m => if m = 0 then some w else if m = b' then some W.next else none, fun m x h => ?_, fun m m' x h h' => ?_, fun x o' h => ?_, (hb _ _ _ _ hp).2 _ names_fz, Nat.le_succ _⟩
      · split at h
        · rename_i q; cases h; exact .inl ⟨by omega, by simp [q]⟩
        · split at h
          · rename_i q; cases h; exact .inr ⟨by omega, Nat.le_refl _, Nat.lt_succ_self _⟩
          · cases h
      · split at h
        · split at h'
          · omega
          · split at h'
            · cases h; cases h'; omega
            · cases h'
        · split at h
          · split at h'
            · cases h; cases h'; omega
            · split at h'
              · omega
              · cases h'
          · cases h
      · rcases XW.get_put h with ⟨rfl, q⟩ | ⟨q1, q2⟩
        · cases q
          exact .inl ⟨0, _, s0, g0, to_tvs (tvs_cons (tv_ptr s0) (tvs_cons (tv_slice s1) tvs_nil))⟩
        · rcases XW.get_push q2 with ⟨e1, e2⟩ | ⟨e1, e2⟩
          · subst e2
            exact .inl ⟨b', _, by rw [e1]; exact s1, g1, bareO_rowW _ names_fz⟩
          · rcases XW.get_put e2 with ⟨_, z⟩ | ⟨z1, z2⟩
            · cases z
            · refine .inr ⟨z2, get_next z2, fun m hm => ?_⟩
              split
              · exact fun z => q1 z.symm
              · exact fun z => z1 z.symm
end Go.Proofs.YthlkgmdkabelpaaGreatDoor.X
namespace Go.Proofs.YthlkgmdkabelpaaGreatDoor.X
open Go Go.RowKit
abbrev PS := List Value → Nat → List UInt8 → Option (Value × List UInt8)
def wsR (p : PS) (W : XW) (w b n r m c : Nat) (l : List UInt8) : Option XObj → Option (XEnd × XW)
  | some (.cells cs e (0, 0)) => bif Nat.ble m c && !(Nat.beq r w) && !(Nat.beq r b) then wtK (W.put r none) w b (p cs m l) else none
  | _ => none
def wsK (p : PS) (r m c : Nat) (W : XW) (w b n : Nat) : Option (List UInt8) → Option (XEnd × XW)
  | some l => bif Nat.beq l.length n then wsR p W w b n r m c l (W.get r) else none
  | none => none
def wsB (p : PS) (r m c : Nat) (W : XW) (w b n : Nat) : Option XObj → Option (XEnd × XW)
  | some (.cells cs e (0, 0)) => bif Nat.beq e 5 then wsK p r m c W w b n (bytesOf cs) else none
  | _ => none
def wsO (p : PS) (r m c : Nat) (W : XW) (w : Nat) : Option XObj → Option (XEnd × XW)
  | some (.cells [.pointer (some ⟨w', 0, none⟩), .slice (some ⟨b, 0, none⟩) n c'] e (0, 0)) => bif Nat.beq e 78 && Nat.beq w' w && Nat.beq c' openCap && !(Nat.beq w b) then wsB p r m c W w b n (W.get b) else none
  | _ => none
def wsH (p : PS) : HF := fun args W => match args with
  | [.pointer (some ⟨w, 0, none⟩), .slice (some ⟨r, 0, none⟩) m c] => wsO p r m c W w (W.get w)
  | _ => none
theorem beq_ne {a b : Nat} (h : Nat.beq a b = false) : a ≠ b := fun e => by subst e; rw [Nat.beq_refl] at h; cases h
theorem wsH_inv {p : PS} {args : List Value} {W W' : XW} {e : XEnd} (h : wsH p args W = some (e, W')) : ∃ w b r m c cs t l v l', args = [.pointer (some ⟨w, 0, none⟩), .slice (some ⟨r, 0, none⟩) m c] ∧ w ≠ b ∧ r ≠ w ∧ r ≠ b ∧ m ≤ c ∧ W.get w = some (wob w b l) ∧ W.get b = some (rowW l) ∧ W.get r = some (.cells cs t (0, 0)) ∧ p cs m l = some (v, l') ∧ e = .ret v ∧ W' = (((W.put r none).put b none).push (rowW l')).put w (some (wob w W.next l')) := by
  unfold wsH at h
  split at h
  · rename_i w r m c
    unfold wsO at h
    split at h
    · rename_i w' b n c' t hg
      cases hc : (Nat.beq t 78 && Nat.beq w' w && Nat.beq c' openCap && !(Nat.beq w b)) with
      | false => rw [hc] at h; cases h
      | true =>
        rw [hc] at h
        simp only [Bool.and_eq_true, Bool.not_eq_true'] at hc
        obtain ⟨⟨⟨e1, e2⟩, e3⟩, e4⟩ := hc
        have e1 := Nat.eq_of_beq_eq_true e1
        have e2 := Nat.eq_of_beq_eq_true e2
        have e3 := Nat.eq_of_beq_eq_true e3
        subst e1 e2 e3
        simp only [cond_true] at h
        unfold wsB at h
        split at h
        · rename_i cs t' hb
          cases ht : Nat.beq t' 5 with
          | false => rw [ht] at h; cases h
          | true =>
            rw [ht] at h
            have := Nat.eq_of_beq_eq_true ht
            subst this
            simp only [cond_true] at h
            cases hl : bytesOf cs with
            | none => rw [hl] at h; cases h
            | some l =>
              rw [hl] at h
              unfold wsK at h
              cases hn : Nat.beq l.length n with
              | false => simp only [hn] at h; cases h
              | true =>
                simp only [hn, cond_true] at h
                have := Nat.eq_of_beq_eq_true hn
                subst this
                unfold wsR at h
                split at h
                · rename_i cr tr hr
                  cases hk : (Nat.ble m c && !(Nat.beq r w') && !(Nat.beq r b)) with
                  | false => rw [hk] at h; cases h
                  | true =>
                    rw [hk] at h
                    simp only [Bool.and_eq_true, Bool.not_eq_true'] at hk
                    obtain ⟨⟨k1, k2⟩, k3⟩ := hk
                    simp only [cond_true] at h
                    cases hp : p cr m l with
                    | none => rw [hp] at h; cases h
                    | some q =>
                      obtain ⟨v, l'⟩ := q
                      rw [hp] at h
                      cases h
                      exact ⟨w', b, r, m, c, cr, tr, l, v, l', rfl, beq_ne e4, beq_ne k2, beq_ne k3, Nat.le_of_ble_eq_true k1, hg, by rw [hb, bytesOf_some hl]; rfl, hr, hp, rfl, rfl⟩
                · cases h
        · cases h
    · cases h
  · cases h
theorem ws_ok {p : PS} {f : FuncId} (he : Enters Tryz.prog f) (hb : ∀ cs m l v l', p cs m l = some (v, l') → Bares cs ∧ Bare v)
    (hl : ∀ cs m c t l v l', m ≤ c → p cs m l = some (v, l') → Local Tryz.prog f [.pointer (some ⟨0, 0, none⟩), .slice (some ⟨2, 0, none⟩) m c] (wd [(0, some (wob 0 1 l)), (1, some (rowW l)), (2, some (.cells cs t (0, 0)))] 3 [] 0) fun e W' => e = .ret v ∧ ∃ b', 3 ≤ b' ∧ W'.get 0 = some (wob 0 b' l') ∧ W'.get b' = some (rowW l')) : HookOk Tryz.prog f (wsH p) := by
  refine ⟨he, fun args W e W' h => ?_, fun args W e W' h => ?_⟩
  · obtain ⟨w, b, r, m, c, cs, t, l, v, l', _, _, _, _, _, _, _, _, _, _, rfl⟩ := wsH_inv h
    exact (((Ext.put _ _ _).trans (Ext.put _ _ _)).trans (Ext.push _ _)).trans (Ext.put _ _ _)
  · obtain ⟨w, b, r, n, c, cs, t, l, v, l', rfl, hwb, hrw, hrb, hnc, hw, hr, hrr, hp, rfl, rfl⟩ := wsH_inv h
    have hwn := get_next hw
    have hbn := get_next hr
    have hrn := get_next hrr
    have t0 : (fun n => if n = w then some 0 else if n = b then some 1 else if n = r then some 2 else (none : Option Nat)) w = some 0 := if_pos rfl
    have t1 : (fun n => if n = w then some 0 else if n = b then some 1 else if n = r then some 2 else (none : Option Nat)) b = some 1 := by simp only [if_neg (Ne.symm hwb), if_pos]
    have t2 : (fun n => if n = w then some 0 else if n = b then some 1 else if n = r then some 2 else (none : Option Nat)) r = some 2 := by simp only [if_neg hrw, if_neg hrb, if_pos]
    refine reloc (k := 3) (fun m => if m = 0 then w else if m = 1 then b else r) (fun n => if n = w then some 0 else if n = b then some 1 else if n = r then some 2 else none) rfl (fun m m' h h' e => ?_) (fun m h => ?_) (fun n m h => ?_) (fun m oL h => ?_) (tvs_cons (tv_ptr t0) (tvs_cons (tv_slice t2) tvs_nil)) (hl _ _ _ t _ _ _ hnc hp) (fun eL WL' hS => ?_)
    · have a1 : m = 0 ∨ m = 1 ∨ m = 2 := by omega
      have a2 : m' = 0 ∨ m' = 1 ∨ m' = 2 := by omega
      rcases a1 with rfl | rfl | rfl <;> rcases a2 with rfl | rfl | rfl <;> simp only [if_pos, if_neg, Nat.one_ne_zero, if_true, if_false, show (2 : Nat) ≠ 0 from by decide, show (2 : Nat) ≠ 1 from by decide] at e ⊢ <;> first | exact absurd e hwb | exact absurd e.symm hwb | exact absurd e hrw | exact absurd e.symm hrw | exact absurd e hrb | exact absurd e.symm hrb
    · split
      · omega
      · split <;> omega
    · split at h
      · rename_i q; cases h; exact ⟨by decide, q.symm⟩
      · split at h
        · rename_i q; cases h; exact ⟨by decide, q.symm⟩
        · split at h
          · rename_i q; cases h; exact ⟨by decide, q.symm⟩
          · cases h
    · have hm : m < 3 := get_next h
      obtain ⟨_, h2⟩ := wd_some h
      have : m = 0 ∨ m = 1 ∨ m = 2 := by omega
      rcases this with rfl | rfl | rfl
      · rw [lk_hit] at h2
        cases h2
        exact ⟨by decide, _, hw, to_tvs (tvs_cons (tv_ptr t0) (tvs_cons (tv_slice t1) tvs_nil))⟩
      · rw [lk_miss (by decide), lk_hit] at h2
        cases h2
        exact ⟨by decide, _, hr, bareO_rowW _ names_fz⟩
      · rw [lk_miss (by decide), lk_miss (by decide), lk_hit] at h2
        cases h2
        exact ⟨by decide, _, hrr, bareO_bares (hb _ _ _ _ _ hp).1 _ names_fz⟩
    · obtain ⟨rfl, b', hb2, g0, g1⟩ := hS
      have s0 : (fun m => if m = 0 then some w else if m = b' then some W.next else (none : Option Nat)) 0 = some w := if_pos rfl
      have s1 : (fun m => if m = 0 then some w else if m = b' then some W.next else (none : Option Nat)) b' = some W.next := by
        simp only [if_neg (show ¬ b' = 0 by omega), if_pos]
      refine ⟨fun m => if m = 0 then some w else if m = b' then some W.next else none, fun m x h => ?_, fun m m' x h h' => ?_, fun x o' h => ?_, (hb _ _ _ _ _ hp).2 _ names_fz, Nat.le_succ _⟩
      · split at h
        · rename_i q; cases h; exact .inl ⟨by omega, by simp [q]⟩
        · split at h
          · rename_i q; cases h; exact .inr ⟨by omega, Nat.le_refl _, Nat.lt_succ_self _⟩
          · cases h
      · split at h
        · split at h'
          · omega
          · split at h'
            · cases h; cases h'; omega
            · cases h'
        · split at h
          · split at h'
            · cases h; cases h'; omega
            · split at h'
              · omega
              · cases h'
          · cases h
      · rcases XW.get_put h with ⟨rfl, q⟩ | ⟨q1, q2⟩
        · cases q
          exact .inl ⟨0, _, s0, g0, to_tvs (tvs_cons (tv_ptr s0) (tvs_cons (tv_slice s1) tvs_nil))⟩
        · rcases XW.get_push q2 with ⟨e1, e2⟩ | ⟨e1, e2⟩
          · subst e2
            exact .inl ⟨b', _, by rw [e1]; exact s1, g1, bareO_rowW _ names_fz⟩
          · rcases XW.get_put e2 with ⟨_, z⟩ | ⟨z1, z2⟩
            · cases z
            · rcases XW.get_put z2 with ⟨_, y⟩ | ⟨y1, y2⟩
              · cases y
              · refine .inr ⟨y2, get_next y2, fun m hm => ?_⟩
                split
                · exact fun z => q1 z.symm
                · split
                  · exact fun z => z1 z.symm
                  · exact fun z => y1 z.symm
end Go.Proofs.YthlkgmdkabelpaaGreatDoor.X
namespace Go.Proofs.YthlkgmdkabelpaaGreatDoor.X
open Go Go.RowKit
abbrev PQ := List Value → List UInt8 → Option Value
def wqK (W : XW) : Option Value → Option (XEnd × XW)
  | some v => some (.ret v, W)
  | none => none
def wqL (p : PQ) (xs : List Value) (W : XW) (w b n : Nat) : Option (List UInt8) → Option (XEnd × XW)
  | some l => bif Nat.beq l.length n then wqK W (p xs l) else none
  | none => none
def wqR (p : PQ) (xs : List Value) (W : XW) (w b n : Nat) : Option XObj → Option (XEnd × XW)
  | some (.cells cs e (0, 0)) => bif Nat.beq e 5 then wqL p xs W w b n (bytesOf cs) else none
  | _ => none
def wqO (p : PQ) (xs : List Value) (W : XW) (w : Nat) : Option XObj → Option (XEnd × XW)
  | some (.cells [.pointer (some ⟨w', 0, none⟩), .slice (some ⟨b, 0, none⟩) n c] e (0, 0)) => bif Nat.beq e 78 && Nat.beq w' w && Nat.beq c openCap && !(Nat.beq w b) then wqR p xs W w b n (W.get b) else none
  | _ => none
def wqH (p : PQ) : HF := fun args W => match args with
  | .pointer (some ⟨w, 0, none⟩) :: xs => wqO p xs W w (W.get w)
  | _ => none
theorem wqH_inv {p : PQ} {args : List Value} {W W' : XW} {e : XEnd} (h : wqH p args W = some (e, W')) : ∃ w b xs l v, args = .pointer (some ⟨w, 0, none⟩) :: xs ∧ w ≠ b ∧ W.get w = some (wob w b l) ∧ W.get b = some (rowW l) ∧ p xs l = some v ∧ e = .ret v ∧ W' = W := by
  unfold wqH at h
  split at h
  · rename_i w xs
    unfold wqO at h
    split at h
    · rename_i w' b n c t hg
      cases hc : (Nat.beq t 78 && Nat.beq w' w && Nat.beq c openCap && !(Nat.beq w b)) with
      | false => rw [hc] at h; cases h
      | true =>
        rw [hc] at h
        simp only [Bool.and_eq_true, Bool.not_eq_true'] at hc
        obtain ⟨⟨⟨e1, e2⟩, e3⟩, e4⟩ := hc
        have e1 := Nat.eq_of_beq_eq_true e1
        have e2 := Nat.eq_of_beq_eq_true e2
        have e3 := Nat.eq_of_beq_eq_true e3
        subst e1 e2 e3
        simp only [cond_true] at h
        unfold wqR at h
        split at h
        · rename_i cs t' hb
          cases ht : Nat.beq t' 5 with
          | false => rw [ht] at h; cases h
          | true =>
            rw [ht] at h
            have := Nat.eq_of_beq_eq_true ht
            subst this
            simp only [cond_true] at h
            cases hl : bytesOf cs with
            | none => rw [hl] at h; cases h
            | some l =>
              rw [hl] at h
              unfold wqL at h
              cases hn : Nat.beq l.length n with
              | false => simp only [hn] at h; cases h
              | true =>
                simp only [hn, cond_true] at h
                have := Nat.eq_of_beq_eq_true hn
                subst this
                cases hp : p xs l with
                | none => rw [hp] at h; cases h
                | some q =>
                  rw [hp] at h
                  cases h
                  refine ⟨w', b, xs, l, q, rfl, fun q => ?_, hg, by rw [hb, bytesOf_some hl]; rfl, hp, rfl, rfl⟩
                  subst q
                  rw [Nat.beq_refl] at e4
                  cases e4
        · cases h
    · cases h
  · cases h
theorem wq_ok {p : PQ} {f : FuncId} (he : Enters Tryz.prog f) (hb : ∀ xs l v, p xs l = some v → Bares xs ∧ Bare v)
    (hl : ∀ xs l v, p xs l = some v → Local Tryz.prog f (.pointer (some ⟨0, 0, none⟩) :: xs) (wd [(0, some (wob 0 1 l)), (1, some (rowW l))] 2 [] 0) fun e W' => e = .ret v ∧ W'.get 0 = some (wob 0 1 l) ∧ W'.get 1 = some (rowW l)) : HookOk Tryz.prog f (wqH p) := by
  refine ⟨he, fun args W e W' h => ?_, fun args W e W' h => ?_⟩
  · obtain ⟨w, b, xs, l, v, _, _, _, _, _, _, rfl⟩ := wqH_inv h
    exact .refl _
  · obtain ⟨w, b, xs, l, v, rfl, hwb, hw, hr, hp, rfl, rfl⟩ := wqH_inv h
    have hwn := get_next hw
    have hbn := get_next hr
    have t0 : (fun n => if n = w then some 0 else if n = b then some 1 else (none : Option Nat)) w = some 0 := if_pos rfl
    have t1 : (fun n => if n = w then some 0 else if n = b then some 1 else (none : Option Nat)) b = some 1 := by simp only [if_neg (Ne.symm hwb), if_pos]
    refine reloc (k := 2) (fun m => if m = 0 then w else b) (fun n => if n = w then some 0 else if n = b then some 1 else none) rfl (fun m m' h h' e => ?_) (fun m h => ?_) (fun n m h => ?_) (fun m oL h => ?_) (tvs_cons (tv_ptr t0) ((hb _ _ _ hp).1 _ names_fz)) (hl _ _ _ hp) (fun eL WL' hS => ?_)
    · by_cases h0 : m = 0 <;> by_cases h1 : m' = 0 <;> simp only [h0, h1, if_true, if_false] at e ⊢
      · exact absurd e hwb
      · exact absurd e.symm hwb
      · omega
    · split <;> omega
    · split at h
      · rename_i q; cases h; exact ⟨by decide, q.symm⟩
      · split at h
        · rename_i q; cases h; exact ⟨by decide, q.symm⟩
        · cases h
    · have hm : m < 2 := get_next h
      obtain ⟨_, h2⟩ := wd_some h
      have : m = 0 ∨ m = 1 := by omega
      rcases this with rfl | rfl
      · rw [lk_hit] at h2
        cases h2
        exact ⟨by decide, _, hw, to_tvs (tvs_cons (tv_ptr t0) (tvs_cons (tv_slice t1) tvs_nil))⟩
      · rw [lk_miss (by decide), lk_hit] at h2
        cases h2
        exact ⟨by decide, _, hr, bareO_rowW _ names_fz⟩
    · obtain ⟨rfl, g0, g1⟩ := hS
      have s0 : (fun m => if m = 0 then some w else if m = 1 then some b else (none : Option Nat)) 0 = some w := if_pos rfl
      have s1 : (fun m => if m = 0 then some w else if m = 1 then some b else (none : Option Nat)) 1 = some b := by
        simp only [if_neg (show ¬ (1 : Nat) = 0 by decide), if_pos]
      refine ⟨fun m => if m = 0 then some w else if m = 1 then some b else none, fun m x h => ?_, fun m m' x h h' => ?_, fun x o' hx => ?_, (hb _ _ _ hp).2 _ names_fz, Nat.le_refl _⟩
      · split at h
        · rename_i q; cases h; exact .inl ⟨by omega, by simp [q]⟩
        · split at h
          · rename_i q; cases h; exact .inl ⟨by omega, by simp [q]⟩
          · cases h
      · split at h
        · split at h'
          · omega
          · split at h'
            · cases h; cases h'; exact absurd rfl hwb
            · cases h'
        · split at h
          · split at h'
            · cases h; cases h'; exact absurd rfl hwb
            · split at h'
              · omega
              · cases h'
          · cases h
      · by_cases e1 : x = w
        · subst e1
          rw [hw] at hx
          cases hx
          exact .inl ⟨0, _, s0, g0, to_tvs (tvs_cons (tv_ptr s0) (tvs_cons (tv_slice s1) tvs_nil))⟩
        · by_cases e2 : x = b
          · subst e2
            rw [hr] at hx
            cases hx
            exact .inl ⟨1, _, s1, g1, bareO_rowW _ names_fz⟩
          · refine .inr ⟨hx, get_next hx, fun m hm => ?_⟩
            split
            · exact fun z => e1 z.symm
            · exact fun z => e2 z.symm
def orK : Option (XEnd × XW) → Option (XEnd × XW) → Option (XEnd × XW)
  | some r, _ => some r
  | none, r => r
def orH (h1 h2 : HF) : HF := fun args W => orK (h1 args W) (h2 args W)
theorem or_ok {P : Program} {f : FuncId} {h1 h2 : HF} (k1 : HookOk P f h1) (k2 : HookOk P f h2) : HookOk P f (orH h1 h2) := by
  have key : ∀ args W r, orH h1 h2 args W = some r → h1 args W = some r ∨ h2 args W = some r := fun args W r h => by
    unfold orH at h
    cases e : h1 args W with
    | none => rw [e] at h; exact .inr h
    | some q => rw [e] at h; exact .inl h
  exact ⟨k1.enters, fun args W e W' h => (key _ _ _ h).elim (k1.ext _ _ _ _) (k2.ext _ _ _ _), fun args W e W' h => (key _ _ _ h).elim (k1.sim _ _ _ _) (k2.sim _ _ _ _)⟩
end Go.Proofs.YthlkgmdkabelpaaGreatDoor.X
namespace Go.Proofs.YthlkgmdkabelpaaGreatDoor.X
open Go Go.RowKit
theorem cc_used {W : XW} {n b : Nat} {l : List UInt8} (h : W.get n = some (wob n b l)) : hCC [.pointer (some ⟨n, 0, none⟩)] W = some (.ret (.tuple #[]), W) := by
  unfold hCC retH hCopyCheck
  simp only
  rw [h]
  show (match (bif Nat.beq n n && Nat.beq 0 0 then some (Value.tuple #[], W) else none : Option (Value × XW)) with | some (v, W') => some (XEnd.ret v, W') | none => none) = _
  rw [Nat.beq_refl, Nat.beq_refl]
  rfl
noncomputable def T20 : List (FuncId × HF) := [(64, hCC)]
theorem base20 : Base Tryz.prog (hooksOf T20 []) := ⟨mixed, hooksOf_sim (.cons _ _ _ okCC .nil) .nil⟩
theorem bvs_snoc {l : List UInt8} {n : Nat} (h : n < 256) : bvs l ++ [.int .u8 ((n : Nat) : Int)] = bvs (l ++ [UInt8.ofNat n]) := by
  unfold bvs
  rw [List.map_append]
  congr 1
  show _ = [Value.int .u8 ((UInt8.ofNat n).toNat : Int)]
  rw [show (UInt8.ofNat n).toNat = n from by simp; omega]
theorem bvs_app {l m : List UInt8} : bvs l ++ bvs m = bvs (l ++ m) := by unfold bvs; rw [List.map_append]
theorem src_str0 {W : XW} : srcX W 1 0 (.string (str [])) = some [] := rfl
theorem src_str {W : XW} {l : List UInt8} : srcX W 1 l.length (.string (str l)) = some (bvs l) := by
  show some (((str l).data.toList.map fun b => Value.int .u8 b.toNat).take l.length) = some (bvs l)
  rw [str_list, List.take_of_length_le (by rw [List.length_map]; exact Nat.le_refl _)]
  rfl
theorem writeByteLocal (l : List UInt8) (n : Nat) (hn : n < 256) (hl : l.length < 1000000000000) : Local Tryz.prog 25 [.pointer (some ⟨0, 0, none⟩), .int .u8 (n : Int)] (wd [(0, some (wob 0 1 l)), (1, some (rowW l))] 2 [] 0) fun e W' => e = .ret .nilIface ∧ ∃ b', 2 ≤ b' ∧ W'.get 0 = some (wob 0 b' (l ++ [UInt8.ofNat n])) ∧ W'.get b' = some (rowW (l ++ [UInt8.ofNat n])) := by
  refine lit_local base20 Tryz.func25 rfl (Nat.le_of_ble_eq_true rfl) ?_
  simp only [frOfL.eq_1, frOfL.eq_2, wd_next, Tryz.ntmps25, Nat.reduceAdd]
  have hcc := cc_used (W := wd [(0, some (wob 0 1 l)), (1, some (rowW l))] 2 [] 0) (n := 0) (b := 1) (l := l) (by rw [wd_get (by decide) (by decide), lk_hit])
  refine xwp_seq (xwp_region (e := ?e1) (s' := ?s1) base20 ?h1 ?q1)
  case h1 =>
    simp (disch := first | decide | omega | (simp only [List.length_cons, List.length_nil, List.length_append, length_bvs, List.length_take, List.length_drop]; omega)) only [go_sem, Nat.reduceAdd, Nat.reduceMul, Nat.reduceSub]
    all_goals with_reducible rfl
  case q1 =>
  refine xwp_seq (xwp_region (e := ?e2) (s' := ?s2) base20 ?h2 ?q2)
  case h2 =>
    simp (disch := first | decide | omega | (simp only [List.length_cons, List.length_nil, List.length_append, length_bvs, List.length_take, List.length_drop]; omega)) only [T20, hcc, go_sem, Nat.reduceAdd, Nat.reduceMul, Nat.reduceSub]
    all_goals with_reducible rfl
  case q2 =>
  refine xwp_seq (xwp_region (e := ?e3) (s' := ?s3) base20 ?h3 ?q3)
  case h3 =>
    simp (disch := first | decide | omega | (simp only [List.length_cons, List.length_nil, List.length_append, length_bvs, List.length_take, List.length_drop]; omega)) only [wob, rowW, bvs_snoc, go_sem, Nat.reduceAdd, Nat.reduceMul, Nat.reduceSub]
    all_goals with_reducible rfl
  case q3 =>
  refine xwp_seq (xwp_region (e := ?e4) (s' := ?s4) base20 ?h4 ?q4)
  case h4 =>
    simp (disch := first | decide | omega | (simp only [List.length_cons, List.length_nil, List.length_append, length_bvs, List.length_take, List.length_drop]; omega)) only [go_sem, Nat.reduceAdd, Nat.reduceMul, Nat.reduceSub]
    all_goals with_reducible rfl
  case q4 =>
  refine xwp_ret ?_
  refine ⟨_, ?e5, ?W5, rfl, ?h5, ?q5⟩
  case h5 =>
    simp (disch := first | decide | omega | (simp only [List.length_cons, List.length_nil, List.length_append, length_bvs, List.length_take, List.length_drop]; omega)) only [Tryz.results25, go_sem, Nat.reduceAdd, Nat.reduceMul, Nat.reduceSub]
    all_goals with_reducible rfl
  case q5 =>
  refine ⟨rfl, 3, by decide, ?_, ?_⟩
  · simp (disch := first | decide | omega | (simp only [List.length_cons, List.length_nil, List.length_append, length_bvs, List.length_take, List.length_drop]; omega)) only [wob, List.length_append, go_sem, Nat.reduceAdd, Nat.reduceMul, Nat.reduceSub]
  · simp (disch := first | decide | omega | (simp only [List.length_cons, List.length_nil, List.length_append, length_bvs, List.length_take, List.length_drop]; omega)) only [rowW, go_sem, Nat.reduceAdd, Nat.reduceMul, Nat.reduceSub]
theorem writeStringLocal (l m : List UInt8) (hm : m ≠ []) (hl : l.length + m.length < 1000000000000) : Local Tryz.prog 29 [.pointer (some ⟨0, 0, none⟩), .string (str m)] (wd [(0, some (wob 0 1 l)), (1, some (rowW l))] 2 [] 0) fun e W' => e = .ret (.tuple #[.int .i64 (m.length : Int), .nilIface]) ∧ ∃ b', 2 ≤ b' ∧ W'.get 0 = some (wob 0 b' (l ++ m)) ∧ W'.get b' = some (rowW (l ++ m)) := by
  refine lit_local base20 Tryz.func29 rfl (Nat.le_of_ble_eq_true rfl) ?_
  simp only [frOfL.eq_1, frOfL.eq_2, wd_next, Tryz.ntmps29, Nat.reduceAdd]
  have hcc := cc_used (W := wd [(0, some (wob 0 1 l)), (1, some (rowW l))] 2 [] 0) (n := 0) (b := 1) (l := l) (by rw [wd_get (by decide) (by decide), lk_hit])
  have hml : m.length ≠ 0 := fun e => hm (List.length_eq_zero_iff.1 e)
  refine xwp_seq (xwp_region (e := ?e6) (s' := ?s6) base20 ?h6 ?q6)
  case h6 =>
    simp (disch := first | decide | omega | (simp only [List.length_cons, List.length_nil, List.length_append, length_bvs, List.length_take, List.length_drop]; omega)) only [go_sem, Nat.reduceAdd, Nat.reduceMul, Nat.reduceSub]
    all_goals with_reducible rfl
  case q6 =>
  refine xwp_seq (xwp_region (e := ?e7) (s' := ?s7) base20 ?h7 ?q7)
  case h7 =>
    simp (disch := first | decide | omega | (simp only [List.length_cons, List.length_nil, List.length_append, length_bvs, List.length_take, List.length_drop]; omega)) only [T20, hcc, go_sem, Nat.reduceAdd, Nat.reduceMul, Nat.reduceSub]
    all_goals with_reducible rfl
  case q7 =>
  refine xwp_seq (xwp_region (e := ?e8) (s' := ?s8) base20 ?h8 ?q8)
  case h8 =>
    simp (disch := first | decide | omega | (simp only [List.length_cons, List.length_nil, List.length_append, length_bvs, List.length_take, List.length_drop]; omega)) only [wob, rowW, src_str, one_bvs, bvs_app, go_sem, Nat.reduceAdd, Nat.reduceMul, Nat.reduceSub]
    all_goals with_reducible rfl
  case q8 =>
  refine xwp_seq (xwp_region (e := ?e9) (s' := ?s9) base20 ?h9 ?q9)
  case h9 =>
    simp (disch := first | decide | omega | (simp only [List.length_cons, List.length_nil, List.length_append, length_bvs, List.length_take, List.length_drop]; omega)) only [go_sem, Nat.reduceAdd, Nat.reduceMul, Nat.reduceSub]
    all_goals with_reducible rfl
  case q9 =>
  refine xwp_ret ?_
  refine ⟨_, ?e10, ?W10, rfl, ?h10, ?q10⟩
  case h10 =>
    simp (disch := first | decide | omega | (simp only [List.length_cons, List.length_nil, List.length_append, length_bvs, List.length_take, List.length_drop]; omega)) only [Tryz.results29, go_sem, Nat.reduceAdd, Nat.reduceMul, Nat.reduceSub]
    all_goals with_reducible rfl
  case q10 =>
  refine ⟨rfl, 2, by decide, ?_, ?_⟩
  · simp (disch := first | decide | omega | (simp only [List.length_cons, List.length_nil, List.length_append, length_bvs, List.length_take, List.length_drop]; omega)) only [wob, List.length_append, go_sem, Nat.reduceAdd, Nat.reduceMul, Nat.reduceSub]
  · simp (disch := first | decide | omega | (simp only [List.length_cons, List.length_nil, List.length_append, length_bvs, List.length_take, List.length_drop]; omega)) only [rowW, go_sem, Nat.reduceAdd, Nat.reduceMul, Nat.reduceSub]
theorem writeStringLocal0 (l : List UInt8) (hl : l.length < 1000000000000) : Local Tryz.prog 29 [.pointer (some ⟨0, 0, none⟩), .string (str [])] (wd [(0, some (wob 0 1 l)), (1, some (rowW l))] 2 [] 0) fun e W' => e = .ret (.tuple #[.int .i64 0, .nilIface]) ∧ W'.get 0 = some (wob 0 1 l) ∧ W'.get 1 = some (rowW l) := by
  refine lit_local base20 Tryz.func29 rfl (Nat.le_of_ble_eq_true rfl) ?_
  simp only [frOfL.eq_1, frOfL.eq_2, wd_next, Tryz.ntmps29, Nat.reduceAdd]
  have hcc := cc_used (W := wd [(0, some (wob 0 1 l)), (1, some (rowW l))] 2 [] 0) (n := 0) (b := 1) (l := l) (by rw [wd_get (by decide) (by decide), lk_hit])
  refine xwp_seq (xwp_region (e := ?e11) (s' := ?s11) base20 ?h11 ?q11)
  case h11 =>
    simp (disch := first | decide | omega | (simp only [List.length_cons, List.length_nil, List.length_append, length_bvs, List.length_take, List.length_drop]; omega)) only [go_sem, Nat.reduceAdd, Nat.reduceMul, Nat.reduceSub]
    all_goals with_reducible rfl
  case q11 =>
  refine xwp_seq (xwp_region (e := ?e12) (s' := ?s12) base20 ?h12 ?q12)
  case h12 =>
    simp (disch := first | decide | omega | (simp only [List.length_cons, List.length_nil, List.length_append, length_bvs, List.length_take, List.length_drop]; omega)) only [T20, hcc, go_sem, Nat.reduceAdd, Nat.reduceMul, Nat.reduceSub]
    all_goals with_reducible rfl
  case q12 =>
  have hoc : Nat.ble l.length openCap = true := ble_t (by show l.length ≤ 4611686018427387904; omega)
  refine xwp_seq (xwp_region (e := ?e13) (s' := ?s13) base20 ?h13 ?q13)
  case h13 =>
    simp (disch := first | decide | omega | (simp only [List.length_cons, List.length_nil, List.length_append, length_bvs, List.length_take, List.length_drop]; omega)) only [wob, rowW, src_str0, hoc, go_sem, Nat.reduceAdd, Nat.reduceMul, Nat.reduceSub]
    all_goals with_reducible rfl
  case q13 =>
  refine xwp_seq (xwp_region (e := ?e14) (s' := ?s14) base20 ?h14 ?q14)
  case h14 =>
    simp (disch := first | decide | omega | (simp only [List.length_cons, List.length_nil, List.length_append, length_bvs, List.length_take, List.length_drop]; omega)) only [go_sem, Nat.reduceAdd, Nat.reduceMul, Nat.reduceSub]
    all_goals with_reducible rfl
  case q14 =>
  refine xwp_ret ?_
  refine ⟨_, ?e15, ?W15, rfl, ?h15, ?q15⟩
  case h15 =>
    simp (disch := first | decide | omega | (simp only [List.length_cons, List.length_nil, List.length_append, length_bvs, List.length_take, List.length_drop]; omega)) only [Tryz.results29, go_sem, Nat.reduceAdd, Nat.reduceMul, Nat.reduceSub]
    all_goals with_reducible rfl
  case q15 =>
  refine ⟨rfl, ?_, ?_⟩
  · simp (disch := first | decide | omega | (simp only [List.length_cons, List.length_nil, List.length_append, length_bvs, List.length_take, List.length_drop]; omega)) only [wob, go_sem, Nat.reduceAdd, Nat.reduceMul, Nat.reduceSub]
  · simp (disch := first | decide | omega | (simp only [List.length_cons, List.length_nil, List.length_append, length_bvs, List.length_take, List.length_drop]; omega)) only [rowW, go_sem, Nat.reduceAdd, Nat.reduceMul, Nat.reduceSub]
theorem ustB_str {P : Program} {W : XW} {b n : Nat} {k : IntKind} {pe : TypeId} : ustB P W (.pointer (some ⟨b, 0, none⟩)) (.int k ((n + 1 : Nat) : Int)) (some (.pointer pe)) = ust1 P W b (n + 1) pe (W.get b) := rfl
theorem ust1_eq {P : Program} {W : XW} {b n : Nat} {pe : TypeId} {c : List Value} {e : TypeId} {fr : Nat × Nat} : ust1 P W b n pe (some (.cells c e fr)) = bif Nat.ble n c.length && Nat.beq e pe && Nat.beq fr.1 0 && Nat.beq (P.cellsOf pe) 1 && Nat.ble n 1099511627776 then ust2 W b n c e fr (bytesOf (c.take n)) else none := rfl
theorem ust2_eq {W : XW} {b n : Nat} {c : List Value} {e : TypeId} {fr : Nat × Nat} {l : List UInt8} : ust2 W b n c e fr (some l) = some (.mod (.string (str l)) (W.put b (some (.cells c e (0, Nat.max fr.2 n))))) := rfl
theorem cells5 : Tryz.prog.cellsOf 5 = 1 := by kernel_rfl
theorem stringLocal (l : List UInt8) (h0 : l ≠ []) (hl : l.length < 1000000000000) : Local Tryz.prog 30 [.pointer (some ⟨0, 0, none⟩)] (wd [(0, some (wob 0 1 l)), (1, some (rowW l))] 2 [] 0) fun e W' => e = .ret (.string (str l)) := by
  refine lit_local base20 Tryz.func30 rfl (Nat.le_of_ble_eq_true rfl) ?_
  simp only [frOfL.eq_1, frOfL.eq_2, wd_next, Tryz.ntmps30, Nat.reduceAdd]
  refine xwp_seq (xwp_region (e := ?e16) (s' := ?s16) base20 ?h16 ?q16)
  case h16 =>
    simp (disch := first | decide | omega | (simp only [List.length_cons, List.length_nil, List.length_append, length_bvs, List.length_take, List.length_drop]; omega)) only [go_sem, Nat.reduceAdd, Nat.reduceMul, Nat.reduceSub]
    all_goals with_reducible rfl
  case q16 =>
  obtain ⟨n, hn⟩ : ∃ n, l.length = n + 1 := ⟨l.length - 1, by have : l.length ≠ 0 := fun e => h0 (List.length_eq_zero_iff.1 e); omega⟩
  refine xwp_drawn_to base20 ⟨frm [(2, some (.string (str l)))], wd [] 2 [] 0, []⟩ ?hz ?qz
  case hz =>
    refine ⟨?rsz, ?sz, ?hzz, ?kz, ?lz⟩
    case hzz =>
      simp (disch := first | decide | omega | (simp only [List.length_cons, List.length_nil, List.length_append, length_bvs, List.length_take, List.length_drop]; omega)) only [traceX.eq_1, traceX.eq_2, trc1.eq_1, trcK.eq_1, trcK.eq_2, traceD_nil, traceD_t, traceD_f, holeK.eq_1, holeK.eq_2, wob, rowW, hn, Tryz.underlying143, ustB_str, ust1_eq, cells5, bytesOf_bvs, ust2_eq, go_sem, Nat.reduceAdd, Nat.reduceMul, Nat.reduceSub]
      all_goals with_reducible rfl
    case kz => kernel_rfl
    case lz => exact chle_lit (by simp (disch := decide) [AllLk, lk_hit, lk_miss, lk_nil]) (by simp [AllLk]) (by decide)
  case qz =>
  refine xwp_ret ?_
  refine ⟨_, ?e17, ?W17, rfl, ?h17, ?q17⟩
  case h17 =>
    simp (disch := first | decide | omega | (simp only [List.length_cons, List.length_nil, List.length_append, length_bvs, List.length_take, List.length_drop]; omega)) only [Tryz.results30, go_sem, Nat.reduceAdd, Nat.reduceMul, Nat.reduceSub]
    all_goals with_reducible rfl
  case q17 =>
  rfl
end Go.Proofs.YthlkgmdkabelpaaGreatDoor.X
namespace Go.Proofs.YthlkgmdkabelpaaGreatDoor.X
open Go Go.RowKit
theorem writeLocal (l m : List UInt8) (c : Nat) (t : TypeId) (hm : m ≠ []) (hl : l.length + m.length < 1000000000000) : Local Tryz.prog 66 [.pointer (some ⟨0, 0, none⟩), .slice (some ⟨2, 0, none⟩) m.length c] (wd [(0, some (wob 0 1 l)), (1, some (rowW l)), (2, some (.cells (bvs m) t (0, 0)))] 3 [] 0) fun e W' => e = .ret (.tuple #[.int .i64 (m.length : Int), .nilIface]) ∧ ∃ b', 3 ≤ b' ∧ W'.get 0 = some (wob 0 b' (l ++ m)) ∧ W'.get b' = some (rowW (l ++ m)) := by
  refine lit_local base20 Tryz.func66 rfl (Nat.le_of_ble_eq_true rfl) ?_
  simp only [frOfL.eq_1, frOfL.eq_2, wd_next, Tryz.ntmps66, Nat.reduceAdd]
  have hcc := cc_used (W := wd [(0, some (wob 0 1 l)), (1, some (rowW l)), (2, some (.cells (bvs m) t (0, 0)))] 3 [] 0) (n := 0) (b := 1) (l := l) (by rw [wd_get (by decide) (by decide), lk_hit])
  have hml : m.length ≠ 0 := fun e => hm (List.length_eq_zero_iff.1 e)
  have hsrc : srcX (wd [(0, some (wob 0 1 l)), (1, some (rowW l)), (2, some (.cells (bvs m) t (0, 0)))] 3 [] 0) 1 m.length (.slice (some ⟨2, 0, none⟩) m.length c) = some (bvs m) := by
    show (bif Nat.beq m.length 0 then some [] else match (wd [(0, some (wob 0 1 l)), (1, some (rowW l)), (2, some (.cells (bvs m) t (0, 0)))] 3 [] 0).get 2 with
      | some (.cells c _ _) => bif Nat.beq ((c.drop 0).take (m.length * 1)).length (m.length * 1) then some ((c.drop 0).take (m.length * 1)) else none
      | _ => none) = _
    rw [wd_get (by decide) (by decide), lk_miss (by decide), lk_miss (by decide), lk_hit, beqF hml]
    simp only [cond_false, List.drop_zero, Nat.mul_one]
    rw [List.take_of_length_le (by rw [length_bvs]; exact Nat.le_refl _), length_bvs, Nat.beq_refl]
    rfl
  simp only [wob, rowW] at hsrc
  refine xwp_seq (xwp_region (e := ?e1) (s' := ?s1) base20 ?h1 ?q1)
  case h1 =>
    simp (disch := first | decide | omega | (simp only [List.length_cons, List.length_nil, List.length_append, length_bvs, List.length_take, List.length_drop]; omega)) only [go_sem, Nat.reduceAdd, Nat.reduceMul, Nat.reduceSub]
    all_goals with_reducible rfl
  case q1 =>
  refine xwp_seq (xwp_region (e := ?e2) (s' := ?s2) base20 ?h2 ?q2)
  case h2 =>
    simp (disch := first | decide | omega | (simp only [List.length_cons, List.length_nil, List.length_append, length_bvs, List.length_take, List.length_drop]; omega)) only [T20, hcc, go_sem, Nat.reduceAdd, Nat.reduceMul, Nat.reduceSub]
    all_goals with_reducible rfl
  case q2 =>
  refine xwp_seq (xwp_region (e := ?e3) (s' := ?s3) base20 ?h3 ?q3)
  case h3 =>
    simp (disch := first | decide | omega | (simp only [List.length_cons, List.length_nil, List.length_append, length_bvs, List.length_take, List.length_drop]; omega)) only [wob, rowW, hsrc, one_bvs, bvs_app, go_sem, Nat.reduceAdd, Nat.reduceMul, Nat.reduceSub]
    all_goals with_reducible rfl
  case q3 =>
  refine xwp_seq (xwp_region (e := ?e4) (s' := ?s4) base20 ?h4 ?q4)
  case h4 =>
    simp (disch := first | decide | omega | (simp only [List.length_cons, List.length_nil, List.length_append, length_bvs, List.length_take, List.length_drop]; omega)) only [go_sem, Nat.reduceAdd, Nat.reduceMul, Nat.reduceSub]
    all_goals with_reducible rfl
  case q4 =>
  refine xwp_ret ?_
  refine ⟨_, ?e5, ?W5, rfl, ?h5, ?q5⟩
  case h5 =>
    simp (disch := first | decide | omega | (simp only [List.length_cons, List.length_nil, List.length_append, length_bvs, List.length_take, List.length_drop]; omega)) only [Tryz.results66, go_sem, Nat.reduceAdd, Nat.reduceMul, Nat.reduceSub]
    all_goals with_reducible rfl
  case q5 =>
  refine ⟨rfl, 3, by decide, ?_, ?_⟩
  · simp (disch := first | decide | omega | (simp only [List.length_cons, List.length_nil, List.length_append, length_bvs, List.length_take, List.length_drop]; omega)) only [wob, List.length_append, go_sem, Nat.reduceAdd, Nat.reduceMul, Nat.reduceSub]
  · simp (disch := first | decide | omega | (simp only [List.length_cons, List.length_nil, List.length_append, length_bvs, List.length_take, List.length_drop]; omega)) only [rowW, go_sem, Nat.reduceAdd, Nat.reduceMul, Nat.reduceSub]
def pWB : PW := fun xs l => match xs with
  | [.int .u8 (.ofNat n)] => bif Nat.blt n 256 && Nat.blt l.length 1000000000000 then some (.nilIface, l ++ [UInt8.ofNat n]) else none
  | _ => none
theorem pWB_eq {n : Nat} {l : List UInt8} (hn : n < 256) (hl : l.length < 1000000000000) : pWB [.int .u8 (n : Int)] l = some (.nilIface, l ++ [UInt8.ofNat n]) := by
  show (bif Nat.blt n 256 && Nat.blt l.length 1000000000000 then _ else none) = _
  rw [blt_t hn, blt_t hl]; rfl
theorem pWB_inv {xs : List Value} {l l' : List UInt8} {v : Value} (h : pWB xs l = some (v, l')) : ∃ n : Nat, xs = [.int .u8 (n : Int)] ∧ n < 256 ∧ l.length < 1000000000000 ∧ v = .nilIface ∧ l' = l ++ [UInt8.ofNat n] := by
  unfold pWB at h
  split at h
  · rename_i n
    cases hc : (Nat.blt n 256 && Nat.blt l.length 1000000000000) with
    | false => rw [hc] at h; cases h
    | true =>
      rw [hc] at h
      simp only [Bool.and_eq_true] at hc
      cases h
      exact ⟨n, rfl, Nat.le_of_ble_eq_true hc.1, Nat.le_of_ble_eq_true hc.2, rfl, rfl⟩
  · cases h
theorem okWB1 : HookOk Tryz.prog 25 (wtH pWB) := wt_ok (enters_of (by kernel_rfl)) (fun xs l v l' h => by
    obtain ⟨n, rfl, _, _, rfl, rfl⟩ := pWB_inv h
    exact ⟨bares_cons (bare_flat 1 rfl) bares_nil, bare_flat 8 rfl⟩) (fun xs l v l' h => by
    obtain ⟨n, rfl, hn, hl, rfl, rfl⟩ := pWB_inv h
    exact writeByteLocal l n hn hl)
def wrote (n : Nat) : Value := .tuple #[.int .i64 (n : Int), .nilIface]
theorem bare_wrote {n : Nat} : Bare (wrote n) := bare_tuple (bares_cons (bare_flat 1 rfl) (bares_cons (bare_flat 8 rfl) bares_nil))
def pWS : PW := fun xs l => match xs with
  | [.string b] => bif Nat.blt 0 b.data.toList.length && Nat.blt (l.length + b.data.toList.length) 1000000000000 then some (wrote b.data.toList.length, l ++ b.data.toList) else none
  | _ => none
theorem pWS_eq {m l : List UInt8} (hm : 0 < m.length) (hl : l.length + m.length < 1000000000000) : pWS [.string (str m)] l = some (wrote m.length, l ++ m) := by
  show (bif Nat.blt 0 (str m).data.toList.length && Nat.blt (l.length + (str m).data.toList.length) 1000000000000 then some (wrote (str m).data.toList.length, l ++ (str m).data.toList) else none) = _
  rw [str_list, blt_t hm, blt_t hl]; rfl
theorem pWS_inv {xs : List Value} {l l' : List UInt8} {v : Value} (h : pWS xs l = some (v, l')) : ∃ m, xs = [.string (str m)] ∧ m ≠ [] ∧ l.length + m.length < 1000000000000 ∧ v = wrote m.length ∧ l' = l ++ m := by
  unfold pWS at h
  split at h
  · rename_i b
    cases hc : (Nat.blt 0 b.data.toList.length && Nat.blt (l.length + b.data.toList.length) 1000000000000) with
    | false => rw [hc] at h; cases h
    | true =>
      rw [hc] at h
      simp only [Bool.and_eq_true] at hc
      cases h
      refine ⟨b.data.toList, by rw [str_data], fun e => ?_, Nat.le_of_ble_eq_true hc.2, rfl, rfl⟩
      have := Nat.le_of_ble_eq_true hc.1
      rw [e] at this
      exact absurd this (by decide)
  · cases h
def pWS0 : PQ := fun xs l => match xs with
  | [.string b] => bif Nat.beq b.data.toList.length 0 && Nat.blt l.length 1000000000000 then some (wrote 0) else none
  | _ => none
theorem pWS0_eq {l : List UInt8} (hl : l.length < 1000000000000) : pWS0 [.string (str [])] l = some (wrote 0) := by
  show (bif Nat.beq 0 0 && Nat.blt l.length 1000000000000 then some (wrote 0) else none) = _
  rw [blt_t hl]; rfl
theorem okWS : HookOk Tryz.prog 29 (orH (wtH pWS) (wqH pWS0)) := or_ok (wt_ok (enters_of (by kernel_rfl)) (fun xs l v l' h => by
    obtain ⟨m, rfl, _, _, rfl, rfl⟩ := pWS_inv h
    exact ⟨bares_cons bare_str bares_nil, bare_wrote⟩) (fun xs l v l' h => by
    obtain ⟨m, rfl, hm, hl, rfl, rfl⟩ := pWS_inv h
    exact writeStringLocal l m hm hl)) (by
    have inv : ∀ xs l v, pWS0 xs l = some v → xs = [.string (str [])] ∧ l.length < 1000000000000 ∧ v = wrote 0 := fun xs l v h => by
      unfold pWS0 at h
      split at h
      · rename_i b
        cases hc : (Nat.beq b.data.toList.length 0 && Nat.blt l.length 1000000000000) with
        | false => rw [hc] at h; cases h
        | true =>
          rw [hc] at h
          simp only [Bool.and_eq_true] at hc
          cases h
          have h0 : b.data.toList = [] := List.length_eq_zero_iff.1 (Nat.eq_of_beq_eq_true hc.1)
          refine ⟨?_, Nat.le_of_ble_eq_true hc.2, rfl⟩
          rw [← h0, str_data]
      · cases h
    exact wq_ok (enters_of (by kernel_rfl)) (fun xs l v h => by
      obtain ⟨rfl, _, rfl⟩ := inv _ _ _ h
      exact ⟨bares_cons bare_str bares_nil, bare_wrote⟩) (fun xs l v h => by
      obtain ⟨rfl, hl, rfl⟩ := inv _ _ _ h
      exact writeStringLocal0 l hl))
def pWr : PS := fun cs n l => match bytesOf cs with
  | some m => bif Nat.blt 0 m.length && Nat.beq m.length n && Nat.blt (l.length + m.length) 1000000000000 then some (wrote m.length, l ++ m) else none
  | none => none
theorem pWr_eq {m l : List UInt8} {n : Nat} (hm : 0 < m.length) (hn : m.length = n) (hl : l.length + m.length < 1000000000000) : pWr (bvs m) n l = some (wrote m.length, l ++ m) := by
  unfold pWr
  rw [bytesOf_bvs]
  simp only
  rw [blt_t hm, blt_t hl, beq_t hn]; rfl
theorem okWr : HookOk Tryz.prog 66 (wsH pWr) := by
  have inv : ∀ cs n l v l', pWr cs n l = some (v, l') → ∃ m, cs = bvs m ∧ n = m.length ∧ m ≠ [] ∧ l.length + m.length < 1000000000000 ∧ v = wrote m.length ∧ l' = l ++ m := fun cs n l v l' h => by
    unfold pWr at h
    cases hb : bytesOf cs with
    | none => rw [hb] at h; cases h
    | some m =>
      rw [hb] at h
      simp only at h
      cases hc : (Nat.blt 0 m.length && Nat.beq m.length n && Nat.blt (l.length + m.length) 1000000000000) with
      | false => rw [hc] at h; cases h
      | true =>
        rw [hc] at h
        simp only [Bool.and_eq_true] at hc
        cases h
        refine ⟨m, bytesOf_some hb, (Nat.eq_of_beq_eq_true hc.1.2).symm, fun e => ?_, Nat.le_of_ble_eq_true hc.2, rfl, rfl⟩
        have := Nat.le_of_ble_eq_true hc.1.1
        rw [e] at this
        exact absurd this (by decide)
  exact ws_ok (enters_of (by kernel_rfl)) (fun cs n l v l' h => by
    obtain ⟨m, rfl, rfl, _, _, rfl, rfl⟩ := inv _ _ _ _ _ h
    exact ⟨bares_bvs _, bare_wrote⟩) (fun cs n c t l v l' hc h => by
    obtain ⟨m, rfl, rfl, hm, hl, rfl, rfl⟩ := inv _ _ _ _ _ h
    exact writeLocal l m c t hm hl)
end Go.Proofs.YthlkgmdkabelpaaGreatDoor.X
namespace Go.Proofs.YthlkgmdkabelpaaGreatDoor.X
open Go Go.RowKit
theorem wtH_go {p : PW} {xs : List Value} {l l' : List UInt8} {v : Value} {W : XW} {w b : Nat} (hw : W.get w = some (wob w b l)) (hb : W.get b = some (rowW l)) (hwb : w ≠ b) (hp : p xs l = some (v, l')) :
    wtH p (.pointer (some ⟨w, 0, none⟩) :: xs) W = some (.ret v, ((W.put b none).push (rowW l')).put w (some (wob w W.next l'))) := by
  show wtO p xs W w (W.get w) = _
  rw [hw]
  show (bif Nat.beq 78 78 && Nat.beq w w && Nat.beq openCap openCap && !(Nat.beq w b) then wtR p xs W w b l.length (W.get b) else none) = _
  rw [Nat.beq_refl, Nat.beq_refl, Nat.beq_refl, beqF hwb, hb]
  show (bif Nat.beq 5 5 then wtL p xs W w b l.length (bytesOf (bvs l)) else none) = _
  rw [Nat.beq_refl, bytesOf_bvs]
  show (bif Nat.beq l.length l.length then wtK W w b (p xs l) else none) = _
  rw [Nat.beq_refl, hp]
  rfl
noncomputable def T22 : List (FuncId × HF) := [(25, wtH pWB)]
theorem base22 : Base Tryz.prog (hooksOf T22 []) := ⟨mixed, hooksOf_sim (.cons _ _ _ okWB1 .nil) .nil⟩
def wst (b : Nat) (l : List UInt8) : List (Nat × Option XObj) := [(0, some (wob 0 b l)), (b, some (rowW l))]
theorem go_byte {b n N : Nat} {l : List UInt8} {lg : List Nat} {nl : Nat} (hb : b = 1 ∨ b = 2) (hN : 3 ≤ N) (hN2 : N < 1000) (hn : n < 256) (hl : l.length < 1000000000000) :
    wtH pWB [.pointer (some ⟨0, 0, none⟩), .int .u8 (n : Int)] (wd (wst b l) N lg nl) = some (.ret .nilIface, wd ((0, some (wob 0 N (l ++ [UInt8.ofNat n]))) :: (N, some (rowW (l ++ [UInt8.ofNat n]))) :: (b, none) :: wst b l) (N + 1) (0 :: b :: lg) (nl + 1 + 1)) := by
  have hw : (wd (wst b l) N lg nl).get 0 = some (wob 0 b l) := by rw [wd_get (by omega) (by decide)]; rfl
  have hr : (wd (wst b l) N lg nl).get b = some (rowW l) := by
    rw [wd_get (by omega) (by omega)]
    unfold wst
    rw [lk_miss (by omega), lk_hit]
  rw [wtH_go hw hr (by omega) (pWB_eq hn hl)]
  rfl
structure DwS (n0 : Nat) (l0 : List UInt8) where
  n : Nat
  b : Nat
  acc : List UInt8
  hb : b = 1 ∨ b = 2
  hn : n < 18446744073709551616
  eq : acc ++ dU n = l0 ++ dU n0
theorem wDigitsLocal (l0 : List UInt8) (n0 : Nat) (h0 : n0 < 18446744073709551616) (hl0 : l0.length < 900000000000) : Local Tryz.prog 65 [.pointer (some ⟨0, 0, none⟩), .int .u64 (n0 : Int)] (wd [(0, some (wob 0 1 l0)), (1, some (rowW l0))] 2 [] 0) fun e W' => e = .ret (.tuple #[]) ∧ ∃ b', 2 ≤ b' ∧ W'.get 0 = some (wob 0 b' (l0 ++ dU n0)) ∧ W'.get b' = some (rowW (l0 ++ dU n0)) := by
  refine lit_local base22 Tryz.func65 rfl (Nat.le_of_ble_eq_true rfl) ?_
  simp only [frOfL.eq_1, frOfL.eq_2, wd_next, Tryz.ntmps65, Nat.reduceAdd]
  have h10 := dU_len10 h0
  refine xwp_seq (xwp_block ?_)
  refine xwp_le (chle_lit (F' := [(0, some (.pointer (some ⟨0, 0, none⟩))), (1, some (.int .u64 (n0 : Int)))]) (L' := wst 1 l0) (n' := 3) (lg' := []) (nl' := 0) (by simp (disch := decide) [AllLk, lk_hit, lk_miss, lk_nil]) (by simp (disch := decide) [AllLk, lk_hit, lk_miss, lk_nil, wst]) (by decide)) ?_
  refine xwp_loop (α := DwS n0 l0) (fun x => ⟨frm [(0, some (.pointer (some ⟨0, 0, none⟩))), (1, some (.int .u64 (x.n : Int)))], wd (wst x.b x.acc) 3 [] 0, []⟩) (fun x => x.n) ?_ ⟨n0, 1, l0, .inl rfl, h0, rfl⟩
  intro ⟨n, b, acc, hb, hn, heq⟩
  simp only
  have hla : acc.length + (dU n).length ≤ l0.length + 10 := by
    have := congrArg List.length heq
    rw [List.length_append, List.length_append] at this
    omega
  refine xwp_seq ?_
  by_cases hbig : 128 ≤ n
  · have hor : bitsI .or .u8 ((n % 128 : Nat) : Int) ((128 : Nat) : Int) = ((n % 128 + 128 : Nat) : Int) := by
      rw [bits_or .u8 rfl (show n % 128 < 256 by omega) (by decide), show (128 : Nat) = 1 * 2 ^ 7 from rfl, or_add (by omega)]
    have hgo := go_byte (N := 3) (lg := []) (nl := 0) hb (by decide) (by decide) (show n % 128 + 128 < 256 by omega) (l := acc) (by omega)
    refine xwp_seq (xwp_region (e := ?e1) (s' := ?s1) base22 ?h1 ?q1)
    case h1 =>
      simp (disch := first | decide | omega | (simp only [List.length_cons, List.length_nil, List.length_append, length_bvs, List.length_take, List.length_drop]; omega)) only [go_sem, Nat.reduceAdd, Nat.reduceMul, Nat.reduceSub]
      all_goals with_reducible rfl
    case q1 =>
    refine xwp_ct ?h2 ?q2
    case h2 =>
      simp (disch := first | decide | omega | (simp only [List.length_cons, List.length_nil, List.length_append, length_bvs, List.length_take, List.length_drop]; omega)) only [go_sem, Nat.reduceAdd, Nat.reduceMul, Nat.reduceSub]
      all_goals with_reducible rfl
    case q2 =>
    refine xwp_skip ?_
    refine xwp_seq (xwp_block ?_)
    refine xwp_region (e := ?e3) (s' := ?s3) base22 ?h3 ?q3
    case h3 =>
      simp (disch := first | decide | omega | (simp only [List.length_cons, List.length_nil, List.length_append, length_bvs, List.length_take, List.length_drop]; omega)) only [T22, hor, hgo, go_sem, Nat.reduceAdd, Nat.reduceMul, Nat.reduceSub]
      all_goals with_reducible rfl
    case q3 =>
    show XWp _ _ _ _ _ _
    refine xwp_region (e := ?e4) (s' := ?s4) base22 ?h4 ?q4
    case h4 =>
      simp (disch := first | decide | omega | (simp only [List.length_cons, List.length_nil, List.length_append, length_bvs, List.length_take, List.length_drop]; omega)) only [go_sem, Nat.reduceAdd, Nat.reduceMul, Nat.reduceSub]
      all_goals with_reducible rfl
    case q4 =>
    refine ⟨⟨n / 2 ^ 7, 2, acc ++ [UInt8.ofNat (n % 128 + 128)], .inr rfl, by omega, by rw [← heq, dU_big hbig, show n / 2 ^ 7 = n / 128 from rfl]; simp⟩, by simp only; omega, ?_⟩
    exact chle_ren_lit [(0, some 0), (3, some 2)] [(2, some 3)] (by decide) (by decide) (by decide)
      (allTv_cons (v := .pointer (some ⟨0, 0, none⟩)) (by decide) (by simp (disch := first | decide | omega) only [lk_hit, lk_miss]) (tv_ptr (by simp (disch := first | decide | omega) only [lk_hit, lk_miss])) (allTv_cons (v := .int .u64 ((n / 2 ^ 7 : Nat) : Int)) (by decide) (by simp (disch := first | decide | omega) only [lk_hit, lk_miss]) (tv_flat 1 rfl) allTv_nil))
      (allTo_cons (o := wob 0 3 (acc ++ [UInt8.ofNat (n % 128 + 128)])) 0 (by simp (disch := first | decide | omega) only [lk_hit, lk_miss]) (by decide) (by decide) (by simp (disch := first | decide | omega) only [lk_hit, lk_miss]) (to_tvs (tvs_cons (tv_ptr (by simp (disch := first | decide | omega) only [lk_hit, lk_miss])) (tvs_cons (tv_slice (by simp (disch := first | decide | omega) only [lk_hit, lk_miss])) tvs_nil)))
      (allTo_cons (o := rowW (acc ++ [UInt8.ofNat (n % 128 + 128)])) 3 (by simp (disch := first | decide | omega) only [lk_hit, lk_miss]) (by decide) (by decide) (by simp (disch := first | decide | omega) only [lk_hit, lk_miss]) (bareO_rowW _ names_fz) allTo_nil)) .nil
  · rw [dU_small (by omega)] at heq
    have hgo := go_byte (N := 3) (lg := []) (nl := 0) hb (by decide) (by decide) (show n < 256 by omega) (l := acc) (by omega)
    refine xwp_seq (xwp_region (e := ?e5) (s' := ?s5) base22 ?h5 ?q5)
    case h5 =>
      simp (disch := first | decide | omega | (simp only [List.length_cons, List.length_nil, List.length_append, length_bvs, List.length_take, List.length_drop]; omega)) only [go_sem, Nat.reduceAdd, Nat.reduceMul, Nat.reduceSub]
      all_goals with_reducible rfl
    case q5 =>
    refine xwp_cf ?h6 ?q6
    case h6 =>
      simp (disch := first | decide | omega | (simp only [List.length_cons, List.length_nil, List.length_append, length_bvs, List.length_take, List.length_drop]; omega)) only [go_sem, Nat.reduceAdd, Nat.reduceMul, Nat.reduceSub]
      all_goals with_reducible rfl
    case q6 =>
    refine xwp_exit ?_
    show XWp _ _ _ _ _ _
    refine xwp_region (e := ?e7) (s' := ?s7) base22 ?h7 ?q7
    case h7 =>
      simp (disch := first | decide | omega | (simp only [List.length_cons, List.length_nil, List.length_append, length_bvs, List.length_take, List.length_drop]; omega)) only [T22, hgo, go_sem, Nat.reduceAdd, Nat.reduceMul, Nat.reduceSub]
      all_goals with_reducible rfl
    case q7 =>
    refine ⟨_, ?e8, ?W8, rfl, ?h8, ?q8⟩
    case h8 =>
      simp (disch := first | decide | omega | (simp only [List.length_cons, List.length_nil, List.length_append, length_bvs, List.length_take, List.length_drop]; omega)) only [Tryz.results65, go_sem, Nat.reduceAdd, Nat.reduceMul, Nat.reduceSub]
      all_goals with_reducible rfl
    case q8 =>
    rw [← heq]
    refine ⟨rfl, 3, by decide, ?_, ?_⟩
    · simp (disch := first | decide | omega | (simp only [List.length_cons, List.length_nil, List.length_append, length_bvs, List.length_take, List.length_drop]; omega)) only [go_sem, Nat.reduceAdd, Nat.reduceMul, Nat.reduceSub]
    · simp (disch := first | decide | omega | (simp only [List.length_cons, List.length_nil, List.length_append, length_bvs, List.length_take, List.length_drop]; omega)) only [go_sem, Nat.reduceAdd, Nat.reduceMul, Nat.reduceSub]
def pWD : PW := fun xs l => match xs with
  | [.int .u64 (.ofNat n)] => bif Nat.blt n 18446744073709551616 && Nat.blt l.length 900000000000 then some (.tuple #[], l ++ dU n) else none
  | _ => none
theorem pWD_eq {n : Nat} {l : List UInt8} (hn : n < 18446744073709551616) (hl : l.length < 900000000000) : pWD [.int .u64 (n : Int)] l = some (.tuple #[], l ++ dU n) := by
  show (bif Nat.blt n 18446744073709551616 && Nat.blt l.length 900000000000 then _ else none) = _
  rw [blt_t hn, blt_t hl]; rfl
theorem okWD : HookOk Tryz.prog 65 (wtH pWD) := by
  have inv : ∀ xs l v l', pWD xs l = some (v, l') → ∃ n : Nat, xs = [.int .u64 (n : Int)] ∧ n < 18446744073709551616 ∧ l.length < 900000000000 ∧ v = .tuple #[] ∧ l' = l ++ dU n := fun xs l v l' h => by
    unfold pWD at h
    split at h
    · rename_i n
      cases hc : (Nat.blt n 18446744073709551616 && Nat.blt l.length 900000000000) with
      | false => rw [hc] at h; cases h
      | true =>
        rw [hc] at h
        simp only [Bool.and_eq_true] at hc
        cases h
        exact ⟨n, rfl, Nat.le_of_ble_eq_true hc.1, Nat.le_of_ble_eq_true hc.2, rfl, rfl⟩
    · cases h
  exact wt_ok (enters_of (by kernel_rfl)) (fun xs l v l' h => by
    obtain ⟨n, rfl, _, _, rfl, rfl⟩ := inv _ _ _ _ h
    exact ⟨bares_cons (bare_flat 1 rfl) bares_nil, bare_flat 8 rfl⟩) (fun xs l v l' h => by
    obtain ⟨n, rfl, hn, hl, rfl, rfl⟩ := inv _ _ _ _ h
    exact wDigitsLocal l n hn hl)
end Go.Proofs.YthlkgmdkabelpaaGreatDoor.X
namespace Go.Proofs.YthlkgmdkabelpaaGreatDoor.X
open Go Go.RowKit
theorem wsH_go {p : PS} {l l' : List UInt8} {v : Value} {W : XW} {w b r m c : Nat} {cs : List Value} {t : TypeId} (hw : W.get w = some (wob w b l)) (hb : W.get b = some (rowW l)) (hr : W.get r = some (.cells cs t (0, 0))) (hwb : w ≠ b) (hrw : r ≠ w) (hrb : r ≠ b) (hmc : m ≤ c) (hp : p cs m l = some (v, l')) :
    wsH p [.pointer (some ⟨w, 0, none⟩), .slice (some ⟨r, 0, none⟩) m c] W = some (.ret v, (((W.put r none).put b none).push (rowW l')).put w (some (wob w W.next l'))) := by
  show wsO p r m c W w (W.get w) = _
  rw [hw]
  show (bif Nat.beq 78 78 && Nat.beq w w && Nat.beq openCap openCap && !(Nat.beq w b) then wsB p r m c W w b l.length (W.get b) else none) = _
  rw [Nat.beq_refl, Nat.beq_refl, Nat.beq_refl, beqF hwb, hb]
  show (bif Nat.beq 5 5 then wsK p r m c W w b l.length (bytesOf (bvs l)) else none) = _
  rw [Nat.beq_refl, bytesOf_bvs]
  show (bif Nat.beq l.length l.length then wsR p W w b l.length r m c l (W.get r) else none) = _
  rw [Nat.beq_refl, hr]
  show (bif Nat.ble m c && !(Nat.beq r w) && !(Nat.beq r b) then wtK (W.put r none) w b (p cs m l) else none) = _
  rw [ble_t hmc, beqF hrw, beqF hrb, hp]
  rfl
noncomputable def T23 : List (FuncId × HF) := [(65, wtH pWD), (66, wsH pWr)]
theorem base23 : Base Tryz.prog (hooksOf T23 []) := ⟨mixed, hooksOf_sim (.cons _ _ _ okWD (.cons _ _ _ okWr .nil)) .nil⟩
theorem wManyLocal (l : List UInt8) (n : Nat) (hn : n < 9223372036854775808) (hl : l.length < 900000000000) : Local Tryz.prog 26 [.pointer (some ⟨0, 0, none⟩), .int .i64 (n : Int)] (wd [(0, some (wob 0 1 l)), (1, some (rowW l))] 2 [] 0) fun e W' => e = .ret (.tuple #[]) ∧ ∃ b', 2 ≤ b' ∧ W'.get 0 = some (wob 0 b' (l ++ dU n)) ∧ W'.get b' = some (rowW (l ++ dU n)) := by
  refine lit_local base23 Tryz.func26 rfl (Nat.le_of_ble_eq_true rfl) ?_
  simp only [frOfL.eq_1, frOfL.eq_2, wd_next, Tryz.ntmps26, Nat.reduceAdd]
  have hgo := wtH_go (p := pWD) (W := wd [(0, some (wob 0 1 l)), (1, some (rowW l))] 2 [] 0) (w := 0) (b := 1) (by rw [wd_get (by decide) (by decide), lk_hit]) (by rw [wd_get (by decide) (by decide), lk_miss (by decide), lk_hit]) (by decide) (pWD_eq (show n < 18446744073709551616 by omega) hl)
  refine xwp_region (e := ?e1) (s' := ?s1) base23 ?h1 ?q1
  case h1 =>
    simp (disch := first | decide | omega | (simp only [List.length_cons, List.length_nil, List.length_append, length_bvs, List.length_take, List.length_drop]; omega)) only [T23, hgo, go_sem, Nat.reduceAdd, Nat.reduceMul, Nat.reduceSub]
    all_goals with_reducible rfl
  case q1 =>
  refine ⟨_, ?e2, ?W2, rfl, ?h2, ?q2⟩
  case h2 =>
    simp (disch := first | decide | omega | (simp only [List.length_cons, List.length_nil, List.length_append, length_bvs, List.length_take, List.length_drop]; omega)) only [Tryz.results26, go_sem, Nat.reduceAdd, Nat.reduceMul, Nat.reduceSub]
    all_goals with_reducible rfl
  case q2 =>
  refine ⟨rfl, 2, by decide, ?_, ?_⟩
  · simp (disch := first | decide | omega | (simp only [List.length_cons, List.length_nil, List.length_append, length_bvs, List.length_take, List.length_drop]; omega)) only [go_sem, Nat.reduceAdd, Nat.reduceMul, Nat.reduceSub]
  · simp (disch := first | decide | omega | (simp only [List.length_cons, List.length_nil, List.length_append, length_bvs, List.length_take, List.length_drop]; omega)) only [go_sem, Nat.reduceAdd, Nat.reduceMul, Nat.reduceSub]
theorem wHashLocal (l h : List UInt8) (hh : h.length = 32) (hl : l.length < 900000000000) : Local Tryz.prog 27 [.pointer (some ⟨0, 0, none⟩), .agg (bvs h).toArray] (wd [(0, some (wob 0 1 l)), (1, some (rowW l))] 2 [] 0) fun e W' => e = .ret (.tuple #[]) ∧ ∃ b', 2 ≤ b' ∧ W'.get 0 = some (wob 0 b' (l ++ h)) ∧ W'.get b' = some (rowW (l ++ h)) := by
  refine lit_local base23 Tryz.func27 rfl (Nat.le_of_ble_eq_true rfl) ?_
  simp only [frOfL.eq_1, frOfL.eq_2, wd_next, Tryz.ntmps27, Nat.reduceAdd]
  have hgo := fun c (hc : 32 ≤ c) => wsH_go (p := pWr) (W := wd [(2, some (.cells (bvs h) 32 (0, 0))), (0, some (wob 0 1 l)), (1, some (rowW l))] 3 [] 0) (w := 0) (b := 1) (r := 2) (m := 32) (c := c) (by rw [wd_get (by decide) (by decide), lk_miss (by decide), lk_hit]) (by rw [wd_get (by decide) (by decide), lk_miss (by decide), lk_miss (by decide), lk_hit]) (by rw [wd_get (by decide) (by decide), lk_hit]) (by decide) (by decide) (by decide) hc (pWr_eq (m := h) (by omega) hh (show l.length + h.length < 1000000000000 by omega))
  refine xwp_seq (xwp_region (e := ?e3) (s' := ?s3) base23 ?h3 ?q3)
  case h3 =>
    simp (disch := first | decide | omega | (simp only [List.length_cons, List.length_nil, List.length_append, length_bvs, List.length_take, List.length_drop]; omega)) only [go_sem, Nat.reduceAdd, Nat.reduceMul, Nat.reduceSub]
    all_goals with_reducible rfl
  case q3 =>
  refine xwp_drawn base23 (rs := ?rs) (s' := ?ss) ?hz ?kz ?qz
  case hz =>
    simp (disch := first | decide | omega | (simp only [List.length_cons, List.length_nil, List.length_append, length_bvs, List.length_take, List.length_drop]; omega)) only [traceX.eq_1, traceX.eq_2, trc1.eq_1, trcK.eq_1, trcK.eq_2, traceD_nil, traceD_t, traceD_f, holeK.eq_1, holeK.eq_2, T23, hh, hgo, go_sem, Nat.reduceAdd, Nat.reduceMul, Nat.reduceSub]
    all_goals with_reducible rfl
  case kz => kernel_rfl
  case qz =>
  refine ⟨_, ?e4, ?W4, rfl, ?h4, ?q4⟩
  case h4 =>
    simp (disch := first | decide | omega | (simp only [List.length_cons, List.length_nil, List.length_append, length_bvs, List.length_take, List.length_drop]; omega)) only [Tryz.results27, go_sem, Nat.reduceAdd, Nat.reduceMul, Nat.reduceSub]
    all_goals with_reducible rfl
  case q4 =>
  refine ⟨rfl, 3, by decide, ?_, ?_⟩
  · simp (disch := first | decide | omega | (simp only [List.length_cons, List.length_nil, List.length_append, length_bvs, List.length_take, List.length_drop]; omega)) only [go_sem, Nat.reduceAdd, Nat.reduceMul, Nat.reduceSub]
  · simp (disch := first | decide | omega | (simp only [List.length_cons, List.length_nil, List.length_append, length_bvs, List.length_take, List.length_drop]; omega)) only [go_sem, Nat.reduceAdd, Nat.reduceMul, Nat.reduceSub]
def pWM : PW := fun xs l => match xs with
  | [.int .i64 (.ofNat n)] => bif Nat.blt n 9223372036854775808 && Nat.blt l.length 900000000000 then some (.tuple #[], l ++ dU n) else none
  | _ => none
theorem pWM_eq {n : Nat} {l : List UInt8} (hn : n < 9223372036854775808) (hl : l.length < 900000000000) : pWM [.int .i64 (n : Int)] l = some (.tuple #[], l ++ dU n) := by
  show (bif Nat.blt n 9223372036854775808 && Nat.blt l.length 900000000000 then _ else none) = _
  rw [blt_t hn, blt_t hl]; rfl
theorem okWM : HookOk Tryz.prog 26 (wtH pWM) := by
  have inv : ∀ xs l v l', pWM xs l = some (v, l') → ∃ n : Nat, xs = [.int .i64 (n : Int)] ∧ n < 9223372036854775808 ∧ l.length < 900000000000 ∧ v = .tuple #[] ∧ l' = l ++ dU n := fun xs l v l' h => by
    unfold pWM at h
    split at h
    · rename_i n
      cases hc : (Nat.blt n 9223372036854775808 && Nat.blt l.length 900000000000) with
      | false => rw [hc] at h; cases h
      | true =>
        rw [hc] at h
        simp only [Bool.and_eq_true] at hc
        cases h
        exact ⟨n, rfl, Nat.le_of_ble_eq_true hc.1, Nat.le_of_ble_eq_true hc.2, rfl, rfl⟩
    · cases h
  exact wt_ok (enters_of (by kernel_rfl)) (fun xs l v l' h => by
    obtain ⟨n, rfl, _, _, rfl, rfl⟩ := inv _ _ _ _ h
    exact ⟨bares_cons (bare_flat 1 rfl) bares_nil, bare_flat 8 rfl⟩) (fun xs l v l' h => by
    obtain ⟨n, rfl, hn, hl, rfl, rfl⟩ := inv _ _ _ _ h
    exact wManyLocal l n hn hl)
def pWH : PW := fun xs l => match xs with
  | [.agg cs] => match bytesOf cs.toList with
    | some h => bif Nat.beq h.length 32 && Nat.blt l.length 900000000000 then some (.tuple #[], l ++ h) else none
    | none => none
  | _ => none
theorem pWH_eq {l h : List UInt8} (hh : h.length = 32) (hl : l.length < 900000000000) : pWH [.agg (bvs h).toArray] l = some (.tuple #[], l ++ h) := by
  show (match bytesOf (bvs h) with
    | some h => bif Nat.beq h.length 32 && Nat.blt l.length 900000000000 then some (.tuple #[], l ++ h) else none
    | none => none : Option (Value × List UInt8)) = _
  rw [bytesOf_bvs]
  simp only
  rw [beq_t hh, blt_t hl]; rfl
theorem okWH : HookOk Tryz.prog 27 (wtH pWH) := by
  have inv : ∀ xs l v l', pWH xs l = some (v, l') → ∃ h : List UInt8, xs = [.agg (bvs h).toArray] ∧ h.length = 32 ∧ l.length < 900000000000 ∧ v = .tuple #[] ∧ l' = l ++ h := fun xs l v l' h => by
    unfold pWH at h
    split at h
    · rename_i cs
      cases hb : bytesOf cs.toList with
      | none => rw [hb] at h; cases h
      | some q =>
        rw [hb] at h
        simp only at h
        cases hc : (Nat.beq q.length 32 && Nat.blt l.length 900000000000) with
        | false => rw [hc] at h; cases h
        | true =>
          rw [hc] at h
          simp only [Bool.and_eq_true] at hc
          cases h
          exact ⟨q, by rw [← bytesOf_some hb], Nat.eq_of_beq_eq_true hc.1, Nat.le_of_ble_eq_true hc.2, rfl, rfl⟩
    · cases h
  exact wt_ok (enters_of (by kernel_rfl)) (fun xs l v l' h => by
    obtain ⟨q, rfl, _, _, rfl, rfl⟩ := inv _ _ _ _ h
    exact ⟨bares_cons (bare_agg (bares_bvs _)) bares_nil, bare_flat 8 rfl⟩) (fun xs l v l' h => by
    obtain ⟨q, rfl, hq, hl, rfl, rfl⟩ := inv _ _ _ _ h
    exact wHashLocal l q hq hl)
end Go.Proofs.YthlkgmdkabelpaaGreatDoor.X
namespace Go.Proofs.YthlkgmdkabelpaaGreatDoor.X
open Go Go.RowKit
def ints (vs : List Int) : List Value := vs.map fun a => .int .i64 a
theorem iad_sl {P : Program} {n b o i c : Nat} {e : TypeId} {k : IntKind} : iadX P (some (.slice e)) (some (.slice (some ⟨b, o, none⟩) n c)) (some (.int k ((i : Nat) : Int))) = iad1 b o i n (sz P e) := rfl
theorem ints_get {vs : List Int} {i : Nat} (h : i < vs.length) : (ints vs)[i]? = some (.int .i64 vs[i]) := by
  unfold ints
  rw [List.getElem?_map, List.getElem?_eq_getElem h]; rfl
theorem wrapU (x : Int) : IntKind.u64.wrap x = x % 18446744073709551616 := by
  unfold IntKind.wrap
  rfl
theorem zz_bits {a : Int} (h : I64 a) : bitsI .xor .u64 (IntKind.u64.wrap (IntKind.u64.wrap a * ((2 ^ 1 : Nat) : Int))) (IntKind.u64.wrap (a.fdiv ((2 ^ 63 : Nat) : Int))) = (zz a : Int) := by
  obtain ⟨h1, h2⟩ := h
  have e63 : ((2 ^ 63 : Nat) : Int) = 9223372036854775808 := rfl
  have e1 : ((2 ^ 1 : Nat) : Int) = 2 := rfl
  rw [e63, e1]
  unfold zz bitsI
  simp only
  by_cases hn : a < 0
  · rw [if_pos hn]
    have hd : a.fdiv 9223372036854775808 = -1 := by
      rw [Int.fdiv_eq_ediv_of_nonneg _ (by decide)]; omega
    rw [hd, wrapU (-1), show (-1 : Int) % 18446744073709551616 = 18446744073709551615 from rfl]
    have e2 : BitVec.ofInt IntKind.u64.bits 18446744073709551615 = BitVec.allOnes IntKind.u64.bits := rfl
    rw [e2, BitVec.xor_allOnes, BitVec.toNat_not, BitVec.toNat_ofInt, wrapU, wrapU, wrapU, bits_u64]
    omega
  · rw [if_neg hn]
    have hd : a.fdiv 9223372036854775808 = 0 := by
      rw [Int.fdiv_eq_ediv_of_nonneg _ (by decide)]; omega
    rw [hd, wrapU 0, show (0 : Int) % 18446744073709551616 = 0 from rfl, show BitVec.ofInt IntKind.u64.bits 0 = 0#IntKind.u64.bits from rfl, BitVec.xor_zero, BitVec.toNat_ofInt, wrapU, wrapU, wrapU, bits_u64]
    omega
theorem bares_ints (vs : List Int) : Bares (ints vs) := bares_all fun v hv => by
  obtain ⟨a, _, rfl⟩ := List.mem_map.1 hv
  exact bare_flat 1 rfl
structure CdS (vs : List Int) (l0 : List UInt8) where
  i : Nat
  b : Nat
  acc : List UInt8
  hb : b = 1 ∨ b = 3
  hb0 : 0 < i → b = 3
  hi : i ≤ vs.length
  eq : acc = l0 ++ (vs.take i).flatMap cU
theorem wCodesLocal (l0 : List UInt8) (vs : List Int) (c : Nat) (t : TypeId) (hc : vs.length ≤ c) (ha : ∀ a ∈ vs, I64 a) (hn : vs.length ≤ 100) (hv : vs ≠ []) (hl0 : l0.length < 800000000000) : Local Tryz.prog 28 [.pointer (some ⟨0, 0, none⟩), .slice (some ⟨2, 0, none⟩) vs.length c] (wd [(0, some (wob 0 1 l0)), (1, some (rowW l0)), (2, some (.cells (ints vs) t (0, 0)))] 3 [] 0) fun e W' => e = .ret (.tuple #[]) ∧ ∃ b', 3 ≤ b' ∧ W'.get 0 = some (wob 0 b' (l0 ++ vs.flatMap cU)) ∧ W'.get b' = some (rowW (l0 ++ vs.flatMap cU)) := by
  refine lit_local base23 Tryz.func28 rfl (Nat.le_of_ble_eq_true rfl) ?_
  simp only [frOfL.eq_1, frOfL.eq_2, wd_next, Tryz.ntmps28, Nat.reduceAdd]
  refine xwp_seq (xwp_region (e := ?e1) (s' := ?s1) base23 ?h1 ?q1)
  case h1 =>
    simp (disch := first | decide | omega | (simp only [List.length_cons, List.length_nil, List.length_append, length_bvs, List.length_take, List.length_drop]; omega)) only [go_sem, Nat.reduceAdd, Nat.reduceMul, Nat.reduceSub]
    all_goals with_reducible rfl
  case q1 =>
  refine xwp_block ?_
  refine xwp_le (chle_lit (F' := [(0, some (.pointer (some ⟨0, 0, none⟩))), (6, some (.slice (some ⟨2, 0, none⟩) vs.length c)), (7, some (.int .i64 (vs.length : Int))), (8, some (.int .i64 ((0 : Nat) : Int)))]) (L' := [(0, some (wob 0 1 l0)), (1, some (rowW l0)), (2, some (.cells (ints vs) t (0, 0)))]) (n' := 4) (lg' := []) (nl' := 0) (by simp (disch := decide) [AllLk, lk_hit, lk_miss, lk_nil]) (by simp (disch := decide) [AllLk, lk_hit, lk_miss, lk_nil]) (by decide)) ?_
  refine xwp_loop (α := CdS vs l0) (fun x => ⟨frm [(0, some (.pointer (some ⟨0, 0, none⟩))), (6, some (.slice (some ⟨2, 0, none⟩) vs.length c)), (7, some (.int .i64 (vs.length : Int))), (8, some (.int .i64 (x.i : Int)))], wd [(0, some (wob 0 x.b x.acc)), (x.b, some (rowW x.acc)), (2, some (.cells (ints vs) t (0, 0)))] 4 [] 0, []⟩) (fun x => vs.length - x.i) ?_ ⟨0, 1, l0, .inl rfl, fun h => absurd h (by decide), Nat.zero_le _, by simp⟩
  intro ⟨i, b, acc, hb, hb0, hi, heq⟩
  simp only
  by_cases hlt : i < vs.length
  · have hra := ha _ (List.getElem_mem hlt)
    have hst := flat_take (f := cU) hlt
    have hgt := ints_get hlt
    obtain ⟨a, hae⟩ : ∃ a, a = vs[i] := ⟨_, rfl⟩
    rw [← hae] at hra hst hgt
    have hil : (ints vs).length = vs.length := List.length_map _
    refine xwp_seq (xwp_region (e := ?e2) (s' := ?s2) base23 ?h2 ?q2)
    case h2 =>
      simp (disch := first | decide | omega | (simp only [List.length_cons, List.length_nil, List.length_append, length_bvs, List.length_take, List.length_drop]; omega)) only [go_sem, Nat.reduceAdd, Nat.reduceMul, Nat.reduceSub]
      all_goals with_reducible rfl
    case q2 =>
    refine xwp_seq (xwp_ct ?h3 ?q3)
    case h3 =>
      simp (disch := first | decide | omega | (simp only [List.length_cons, List.length_nil, List.length_append, length_bvs, List.length_take, List.length_drop]; omega)) only [go_sem, Nat.reduceAdd, Nat.reduceMul, Nat.reduceSub]
      all_goals with_reducible rfl
    case q3 =>
    refine xwp_skip ?_
    refine xwp_seq (xwp_block ?_)
    have hb2 : b ≠ 2 := by omega
    refine xwp_seq (xwp_region (e := ?e4) (s' := ?s4) base23 ?h4 ?q4)
    case h4 =>
      simp (disch := first | decide | omega | (simp only [List.length_cons, List.length_nil, List.length_append, length_bvs, List.length_take, List.length_drop]; omega)) only [hil, hgt, iad_sl, Nat.mul_one, go_sem, Nat.reduceAdd, Nat.reduceMul, Nat.reduceSub]
      all_goals with_reducible rfl
    case q4 =>
    have hal : acc.length ≤ l0.length + 1000 := by
      rw [heq, List.length_append]
      have h1 := flat_len (f := cU) (m := 10) (l := vs.take i) fun x hx => cU_len (ha x (List.mem_of_mem_take hx))
      have h2 : (vs.take i).length ≤ 100 := by rw [List.length_take]; omega
      omega
    have hgo := wtH_go (p := pWD) (W := wd [(0, some (wob 0 b acc)), (b, some (rowW acc)), (2, some (.cells (ints vs) t (0, 0)))] 4 [] 0) (w := 0) (b := b) (by rw [wd_get (by decide) (by decide), lk_hit]) (by rw [wd_get (by omega) (by omega), lk_miss (by omega), lk_hit]) (by omega) (pWD_eq (zz_lt hra) (by omega))
    refine xwp_region (e := ?e5) (s' := ?s5) base23 ?h5 ?q5
    case h5 =>
      simp (disch := first | decide | omega | (simp only [List.length_cons, List.length_nil, List.length_append, length_bvs, List.length_take, List.length_drop]; omega)) only [T23, zz_bits hra, hgo, go_sem, Nat.reduceAdd, Nat.reduceMul, Nat.reduceSub]
      all_goals with_reducible rfl
    case q5 =>
    show XWp _ _ _ _ _ _
    refine xwp_region (e := ?e6) (s' := ?s6) base23 ?h6 ?q6
    case h6 =>
      simp (disch := first | decide | omega | (simp only [List.length_cons, List.length_nil, List.length_append, length_bvs, List.length_take, List.length_drop]; omega)) only [go_sem, Nat.reduceAdd, Nat.reduceMul, Nat.reduceSub]
      all_goals with_reducible rfl
    case q6 =>
    refine ⟨⟨i + 1, 3, acc ++ cU a, .inr rfl, fun _ => rfl, hlt, by rw [heq, List.append_assoc, hst]⟩, by simp only; omega, ?_⟩
    exact chle_ren_lit [(0, some 0), (2, some 2), (4, some 3)] [(3, some 4)] (by decide) (by decide) (by decide)
      (allTv_cons (v := .pointer (some ⟨0, 0, none⟩)) (by decide) (by simp (disch := first | decide | omega) only [lk_hit, lk_miss]) (tv_ptr (by simp (disch := first | decide | omega) only [lk_hit, lk_miss])) (allTv_cons (v := .slice (some ⟨2, 0, none⟩) vs.length c) (by decide) (by simp (disch := first | decide | omega) only [lk_hit, lk_miss]) (tv_slice (by simp (disch := first | decide | omega) only [lk_hit, lk_miss])) (allTv_cons (v := .int .i64 (vs.length : Int)) (by decide) (by simp (disch := first | decide | omega) only [lk_hit, lk_miss]) (tv_flat 1 rfl) (allTv_cons (v := .int .i64 ((i + 1 : Nat) : Int)) (by decide) (by simp (disch := first | decide | omega) only [lk_hit, lk_miss]) (tv_flat 1 rfl) allTv_nil))))
      (allTo_cons (o := wob 0 4 (acc ++ cU a)) 0 (by simp (disch := first | decide | omega) only [lk_hit, lk_miss]) (by decide) (by decide) (by simp (disch := first | decide | omega) only [lk_hit, lk_miss]; all_goals rfl) (to_tvs (tvs_cons (tv_ptr (by simp (disch := first | decide | omega) only [lk_hit, lk_miss])) (tvs_cons (tv_slice (by simp (disch := first | decide | omega) only [lk_hit, lk_miss])) tvs_nil)))
      (allTo_cons (o := rowW (acc ++ cU a)) 4 (by simp (disch := first | decide | omega) only [lk_hit, lk_miss]) (by decide) (by decide) (by simp (disch := first | decide | omega) only [lk_hit, lk_miss]; all_goals rfl) (bareO_rowW _ names_fz)
      (allTo_cons (o := .cells (ints vs) t (0, 0)) 2 (by simp (disch := first | decide | omega) only [lk_hit, lk_miss]) (by decide) (by decide) (by simp (disch := first | decide | omega) only [lk_hit, lk_miss]) (to_bareO names_fz (bareO_bares (bares_ints _))) allTo_nil))) .nil
  · refine xwp_seq (xwp_region (e := ?e7) (s' := ?s7) base23 ?h7 ?q7)
    case h7 =>
      simp (disch := first | decide | omega | (simp only [List.length_cons, List.length_nil, List.length_append, length_bvs, List.length_take, List.length_drop]; omega)) only [go_sem, Nat.reduceAdd, Nat.reduceMul, Nat.reduceSub]
      all_goals with_reducible rfl
    case q7 =>
    refine xwp_seq (xwp_cf ?h8 ?q8)
    case h8 =>
      simp (disch := first | decide | omega | (simp only [List.length_cons, List.length_nil, List.length_append, length_bvs, List.length_take, List.length_drop]; omega)) only [go_sem, Nat.reduceAdd, Nat.reduceMul, Nat.reduceSub]
      all_goals with_reducible rfl
    case q8 =>
    refine xwp_exit ?_
    have hin : i = vs.length := by omega
    have hv0 : vs.length ≠ 0 := fun e => hv (List.length_eq_zero_iff.1 e)
    have hb3 := hb0 (by omega)
    subst hb3
    rw [hin, List.take_length] at heq
    refine ⟨_, ?e9, ?W9, rfl, ?h9, ?q9⟩
    case h9 =>
      simp (disch := first | decide | omega | (simp only [List.length_cons, List.length_nil, List.length_append, length_bvs, List.length_take, List.length_drop]; omega)) only [Tryz.results28, go_sem, Nat.reduceAdd, Nat.reduceMul, Nat.reduceSub]
      all_goals with_reducible rfl
    case q9 =>
    rw [← heq]
    refine ⟨rfl, 3, by decide, ?_, ?_⟩
    · simp (disch := first | decide | omega | (simp only [List.length_cons, List.length_nil, List.length_append, length_bvs, List.length_take, List.length_drop]; omega)) only [go_sem, Nat.reduceAdd, Nat.reduceMul, Nat.reduceSub]
    · simp (disch := first | decide | omega | (simp only [List.length_cons, List.length_nil, List.length_append, length_bvs, List.length_take, List.length_drop]; omega)) only [go_sem, Nat.reduceAdd, Nat.reduceMul, Nat.reduceSub]
open Classical in
noncomputable def pWC : PS := fun cs n l => if h : ∃ vs : List Int, cs = ints vs ∧ n = vs.length ∧ (∀ a ∈ vs, I64 a) ∧ vs.length ≤ 100 ∧ vs ≠ [] ∧ l.length < 800000000000 then some (.tuple #[], l ++ h.choose.flatMap cU) else none
theorem ints_inj {a b : List Int} (h : ints a = ints b) : a = b := by
  unfold ints at h
  exact (List.map_inj_right (fun x y e => by cases e; rfl)).1 h
theorem pWC_eq {vs : List Int} {l : List UInt8} (ha : ∀ a ∈ vs, I64 a) (hn : vs.length ≤ 100) (hv : vs ≠ []) (hl : l.length < 800000000000) : pWC (ints vs) vs.length l = some (.tuple #[], l ++ vs.flatMap cU) := by
  have h : ∃ us : List Int, ints vs = ints us ∧ vs.length = us.length ∧ (∀ a ∈ us, I64 a) ∧ us.length ≤ 100 ∧ us ≠ [] ∧ l.length < 800000000000 := ⟨vs, rfl, rfl, ha, hn, hv, hl⟩
  unfold pWC
  rw [dif_pos h, ← ints_inj h.choose_spec.1]
theorem okWC : HookOk Tryz.prog 28 (wsH pWC) := by
  have inv : ∀ cs n l v l', pWC cs n l = some (v, l') → ∃ vs : List Int, cs = ints vs ∧ n = vs.length ∧ (∀ a ∈ vs, I64 a) ∧ vs.length ≤ 100 ∧ vs ≠ [] ∧ l.length < 800000000000 ∧ v = .tuple #[] ∧ l' = l ++ vs.flatMap cU := fun cs n l v l' h => by
    unfold pWC at h
    split at h
    · rename_i hx
      obtain ⟨e1, e2, e3, e4, e5, e6⟩ := hx.choose_spec
      cases h
      exact ⟨hx.choose, e1, e2, e3, e4, e5, e6, rfl, rfl⟩
    · cases h
  exact ws_ok (enters_of (by kernel_rfl)) (fun cs n l v l' h => by
    obtain ⟨vs, rfl, rfl, _, _, _, _, rfl, rfl⟩ := inv _ _ _ _ _ h
    exact ⟨bares_ints _, bare_flat 8 rfl⟩) (fun cs n c t l v l' hc h => by
    obtain ⟨vs, rfl, rfl, ha, hn, hv, hl, rfl, rfl⟩ := inv _ _ _ _ _ h
    exact wCodesLocal l vs c t hc ha hn hv hl)
end Go.Proofs.YthlkgmdkabelpaaGreatDoor.X
namespace Go.Proofs.YthlkgmdkabelpaaGreatDoor.X
open Go Go.RowKit
def wkK (W : XW) (w b : Nat) : Option Value → Option (XEnd × XW)
  | some v => some (.ret v, (W.put w none).put b none)
  | none => none
def wkL (p : PQ) (xs : List Value) (W : XW) (w b n : Nat) : Option (List UInt8) → Option (XEnd × XW)
  | some l => bif Nat.beq l.length n then wkK W w b (p xs l) else none
  | none => none
def wkR (p : PQ) (xs : List Value) (W : XW) (w b n : Nat) : Option XObj → Option (XEnd × XW)
  | some (.cells cs e (0, 0)) => bif Nat.beq e 5 then wkL p xs W w b n (bytesOf cs) else none
  | _ => none
def wkO (p : PQ) (xs : List Value) (W : XW) (w : Nat) : Option XObj → Option (XEnd × XW)
  | some (.cells [.pointer (some ⟨w', 0, none⟩), .slice (some ⟨b, 0, none⟩) n c] e (0, 0)) => bif Nat.beq e 78 && Nat.beq w' w && Nat.beq c openCap && !(Nat.beq w b) then wkR p xs W w b n (W.get b) else none
  | _ => none
def wkH (p : PQ) : HF := fun args W => match args with
  | .pointer (some ⟨w, 0, none⟩) :: xs => wkO p xs W w (W.get w)
  | _ => none
theorem wkH_inv {p : PQ} {args : List Value} {W W' : XW} {e : XEnd} (h : wkH p args W = some (e, W')) : ∃ w b xs l v, args = .pointer (some ⟨w, 0, none⟩) :: xs ∧ w ≠ b ∧ W.get w = some (wob w b l) ∧ W.get b = some (rowW l) ∧ p xs l = some v ∧ e = .ret v ∧ W' = (W.put w none).put b none := by
  unfold wkH at h
  split at h
  · rename_i w xs
    unfold wkO at h
    split at h
    · rename_i w' b n c t hg
      cases hc : (Nat.beq t 78 && Nat.beq w' w && Nat.beq c openCap && !(Nat.beq w b)) with
      | false => rw [hc] at h; cases h
      | true =>
        rw [hc] at h
        simp only [Bool.and_eq_true, Bool.not_eq_true'] at hc
        obtain ⟨⟨⟨e1, e2⟩, e3⟩, e4⟩ := hc
        have e1 := Nat.eq_of_beq_eq_true e1
        have e2 := Nat.eq_of_beq_eq_true e2
        have e3 := Nat.eq_of_beq_eq_true e3
        subst e1 e2 e3
        simp only [cond_true] at h
        unfold wkR at h
        split at h
        · rename_i cs t' hb
          cases ht : Nat.beq t' 5 with
          | false => rw [ht] at h; cases h
          | true =>
            rw [ht] at h
            have := Nat.eq_of_beq_eq_true ht
            subst this
            simp only [cond_true] at h
            cases hl : bytesOf cs with
            | none => rw [hl] at h; cases h
            | some l =>
              rw [hl] at h
              unfold wkL at h
              cases hn : Nat.beq l.length n with
              | false => simp only [hn] at h; cases h
              | true =>
                simp only [hn, cond_true] at h
                have := Nat.eq_of_beq_eq_true hn
                subst this
                cases hp : p xs l with
                | none => rw [hp] at h; cases h
                | some q =>
                  rw [hp] at h
                  cases h
                  refine ⟨w', b, xs, l, q, rfl, fun q => ?_, hg, by rw [hb, bytesOf_some hl]; rfl, hp, rfl, rfl⟩
                  subst q
                  rw [Nat.beq_refl] at e4
                  cases e4
        · cases h
    · cases h
  · cases h
theorem wk_ok {p : PQ} {f : FuncId} (he : Enters Tryz.prog f) (hb : ∀ xs l v, p xs l = some v → Bares xs ∧ Bare v)
    (hl : ∀ xs l v, p xs l = some v → Local Tryz.prog f (.pointer (some ⟨0, 0, none⟩) :: xs) (wd [(0, some (wob 0 1 l)), (1, some (rowW l))] 2 [] 0) fun e W' => e = .ret v) : HookOk Tryz.prog f (wkH p) := by
  refine ⟨he, fun args W e W' h => ?_, fun args W e W' h => ?_⟩
  · obtain ⟨w, b, xs, l, v, _, _, _, _, _, _, rfl⟩ := wkH_inv h
    exact (Ext.put _ _ _).trans (Ext.put _ _ _)
  · obtain ⟨w, b, xs, l, v, rfl, hwb, hw, hr, hp, rfl, rfl⟩ := wkH_inv h
    have hwn := get_next hw
    have hbn := get_next hr
    have t0 : (fun n => if n = w then some 0 else if n = b then some 1 else (none : Option Nat)) w = some 0 := if_pos rfl
    have t1 : (fun n => if n = w then some 0 else if n = b then some 1 else (none : Option Nat)) b = some 1 := by simp only [if_neg (Ne.symm hwb), if_pos]
    refine reloc (k := 2) (fun m => if m = 0 then w else b) (fun n => if n = w then some 0 else if n = b then some 1 else none) rfl (fun m m' h h' e => ?_) (fun m h => ?_) (fun n m h => ?_) (fun m oL h => ?_) (tvs_cons (tv_ptr t0) ((hb _ _ _ hp).1 _ names_fz)) (hl _ _ _ hp) (fun eL WL' hS => ?_)
    · by_cases h0 : m = 0 <;> by_cases h1 : m' = 0 <;> simp only [h0, h1, if_true, if_false] at e ⊢
      · exact absurd e hwb
      · exact absurd e.symm hwb
      · omega
    · split <;> omega
    · split at h
      · rename_i q; cases h; exact ⟨by decide, q.symm⟩
      · split at h
        · rename_i q; cases h; exact ⟨by decide, q.symm⟩
        · cases h
    · have hm : m < 2 := get_next h
      obtain ⟨_, h2⟩ := wd_some h
      have : m = 0 ∨ m = 1 := by omega
      rcases this with rfl | rfl
      · rw [lk_hit] at h2
        cases h2
        exact ⟨by decide, _, hw, to_tvs (tvs_cons (tv_ptr t0) (tvs_cons (tv_slice t1) tvs_nil))⟩
      · rw [lk_miss (by decide), lk_hit] at h2
        cases h2
        exact ⟨by decide, _, hr, bareO_rowW _ names_fz⟩
    · have hS : eL = .ret v := hS
      subst hS
      refine ⟨fun _ => none, fun m x h => (by cases h), fun m m' x h h' => (by cases h), fun x o' hx => ?_, (hb _ _ _ hp).2 _ names_fz, Nat.le_refl _⟩
      rcases XW.get_put hx with ⟨_, z⟩ | ⟨z1, z2⟩
      · cases z
      · rcases XW.get_put z2 with ⟨_, y⟩ | ⟨y1, y2⟩
        · cases y
        · refine .inr ⟨y2, get_next y2, fun m hm => ?_⟩
          split
          · exact fun q => y1 q.symm
          · exact fun q => z1 q.symm
def pStr : PQ := fun xs l => match xs with
  | [] => bif Nat.blt 0 l.length && Nat.blt l.length 1000000000000 then some (.string (str l)) else none
  | _ => none
theorem pStr_eq {l : List UInt8} (h0 : 0 < l.length) (hl : l.length < 1000000000000) : pStr [] l = some (.string (str l)) := by
  show (bif Nat.blt 0 l.length && Nat.blt l.length 1000000000000 then _ else none) = _
  rw [blt_t h0, blt_t hl]; rfl
theorem okStr : HookOk Tryz.prog 30 (wkH pStr) := by
  have inv : ∀ xs l v, pStr xs l = some v → xs = [] ∧ l ≠ [] ∧ l.length < 1000000000000 ∧ v = .string (str l) := fun xs l v h => by
    unfold pStr at h
    split at h
    · cases hc : (Nat.blt 0 l.length && Nat.blt l.length 1000000000000) with
      | false => rw [hc] at h; cases h
      | true =>
        rw [hc] at h
        simp only [Bool.and_eq_true] at hc
        cases h
        refine ⟨rfl, fun e => ?_, Nat.le_of_ble_eq_true hc.2, rfl⟩
        have := Nat.le_of_ble_eq_true hc.1
        rw [e] at this
        exact absurd this (by decide)
    · cases h
  exact wk_ok (enters_of (by kernel_rfl)) (fun xs l v h => by
    obtain ⟨rfl, _, _, rfl⟩ := inv _ _ _ h
    exact ⟨bares_nil, bare_str⟩) (fun xs l v h => by
    obtain ⟨rfl, h0, hl, rfl⟩ := inv _ _ _ h
    exact stringLocal l h0 hl)
end Go.Proofs.YthlkgmdkabelpaaGreatDoor.X
namespace Go.Proofs.YthlkgmdkabelpaaGreatDoor.X
open Go Go.RowKit
def wob0 : XObj := .cells [.pointer none, .slice none 0 0] 78 (0, 0)
theorem lies0 : liesAt Tryz.prog Tryz.prog.depth 78 (2 / Tryz.prog.cellsOf 78) 0 76 1 = true := by kernel_rfl
theorem cc_first : hCC [.pointer (some ⟨0, 0, none⟩)] (wd [(0, some wob0)] 1 [] 0) = some (.ret (.tuple #[]), wd [(0, some (.cells [.pointer (some ⟨0, 0, none⟩), .slice none 0 0] 78 (0, 0))), (0, some wob0)] 1 [0] 1) := by kernel_rfl
theorem writeByteLocal0 (n : Nat) (hn : n < 256) : Local Tryz.prog 25 [.pointer (some ⟨0, 0, none⟩), .int .u8 (n : Int)] (wd [(0, some wob0)] 1 [] 0) fun e W' => e = .ret .nilIface ∧ ∃ b', 1 ≤ b' ∧ W'.get 0 = some (wob 0 b' [UInt8.ofNat n]) ∧ W'.get b' = some (rowW [UInt8.ofNat n]) := by
  refine lit_local base20 Tryz.func25 rfl (Nat.le_of_ble_eq_true rfl) ?_
  simp only [frOfL.eq_1, frOfL.eq_2, wd_next, Tryz.ntmps25, Nat.reduceAdd]
  have hb1 : [Value.int .u8 ((n : Nat) : Int)] = bvs [UInt8.ofNat n] := bvs_snoc (l := []) hn
  refine xwp_seq (xwp_region (e := ?e1) (s' := ?s1) base20 ?h1 ?q1)
  case h1 =>
    simp (disch := first | decide | omega | (simp only [List.length_cons, List.length_nil, List.length_append, length_bvs, List.length_take, List.length_drop]; omega)) only [go_sem, Nat.reduceAdd, Nat.reduceMul, Nat.reduceSub]
    all_goals with_reducible rfl
  case q1 =>
  refine xwp_seq (xwp_region (e := ?e2) (s' := ?s2) base20 ?h2 ?q2)
  case h2 =>
    simp (disch := first | decide | omega | (simp only [List.length_cons, List.length_nil, List.length_append, length_bvs, List.length_take, List.length_drop]; omega)) only [T20, cc_first, go_sem, Nat.reduceAdd, Nat.reduceMul, Nat.reduceSub]
    all_goals with_reducible rfl
  case q2 =>
  refine xwp_seq (xwp_region (e := ?e3) (s' := ?s3) base20 ?h3 ?q3)
  case h3 =>
    simp (disch := first | decide | omega | (simp only [List.length_cons, List.length_nil, List.length_append, length_bvs, List.length_take, List.length_drop]; omega)) only [go_sem, Nat.reduceAdd, Nat.reduceMul, Nat.reduceSub]
    all_goals with_reducible rfl
  case q3 =>
  refine xwp_seq (xwp_region (e := ?e4) (s' := ?s4) base20 ?h4 ?q4)
  case h4 =>
    simp (disch := first | decide | omega | (simp only [List.length_cons, List.length_nil, List.length_append, length_bvs, List.length_take, List.length_drop]; omega)) only [go_sem, Nat.reduceAdd, Nat.reduceMul, Nat.reduceSub]
    all_goals with_reducible rfl
  case q4 =>
  refine xwp_ret ?_
  refine ⟨_, ?e5, ?W5, rfl, ?h5, ?q5⟩
  case h5 =>
    simp (disch := first | decide | omega | (simp only [List.length_cons, List.length_nil, List.length_append, length_bvs, List.length_take, List.length_drop]; omega)) only [Tryz.results25, go_sem, Nat.reduceAdd, Nat.reduceMul, Nat.reduceSub]
    all_goals with_reducible rfl
  case q5 =>
  refine ⟨rfl, 2, by decide, ?_, ?_⟩
  · simp (disch := first | decide | omega | (simp only [List.length_cons, List.length_nil, List.length_append, length_bvs, List.length_take, List.length_drop]; omega)) only [wob, go_sem, Nat.reduceAdd, Nat.reduceMul, Nat.reduceSub]
  · simp (disch := first | decide | omega | (simp only [List.length_cons, List.length_nil, List.length_append, length_bvs, List.length_take, List.length_drop]; omega)) only [rowW, go_sem, Nat.reduceAdd, Nat.reduceMul, Nat.reduceSub]
    rw [hb1]
def weK (W : XW) (w n : Nat) : Option XObj → Option (XEnd × XW)
  | some (.cells [.pointer none, .slice none 0 0] e (0, 0)) => bif Nat.beq e 78 && Nat.blt n 256 then some (.ret .nilIface, (W.push (rowW [UInt8.ofNat n])).put w (some (wob w W.next [UInt8.ofNat n]))) else none
  | _ => none
def weH : HF := fun args W => match args with
  | [.pointer (some ⟨w, 0, none⟩), .int .u8 (.ofNat n)] => weK W w n (W.get w)
  | _ => none
theorem weH_go {W : XW} {w n : Nat} (hw : W.get w = some wob0) (hn : n < 256) : weH [.pointer (some ⟨w, 0, none⟩), .int .u8 (n : Int)] W = some (.ret .nilIface, (W.push (rowW [UInt8.ofNat n])).put w (some (wob w W.next [UInt8.ofNat n]))) := by
  show weK W w n (W.get w) = _
  rw [hw]
  show (bif Nat.beq 78 78 && Nat.blt n 256 then _ else none) = _
  rw [Nat.beq_refl, blt_t hn]
  rfl
theorem okWB0 : HookOk Tryz.prog 25 weH := by
  have inv : ∀ args W e W', weH args W = some (e, W') → ∃ w n : Nat, args = [.pointer (some ⟨w, 0, none⟩), .int .u8 (n : Int)] ∧ n < 256 ∧ W.get w = some wob0 ∧ e = .ret .nilIface ∧ W' = (W.push (rowW [UInt8.ofNat n])).put w (some (wob w W.next [UInt8.ofNat n])) := fun args W e W' h => by
    unfold weH at h
    split at h
    · rename_i w n
      unfold weK at h
      split at h
      · rename_i t hg
        cases hc : (Nat.beq t 78 && Nat.blt n 256) with
        | false => rw [hc] at h; cases h
        | true =>
          rw [hc] at h
          simp only [Bool.and_eq_true] at hc
          have := Nat.eq_of_beq_eq_true hc.1
          subst this
          cases h
          exact ⟨w, n, rfl, Nat.le_of_ble_eq_true hc.2, hg, rfl, rfl⟩
      · cases h
    · cases h
  refine ⟨enters_of (by kernel_rfl), fun args W e W' h => ?_, fun args W e W' h => ?_⟩
  · obtain ⟨w, n, _, _, _, _, rfl⟩ := inv _ _ _ _ h
    exact (Ext.push _ _).trans (Ext.put _ _ _)
  · obtain ⟨w, n, rfl, hn, hw, rfl, rfl⟩ := inv _ _ _ _ h
    have hwn := get_next hw
    refine reloc (k := 1) (fun _ => w) (only w) rfl (fun m m' h h' _ => by omega) (fun m h => hwn) (fun x m h => by
      unfold only at h
      split at h
      · rename_i q; cases h; exact ⟨by omega, q.symm⟩
      · cases h) (fun m oL h => by
      have hm : m < 1 := get_next h
      have : m = 0 := by omega
      subst this
      rw [wd_get (by omega) (by omega), lk_hit] at h
      cases h
      exact ⟨by omega, _, hw, bareO_bares (bares_cons (bare_flat 8 rfl) (bares_cons (bare_flat 8 rfl) bares_nil)) _ names_fz⟩) (tvs_cons (tv_ptr only_same) (tvs_cons (tv_flat 1 rfl) tvs_nil)) (writeByteLocal0 n hn) (fun eL WL' hS => ?_)
    obtain ⟨rfl, b', hb2, g0, g1⟩ := hS
    have s0 : (fun m => if m = 0 then some w else if m = b' then some W.next else (none : Option Nat)) 0 = some w := if_pos rfl
    have s1 : (fun m => if m = 0 then some w else if m = b' then some W.next else (none : Option Nat)) b' = some W.next := by
      simp only [if_neg (show ¬ b' = 0 by omega), if_pos]
    refine ⟨fun m => if m = 0 then some w else if m = b' then some W.next else none, fun m x h => ?_, fun m m' x h h' => ?_, fun x o' h => ?_, bare_flat 8 rfl _ names_fz, Nat.le_succ _⟩
    · split at h
      · rename_i q; cases h; exact .inl ⟨by omega, rfl⟩
      · split at h
        · rename_i q; cases h; exact .inr ⟨by omega, Nat.le_refl _, Nat.lt_succ_self _⟩
        · cases h
    · split at h
      · split at h'
        · omega
        · split at h'
          · cases h; cases h'; omega
          · cases h'
      · split at h
        · split at h'
          · cases h; cases h'; omega
          · split at h'
            · omega
            · cases h'
        · cases h
    · rcases XW.get_put h with ⟨rfl, q⟩ | ⟨q1, q2⟩
      · cases q
        exact .inl ⟨0, _, s0, g0, to_tvs (tvs_cons (tv_ptr s0) (tvs_cons (tv_slice s1) tvs_nil))⟩
      · rcases XW.get_push q2 with ⟨e1, e2⟩ | ⟨e1, e2⟩
        · subst e2
          exact .inl ⟨b', _, by rw [e1]; exact s1, g1, bareO_rowW _ names_fz⟩
        · exact .inr ⟨e2, get_next e2, fun m hm => fun z => q1 z.symm⟩
theorem okWB : HookOk Tryz.prog 25 (orH (wtH pWB) weH) := or_ok okWB1 okWB0
end Go.Proofs.YthlkgmdkabelpaaGreatDoor.X
namespace Go.Proofs.YthlkgmdkabelpaaGreatDoor.X
open Go Go.RowKit
theorem encodes1Local (e : EditL) (he : OkE e) : Local Tryz.prog 63 [.agg (encEdit e).toArray] (wd [] 0 [] 0) fun x W' => x = .ret (.bool false) := by
  refine lit_local base0 Tryz.func63 rfl (Nat.le_of_ble_eq_true rfl) ?_
  simp only [frOfL.eq_1, frOfL.eq_2, wd_next, Tryz.ntmps63, Nat.reduceAdd, encEdit]
  have h1 := he.s
  have h2 := he.p
  refine xwp_seq (xwp_region (e := ?e1) (s' := ?s1) base0 ?h1 ?q1)
  case h1 =>
    simp (disch := first | decide | omega | (simp only [List.length_cons, List.length_nil, List.length_append, length_bvs, List.length_take, List.length_drop]; omega)) only [go_sem, Nat.reduceAdd, Nat.reduceMul, Nat.reduceSub]
    all_goals with_reducible rfl
  case q1 =>
  refine xwp_seq (xwp_region (e := ?e2) (s' := ?s2) base0 ?h2 ?q2)
  case h2 =>
    simp (disch := first | decide | omega | (simp only [List.length_cons, List.length_nil, List.length_append, length_bvs, List.length_take, List.length_drop]; omega)) only [lenB_slV, one_slV, go_sem, Nat.reduceAdd, Nat.reduceMul, Nat.reduceSub]
    all_goals with_reducible rfl
  case q2 =>
  refine xwp_ret ?_
  refine ⟨_, ?e3, ?W3, rfl, ?h3, ?q3⟩
  case h3 =>
    simp (disch := first | decide | omega | (simp only [List.length_cons, List.length_nil, List.length_append, length_bvs, List.length_take, List.length_drop]; omega)) only [Tryz.results63, go_sem, Nat.reduceAdd, Nat.reduceMul, Nat.reduceSub]
    all_goals with_reducible rfl
  case q3 =>
  rfl
open Classical in
noncomputable def pE1 : List Value → Option Value := fun xs => if ∃ e : EditL, OkE e ∧ xs = [.agg (encEdit e).toArray] then some (.bool false) else none
theorem pE1_eq {e : EditL} (he : OkE e) : pE1 [.agg (encEdit e).toArray] = some (.bool false) := if_pos ⟨e, he, rfl⟩
theorem okE1 : HookOk Tryz.prog 63 (pureH pE1) := by
  have inv : ∀ xs v, pE1 xs = some v → ∃ e : EditL, OkE e ∧ xs = [.agg (encEdit e).toArray] ∧ v = .bool false := fun xs v h => by
    unfold pE1 at h
    split at h
    · rename_i hx
      obtain ⟨e, he, hq⟩ := hx
      cases h
      exact ⟨e, he, hq, rfl⟩
    · cases h
  refine pureH_ok (enters_of (by kernel_rfl)) (fun xs v h => ?_) (fun xs v h => ?_)
  · obtain ⟨e, he, rfl, rfl⟩ := inv _ _ h
    exact ⟨bares_cons (bare_agg (bares_encEdit e)) bares_nil, bare_flat 1 rfl⟩
  · obtain ⟨e, he, rfl, rfl⟩ := inv _ _ h
    exact encodes1Local e he
noncomputable def T27 : List (FuncId × HF) := [(63, pureH pE1)]
theorem base27 : Base Tryz.prog (hooksOf T27 []) := ⟨mixed, hooksOf_sim (.cons _ _ _ okE1 .nil) .nil⟩
def fnE1 : Value := .func (.func 63) #[] #[]
theorem indexLocal (es : List EditL) (he : ∀ e ∈ es, OkE e) (hn : es.length ≤ 1000) : Local Tryz.prog 94 [gslV (rowE es) es.length, fnE1] (wd [] 0 [] 0) fun x W' => x = .ret (.int .i64 (-1)) := by
  refine lit_local base27 Tryz.func94 rfl (Nat.le_of_ble_eq_true rfl) ?_
  simp only [frOfL.eq_1, frOfL.eq_2, wd_next, Tryz.ntmps94, Nat.reduceAdd]
  refine xwp_seq (xwp_region (e := ?e4) (s' := ?s4) base27 ?h4 ?q4)
  case h4 =>
    simp (disch := first | decide | omega | (simp only [List.length_cons, List.length_nil, List.length_append, length_bvs, List.length_take, List.length_drop]; omega)) only [go_sem, Nat.reduceAdd, Nat.reduceMul, Nat.reduceSub]
    all_goals with_reducible rfl
  case q4 =>
  refine xwp_seq ?_
  refine xwp_seq (xwp_region (e := ?e5) (s' := ?s5) base27 ?h5 ?q5)
  case h5 =>
    simp (disch := first | decide | omega | (simp only [List.length_cons, List.length_nil, List.length_append, length_bvs, List.length_take, List.length_drop]; omega)) only [lenB_gslV, go_sem, Nat.reduceAdd, Nat.reduceMul, Nat.reduceSub]
    all_goals with_reducible rfl
  case q5 =>
  refine xwp_block ?_
  refine xwp_le (chle_lit (F' := [(0, some (gslV (rowE es) es.length)), (1, some fnE1), (7, some (.int .i64 (es.length : Int))), (8, some (.int .i64 ((0 : Nat) : Int)))]) (L' := []) (n' := 0) (lg' := []) (nl' := 0) (by simp (disch := decide) [AllLk, lk_hit, lk_miss, lk_nil]) (by simp [AllLk]) (by decide)) ?_
  refine xwp_loop (α := Upto es.length) (fun x => ⟨frm [(0, some (gslV (rowE es) es.length)), (1, some fnE1), (7, some (.int .i64 (es.length : Int))), (8, some (.int .i64 (x.i : Int)))], wd [] 0 [] 0, []⟩) (fun x => es.length - x.i) ?_ ⟨0, Nat.zero_le _⟩
  intro ⟨k, hk⟩
  simp only
  by_cases hlt : k < es.length
  · refine xwp_seq (xwp_region (e := ?e6) (s' := ?s6) base27 ?h6 ?q6)
    case h6 =>
      simp (disch := first | decide | omega | (simp only [List.length_cons, List.length_nil, List.length_append, length_bvs, List.length_take, List.length_drop]; omega)) only [go_sem, Nat.reduceAdd, Nat.reduceMul, Nat.reduceSub]
      all_goals with_reducible rfl
    case q6 =>
    refine xwp_seq (xwp_ct ?h7 ?q7)
    case h7 =>
      simp (disch := first | decide | omega | (simp only [List.length_cons, List.length_nil, List.length_append, length_bvs, List.length_take, List.length_drop]; omega)) only [go_sem, Nat.reduceAdd, Nat.reduceMul, Nat.reduceSub]
      all_goals with_reducible rfl
    case q7 =>
    refine xwp_skip ?_
    refine xwp_seq (xwp_block ?_)
    obtain ⟨e, hee⟩ : ∃ e, e = es[k] := ⟨_, rfl⟩
    have hoe : OkE e := by rw [hee]; exact he _ (List.getElem_mem hlt)
    have hrow := rowE_at hlt
    rw [← hee] at hrow
    have hp := pE1_eq hoe
    simp only [encEdit] at hp
    refine xwp_seq (xwp_region (e := ?e8) (s' := ?s8) base27 ?h8 ?q8)
    case h8 =>
      simp (disch := first | decide | omega | (simp only [List.length_cons, List.length_nil, List.length_append, length_bvs, List.length_take, List.length_drop]; omega)) only [go_sem, Nat.reduceAdd, Nat.reduceMul, Nat.reduceSub]
      all_goals with_reducible rfl
    case q8 =>
    refine xwp_seq (xwp_region (e := ?e9) (s' := ?s9) base27 ?h9 ?q9)
    case h9 =>
      simp (disch := first | decide | omega | (simp only [List.length_cons, List.length_nil, List.length_append, length_bvs, List.length_take, List.length_drop]; omega)) only [T27, fnE1, iad_gslV hlt, iadZ.eq_1, load_FP, hrow, encEdit, one_slV, pureH_eq, pureK.eq_1, hp, go_sem, Nat.reduceAdd, Nat.reduceMul, Nat.reduceSub]
      all_goals with_reducible rfl
    case q9 =>
    refine xwp_cf ?h10 ?q10
    case h10 =>
      simp (disch := first | decide | omega | (simp only [List.length_cons, List.length_nil, List.length_append, length_bvs, List.length_take, List.length_drop]; omega)) only [go_sem, Nat.reduceAdd, Nat.reduceMul, Nat.reduceSub]
      all_goals with_reducible rfl
    case q10 =>
    refine xwp_skip ?_
    show XWp _ _ _ _ _ _
    refine xwp_region (e := ?e11) (s' := ?s11) base27 ?h11 ?q11
    case h11 =>
      simp (disch := first | decide | omega | (simp only [List.length_cons, List.length_nil, List.length_append, length_bvs, List.length_take, List.length_drop]; omega)) only [go_sem, Nat.reduceAdd, Nat.reduceMul, Nat.reduceSub]
      all_goals with_reducible rfl
    case q11 =>
    exact ⟨⟨k + 1, hlt⟩, by simp only; omega, chle_lit (by simp (disch := decide) [AllLk, lk_hit, lk_miss, lk_nil, fnE1]) (by simp [AllLk]) (by decide)⟩
  · refine xwp_seq (xwp_region (e := ?e12) (s' := ?s12) base27 ?h12 ?q12)
    case h12 =>
      simp (disch := first | decide | omega | (simp only [List.length_cons, List.length_nil, List.length_append, length_bvs, List.length_take, List.length_drop]; omega)) only [go_sem, Nat.reduceAdd, Nat.reduceMul, Nat.reduceSub]
      all_goals with_reducible rfl
    case q12 =>
    refine xwp_seq (xwp_cf ?h13 ?q13)
    case h13 =>
      simp (disch := first | decide | omega | (simp only [List.length_cons, List.length_nil, List.length_append, length_bvs, List.length_take, List.length_drop]; omega)) only [go_sem, Nat.reduceAdd, Nat.reduceMul, Nat.reduceSub]
      all_goals with_reducible rfl
    case q13 =>
    refine xwp_exit ?_
    show XWp _ _ _ _ _ _
    refine xwp_seq (xwp_region (e := ?e14) (s' := ?s14) base27 ?h14 ?q14)
    case h14 =>
      simp (disch := first | decide | omega | (simp only [List.length_cons, List.length_nil, List.length_append, length_bvs, List.length_take, List.length_drop]; omega)) only [go_sem, Nat.reduceAdd, Nat.reduceMul, Nat.reduceSub]
      all_goals with_reducible rfl
    case q14 =>
    refine xwp_ret ?_
    refine ⟨_, ?e15, ?W15, rfl, ?h15, ?q15⟩
    case h15 =>
      simp (disch := first | decide | omega | (simp only [List.length_cons, List.length_nil, List.length_append, length_bvs, List.length_take, List.length_drop]; omega)) only [Tryz.results94, go_sem, Nat.reduceAdd, Nat.reduceMul, Nat.reduceSub]
      all_goals with_reducible rfl
    case q15 =>
    rfl
end Go.Proofs.YthlkgmdkabelpaaGreatDoor.X
namespace Go.Proofs.YthlkgmdkabelpaaGreatDoor.X
open Go Go.RowKit
def esV (es : List EditL) : List Value := [gslV (rowE es) es.length, fnE1]
theorem bares_esV (es : List EditL) : Bares (esV es) := bares_cons (bare_gslV (bares_rowE _) _) (bares_cons (bare_flat 8 rfl) bares_nil)
noncomputable def T28 (es : List EditL) : List (FuncId × HF) := [(94, pureH (pOne (esV es) (.int .i64 (-1))))]
theorem containsLocal (es : List EditL) (he : ∀ e ∈ es, OkE e) (hn : es.length ≤ 1000) : Local Tryz.prog 62 (esV es) (wd [] 0 [] 0) fun x W' => x = .ret (.bool false) := by
  have base28 : Base Tryz.prog (hooksOf (T28 es) []) := ⟨mixed, hooksOf_sim (.cons _ _ _ (okOne (enters_of (by kernel_rfl)) (bares_esV es) (bare_flat 1 rfl) (indexLocal es he hn)) .nil) .nil⟩
  refine lit_local base28 Tryz.func62 rfl (Nat.le_of_ble_eq_true rfl) ?_
  simp only [esV, frOfL.eq_1, frOfL.eq_2, wd_next, Tryz.ntmps62, Nat.reduceAdd]
  refine xwp_seq (xwp_region (e := ?e1) (s' := ?s1) base28 ?h1 ?q1)
  case h1 =>
    simp (disch := first | decide | omega | (simp only [List.length_cons, List.length_nil, List.length_append, length_bvs, List.length_take, List.length_drop]; omega)) only [go_sem, Nat.reduceAdd, Nat.reduceMul, Nat.reduceSub]
    all_goals with_reducible rfl
  case q1 =>
  refine xwp_seq (xwp_region (e := ?e2) (s' := ?s2) base28 ?h2 ?q2)
  case h2 =>
    simp (disch := first | decide | omega | (simp only [List.length_cons, List.length_nil, List.length_append, length_bvs, List.length_take, List.length_drop]; omega)) only [T28, esV, pureH_eq, pureK.eq_1, pOne_eq, go_sem, Nat.reduceAdd, Nat.reduceMul, Nat.reduceSub]
    all_goals with_reducible rfl
  case q2 =>
  refine xwp_ret ?_
  refine ⟨_, ?e3, ?W3, rfl, ?h3, ?q3⟩
  case h3 =>
    simp (disch := first | decide | omega | (simp only [List.length_cons, List.length_nil, List.length_append, length_bvs, List.length_take, List.length_drop]; omega)) only [Tryz.results62, go_sem, Nat.reduceAdd, Nat.reduceMul, Nat.reduceSub]
    all_goals with_reducible rfl
  case q3 =>
  rfl
noncomputable def T28b (c : CommitL) : List (FuncId × HF) := [(62, pureH (pOne (esV c.edits) (.bool false)))]
set_option maxHeartbeats 1000000 in
theorem encodesLocal (c : CommitL) (hc : OkC c) : Local Tryz.prog 24 [.agg (encC c).toArray] (wd [] 0 [] 0) fun e W' => e = .ret (.bool (decide (canE c))) := by
  have base29 : Base Tryz.prog (hooksOf (T28b c) []) := ⟨mixed, hooksOf_sim (.cons _ _ _ (okOne (enters_of (by kernel_rfl)) (bares_esV c.edits) (bare_flat 1 rfl) (containsLocal c.edits hc.e hc.ne)) .nil) .nil⟩
  refine lit_local base29 Tryz.func24 rfl (Nat.le_of_ble_eq_true rfl) ?_
  simp only [frOfL.eq_1, frOfL.eq_2, wd_next, Tryz.ntmps24, Nat.reduceAdd, encC]
  have htr := hc.t
  have hnp := hc.np
  have hne := hc.ne
  refine xwp_seq (xwp_region (e := ?e4) (s' := ?s4) base29 ?h4 ?q4)
  case h4 =>
    simp (disch := first | decide | omega | (simp only [List.length_cons, List.length_nil, List.length_append, length_bvs, List.length_take, List.length_drop]; omega)) only [go_sem, Nat.reduceAdd, Nat.reduceMul, Nat.reduceSub]
    all_goals with_reducible rfl
  case q4 =>
  refine xwp_region_to base29 ⟨frm [(2, some (.bool (decide (canE c))))], wd [] 1 [] 0, []⟩ ?hs ?qs
  case hs =>
    by_cases hcan : canE c
    · rw [decide_eq_true hcan]
      obtain ⟨h8, htx⟩ := hcan
      refine ⟨?s5, ?a5, ?b5⟩
      case a5 =>
        simp (disch := first | decide | omega | (simp only [List.length_cons, List.length_nil, List.length_append, length_bvs, List.length_take, List.length_drop]; omega)) only [T28b, esV, fnE1, pureH_eq, pureK.eq_1, pOne_eq, lenB_gslV, one_gslV, htr, at32 htr, go_sem, Nat.reduceAdd, Nat.reduceMul, Nat.reduceSub]
        all_goals with_reducible rfl
      case b5 =>
        exact chle_lit (by simp (disch := decide) [AllLk, lk_hit, lk_miss, lk_nil]) (by simp (disch := decide) [AllLk, lk_hit, lk_miss, lk_nil]) (by decide)
    · rw [decide_eq_false hcan]
      by_cases h8 : c.parents.length ≤ 8
      · have hx : ¬ c.text.length ≤ 65535 := fun h => hcan ⟨h8, h⟩
        refine ⟨?s6, ?a6, ?b6⟩
        case a6 =>
          simp (disch := first | decide | omega | (simp only [List.length_cons, List.length_nil, List.length_append, length_bvs, List.length_take, List.length_drop]; omega)) only [lenB_gslV, one_gslV, htr, at32 htr, go_sem, Nat.reduceAdd, Nat.reduceMul, Nat.reduceSub]
          all_goals with_reducible rfl
        case b6 =>
          exact chle_lit (by simp (disch := decide) [AllLk, lk_hit, lk_miss, lk_nil]) (by simp (disch := decide) [AllLk, lk_hit, lk_miss, lk_nil]) (by decide)
      · refine ⟨?s7, ?a7, ?b7⟩
        case a7 =>
          simp (disch := first | decide | omega | (simp only [List.length_cons, List.length_nil, List.length_append, length_bvs, List.length_take, List.length_drop]; omega)) only [lenB_gslV, one_gslV, htr, at32 htr, wantU, go_sem, Nat.reduceAdd, Nat.reduceMul, Nat.reduceSub]
          all_goals with_reducible rfl
        case b7 =>
          exact chle_lit (by simp (disch := decide) [AllLk, lk_hit, lk_miss, lk_nil]) (by simp (disch := decide) [AllLk, lk_hit, lk_miss, lk_nil]) (by decide)
  case qs =>
  refine xwp_ret ?_
  refine ⟨_, ?e8, ?W8, rfl, ?h8, ?q8⟩
  case h8 =>
    simp (disch := first | decide | omega | (simp only [List.length_cons, List.length_nil, List.length_append, length_bvs, List.length_take, List.length_drop]; omega)) only [Tryz.results24, go_sem, Nat.reduceAdd, Nat.reduceMul, Nat.reduceSub]
    all_goals with_reducible rfl
  case q8 =>
  rfl
end Go.Proofs.YthlkgmdkabelpaaGreatDoor.X
