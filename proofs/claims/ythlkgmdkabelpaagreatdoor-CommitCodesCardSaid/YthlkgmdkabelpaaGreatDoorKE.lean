/-
  Commits decoded: the small functions of the reader.
  Commits decoded: take.
  Commits decoded: numbers.
  Commits decoded: how many, integers, hashes.
  Commits decoded: an edit.
  Commits decoded: what stands deferred in Decode.
  Commits decoded: Decode itself.
  Commits decoded by the reference: its reader.
  No condition.
-/
import Derived.Test.YthlkgmdkabelpaaGreatDoorKO
import Derived.KernelRfl
import Derived.Test.YthlkgmdkabelpaaGreatDoorKD
set_option linter.all false
set_option linter.unusedVariables false
set_option linter.unusedSimpArgs false
namespace Go.Proofs.YthlkgmdkabelpaaGreatDoor.X
open Go Go.RowKit
def wrongV : Value := .iface 92 (.agg #[])
def hNeed : HF := fun args W => match args with
  | [.bool true] => some (.ret (.tuple #[]), W)
  | [.bool false] => some (.pan wrongV, W)
  | _ => none
theorem needRun (b : Bool) (W : XW) : xrun Tryz.prog (hooksOf [] []) 10 (.call 39 [.bool b] W) = some (.fin (bif b then .ret (.tuple #[]) else .pan wrongV) W) := by cases b <;> kernel_rfl
theorem okNeed' : HookOk Tryz.prog 39 hNeed := hook_run base0 10 (enters_of (by kernel_rfl)) fun args W e W' h => by
  unfold hNeed at h
  split at h
  · cases h; exact needRun true W
  · cases h; exact needRun false W
  · cases h
end Go.Proofs.YthlkgmdkabelpaaGreatDoor.X
namespace Go.Proofs.YthlkgmdkabelpaaGreatDoor.X
open Go Go.RowKit
theorem base1 : Base Tryz.prog (hooksOf [(39, hNeed)] []) := ⟨mixed, hooksOf_sim (.cons _ _ _ okNeed' .nil) .nil⟩
def rdr (s : List UInt8) : XObj := .cells [.string (str s)] 96 (0, 0)
theorem takeLocal (s : List UInt8) (n : Nat) : Local Tryz.prog 38 [.pointer (some ⟨0, 0, none⟩), .int .i64 n] (wd [(0, some (rdr s))] 1 [] 0) fun e W' =>
    if n ≤ s.length then e = .ret (.string (str (s.take n))) ∧ W'.next = 1 ∧ W'.get 0 = some (rdr (s.drop n)) else e = .pan wrongV := by
  refine lit_local base1 Tryz.func38 rfl (Nat.le_of_ble_eq_true rfl) ?_
  simp only [frOfL.eq_1, frOfL.eq_2, wd_next, Tryz.ntmps38, Nat.reduceAdd]
  refine xwp_seq (xwp_region (e := ?e1) (s' := ?s1) base1 ?h1 ?q1)
  case h1 =>
    simp (disch := first | decide | omega | (simp only [List.length_cons, List.length_nil, List.length_append, length_bvs, List.length_take, List.length_drop]; omega)) only [go_sem, Nat.reduceAdd, Nat.reduceMul, Nat.reduceSub]
    all_goals with_reducible rfl
  case q1 =>
  by_cases hn : n ≤ s.length
  · simp only [if_pos hn]
    refine xwp_seq (xwp_region (e := ?e2) (s' := ?s2) base1 ?h2 ?q2)
    case h2 =>
      simp (disch := first | decide | omega | (simp only [List.length_cons, List.length_nil, List.length_append, length_bvs, List.length_take, List.length_drop]; omega)) only [rdr, hNeed.eq_1, go_sem, Nat.reduceAdd, Nat.reduceMul, Nat.reduceSub]
      all_goals with_reducible rfl
    case q2 =>
    refine xwp_seq (xwp_region (e := ?e3) (s' := ?s3) base1 ?h3 ?q3)
    case h3 =>
      simp (disch := first | decide | omega | (simp only [List.length_cons, List.length_nil, List.length_append, length_bvs, List.length_take, List.length_drop]; omega)) only [rdr, go_sem, Nat.reduceAdd, Nat.reduceMul, Nat.reduceSub]
      all_goals with_reducible rfl
    case q3 =>
    refine xwp_seq (xwp_region (e := ?e4) (s' := ?s4) base1 ?h4 ?q4)
    case h4 =>
      simp (disch := first | decide | omega | (simp only [List.length_cons, List.length_nil, List.length_append, length_bvs, List.length_take, List.length_drop]; omega)) only [go_sem, Nat.reduceAdd, Nat.reduceMul, Nat.reduceSub]
      all_goals with_reducible rfl
    case q4 =>
    refine xwp_seq (xwp_region (e := ?e5) (s' := ?s5) base1 ?h5 ?q5)
    case h5 =>
      simp (disch := first | decide | omega | (simp only [List.length_cons, List.length_nil, List.length_append, length_bvs, List.length_take, List.length_drop]; omega)) only [go_sem, Nat.reduceAdd, Nat.reduceMul, Nat.reduceSub]
      all_goals with_reducible rfl
    case q5 =>
    refine xwp_ret ?_
    refine ⟨_, ?e6, ?W6, rfl, ?h6, ?q6⟩
    case h6 =>
      simp (disch := first | decide | omega | (simp only [List.length_cons, List.length_nil, List.length_append, length_bvs, List.length_take, List.length_drop]; omega)) only [Tryz.results38, go_sem, Nat.reduceAdd, Nat.reduceMul, Nat.reduceSub]
      all_goals with_reducible rfl
    case q6 =>
    refine ⟨rfl, rfl, ?_⟩
    simp (disch := first | decide | omega | (simp only [List.length_cons, List.length_nil, List.length_append, length_bvs, List.length_take, List.length_drop]; omega)) only [rdr, go_sem, Nat.reduceAdd, Nat.reduceMul, Nat.reduceSub]
  · simp only [if_neg hn]
    refine xwp_seq (xwp_region (e := ?e7) (s' := ?s7) base1 ?h7 ?q7)
    case h7 =>
      simp (disch := first | decide | omega | (simp only [List.length_cons, List.length_nil, List.length_append, length_bvs, List.length_take, List.length_drop]; omega)) only [rdr, hNeed.eq_2, go_sem, Nat.reduceAdd, Nat.reduceMul, Nat.reduceSub]
      all_goals with_reducible rfl
    case q7 =>
    refine ⟨_, ?e8, ?W8, rfl, ?h8, ?q8⟩
    case h8 =>
      simp (disch := first | decide | omega | (simp only [List.length_cons, List.length_nil, List.length_append, length_bvs, List.length_take, List.length_drop]; omega)) only [go_sem, Nat.reduceAdd, Nat.reduceMul, Nat.reduceSub]
      all_goals with_reducible rfl
    case q8 =>
    rfl
theorem str_data (b : ByteArray) : str b.data.toList = b := by
  apply ByteArray.ext
  show b.data.toList.toArray = b.data
  simp
theorem bare_str {b : ByteArray} : Bare (.string b) := bare_flat 1 rfl
theorem bareO_rdr {P : Program} {s : List UInt8} : BareO P (rdr s) := bareO_cells fun v hv => by
  rw [List.mem_singleton] at hv; subst hv; exact bare_str
def rmK (W : XW) (n : Nat) : Option (Option (Value × List UInt8)) → Option (XEnd × XW)
  | some (some (v, s)) => some (.ret v, W.put n (some (rdr s)))
  | some none => some (.pan wrongV, W.put n none)
  | none => none
def rdO (p : List Value → List UInt8 → Option (Option (Value × List UInt8))) (xs : List Value) (W : XW) (n : Nat) : Option XObj → Option (XEnd × XW)
  | some (.cells [.string b] e (0, 0)) => bif Nat.beq e 96 then rmK W n (p xs b.data.toList) else none
  | _ => none
def rdH (p : List Value → List UInt8 → Option (Option (Value × List UInt8))) : HF := fun args W => match args with
  | .pointer (some ⟨n, 0, none⟩) :: xs => rdO p xs W n (W.get n)
  | _ => none
section
variable {p : List Value → List UInt8 → Option (Option (Value × List UInt8))} {xs : List Value} {W : XW} {n : Nat} {s : List UInt8}
theorem rdH_eq : rdH p (.pointer (some ⟨n, 0, none⟩) :: xs) W = rdO p xs W n (W.get n) := rfl
theorem rdO_eq : rdO p xs W n (some (rdr s)) = rmK W n (p xs s) := by
  unfold rdO rdr
  simp only [Nat.beq_refl, cond_true, str_list]
theorem rdH_ok {f : FuncId} (he : Enters Tryz.prog f) (hb : ∀ xs s x, p xs s = some x → Bares xs ∧ ∀ v s', x = some (v, s') → Bare v)
    (hl : ∀ xs s x, p xs s = some x → Local Tryz.prog f (.pointer (some ⟨0, 0, none⟩) :: xs) (wd [(0, some (rdr s))] 1 [] 0) fun e W' => match x with
      | some (v, s') => e = .ret v ∧ W'.get 0 = some (rdr s')
      | none => e = .pan wrongV) : HookOk Tryz.prog f (rdH p) := by
  have key : ∀ args W e W', rdH p args W = some (e, W') → ∃ n xs s x, args = .pointer (some ⟨n, 0, none⟩) :: xs ∧ W.get n = some (rdr s) ∧ p xs s = some x ∧ rmK W n (some x) = some (e, W') := fun args W e W' h => by
    unfold rdH at h
    split at h
    · rename_i n xs
      unfold rdO at h
      split at h
      · rename_i b t hg
        cases ht : Nat.beq t 96 with
        | false => rw [ht] at h; cases h
        | true =>
          rw [ht] at h
          have := Nat.eq_of_beq_eq_true ht
          subst this
          simp only [cond_true] at h
          cases hp : p xs b.data.toList with
          | none => rw [hp] at h; cases h
          | some x =>
            rw [hp] at h
            exact ⟨n, xs, b.data.toList, x, rfl, by rw [hg, rdr, str_data], hp, h⟩
      · cases h
    · cases h
  refine ⟨he, fun args W e W' h => ?_, fun args W e W' h => ?_⟩
  · obtain ⟨n, xs, s, x, _, _, _, h⟩ := key _ _ _ _ h
    cases x with
    | none => cases h; exact .put _ _ _
    | some q => obtain ⟨v, s'⟩ := q; cases h; exact .put _ _ _
  · obtain ⟨n, xs, s, x, rfl, hg, hp, h⟩ := key _ _ _ _ h
    have ha : TVs (Names (only n)) (.pointer (some ⟨n, 0, none⟩) :: xs) (.pointer (some ⟨0, 0, none⟩) :: xs) := tvs_cons (tv_ptr only_same) ((hb _ _ _ hp).1 _ names_fz)
    cases x with
    | none => cases h; exact call_kill hg bareO_rdr ha (hl _ _ _ hp) (fun e' W' hS => hS) (bare_flat 8 rfl)
    | some q => obtain ⟨v, s'⟩ := q; cases h; exact call_one hg bareO_rdr ha (hl _ _ _ hp) (fun e' W' hS => hS) bareO_rdr ((hb _ _ _ hp).2 _ _ rfl)
end
def pTake (xs : List Value) (s : List UInt8) : Option (Option (Value × List UInt8)) := match xs with
  | [.int .i64 (.ofNat k)] => some (if k ≤ s.length then some (.string (str (s.take k)), s.drop k) else none)
  | _ => none
theorem pTake_eq {k : Nat} {s : List UInt8} : pTake [.int .i64 (k : Int)] s = some (if k ≤ s.length then some (.string (str (s.take k)), s.drop k) else none) := rfl
theorem pTake_ok {k : Nat} {s : List UInt8} (h : k ≤ s.length) : pTake [.int .i64 (k : Int)] s = some (some (.string (str (s.take k)), s.drop k)) := by rw [pTake_eq, if_pos h]
theorem pTake_no {k : Nat} {s : List UInt8} (h : s.length < k) : pTake [.int .i64 (k : Int)] s = some none := by rw [pTake_eq, if_neg (by omega)]
theorem okTake : HookOk Tryz.prog 38 (rdH pTake) := rdH_ok (enters_of (by kernel_rfl)) (fun xs s x h => by
    unfold pTake at h
    split at h
    · cases h
      refine ⟨bares_cons (bare_flat 1 rfl) bares_nil, fun v s' h => ?_⟩
      split at h
      · cases h; exact bare_str
      · cases h
    · cases h) (fun xs s x h => by
    unfold pTake at h
    split at h
    · rename_i k
      cases h
      refine fun ρ args' w m h1 h2 h3 => CallsIn.mono (takeLocal s k ρ args' w m h1 h2 h3) fun en w' ⟨e, W', hS, hq⟩ => ⟨e, W', ?_, hq⟩
      split at hS
      · rename_i hk; rw [if_pos hk]; exact ⟨hS.1, hS.2.2⟩
      · rename_i hk; rw [if_neg hk]; exact hS
    · cases h)
end Go.Proofs.YthlkgmdkabelpaaGreatDoor.X
namespace Go.Proofs.YthlkgmdkabelpaaGreatDoor.X
open Go Go.RowKit
def rdU (k acc : Nat) : List UInt8 → Option (Nat × List UInt8)
  | [] => none
  | b :: s => if 9 ≤ k ∧ 1 < b.toNat then none else
    if b.toNat < 128 then (if 0 < k ∧ b.toNat = 0 then none else some (acc + b.toNat % 128 * 2 ^ (7 * k), s)) else rdU (k + 1) (acc + b.toNat % 128 * 2 ^ (7 * k)) s
noncomputable def T3 : List (FuncId × HF) := [(38, rdH pTake), (39, hNeed)]
theorem base3 : Base Tryz.prog (hooksOf T3 []) := ⟨mixed, hooksOf_sim (.cons _ _ _ okTake (.cons _ _ _ okNeed' .nil)) .nil⟩
structure DgS (s0 : List UInt8) where
  k : Nat
  acc : Nat
  s : List UInt8
  hk : k < 10
  ha : acc < 2 ^ (7 * k)
  eq : rdU k acc s = rdU 0 0 s0
theorem digitsLocal (s0 : List UInt8) : Local Tryz.prog 67 [.pointer (some ⟨0, 0, none⟩)] (wd [(0, some (rdr s0))] 1 [] 0) fun e W' => match rdU 0 0 s0 with
    | some (n, s') => e = .ret (.int .u64 n) ∧ W'.get 0 = some (rdr s')
    | none => e = .pan wrongV := by
  refine lit_local base3 Tryz.func67 rfl (Nat.le_of_ble_eq_true rfl) ?_
  simp only [frOfL.eq_1, frOfL.eq_2, wd_next, Tryz.ntmps67, Nat.reduceAdd]
  refine xwp_seq (xwp_region (e := ?e1) (s' := ?s1) base3 ?h1 ?q1)
  case h1 =>
    simp (disch := first | decide | omega | (simp only [List.length_cons, List.length_nil, List.length_append, length_bvs, List.length_take, List.length_drop]; omega)) only [go_sem, Nat.reduceAdd, Nat.reduceMul, Nat.reduceSub]
    all_goals with_reducible rfl
  case q1 =>
  refine xwp_seq (xwp_region (e := ?e2) (s' := ?s2) base3 ?h2 ?q2)
  case h2 =>
    simp (disch := first | decide | omega | (simp only [List.length_cons, List.length_nil, List.length_append, length_bvs, List.length_take, List.length_drop]; omega)) only [go_sem, Nat.reduceAdd, Nat.reduceMul, Nat.reduceSub]
    all_goals with_reducible rfl
  case q2 =>
  refine xwp_seq ?_
  refine xwp_seq (xwp_region (e := ?e3) (s' := ?s3) base3 ?h3 ?q3)
  case h3 =>
    simp (disch := first | decide | omega | (simp only [List.length_cons, List.length_nil, List.length_append, length_bvs, List.length_take, List.length_drop]; omega)) only [go_sem, Nat.reduceAdd, Nat.reduceMul, Nat.reduceSub]
    all_goals with_reducible rfl
  case q3 =>
  refine xwp_block ?_
  refine xwp_le (chle_lit (F' := [(0, some (.pointer (some ⟨0, 0, none⟩))), (3, some (.int .u64 0)), (6, some (.int .i64 0))]) (L' := [(0, some (rdr s0))]) (n' := 1) (lg' := []) (nl' := 0) (by simp (disch := decide) [AllLk, lk_hit, lk_miss]) (by simp (disch := decide) [AllLk, lk_hit, lk_miss]) (by decide)) ?_
  refine xwp_loop (α := DgS s0) (fun x => ⟨frm [(0, some (.pointer (some ⟨0, 0, none⟩))), (3, some (.int .u64 (x.acc : Int))), (6, some (.int .i64 (x.k : Int)))], wd [(0, some (rdr x.s))] 1 [] 0, []⟩) (fun x => 10 - x.k) ?_ ⟨0, 0, s0, by omega, by omega, rfl⟩
  intro ⟨k, acc, s, hk, ha, heq⟩
  simp only
  refine xwp_seq (xwp_region (e := ?e4) (s' := ?s4) base3 ?h4 ?q4)
  case h4 =>
    simp (disch := first | decide | omega | (simp only [List.length_cons, List.length_nil, List.length_append, length_bvs, List.length_take, List.length_drop]; omega)) only [go_sem, Nat.reduceAdd, Nat.reduceMul, Nat.reduceSub]
    all_goals with_reducible rfl
  case q4 =>
  refine xwp_seq (xwp_ct ?h5 ?q5)
  case h5 =>
    simp (disch := first | decide | omega | (simp only [List.length_cons, List.length_nil, List.length_append, length_bvs, List.length_take, List.length_drop]; omega)) only [go_sem, Nat.reduceAdd, Nat.reduceMul, Nat.reduceSub]
    all_goals with_reducible rfl
  case q5 =>
  refine xwp_skip ?_
  refine xwp_seq (xwp_block ?_)
  refine xwp_seq (xwp_region (e := ?e6) (s' := ?s6) base3 ?h6 ?q6)
  case h6 =>
    simp (disch := first | decide | omega | (simp only [List.length_cons, List.length_nil, List.length_append, length_bvs, List.length_take, List.length_drop]; omega)) only [go_sem, Nat.reduceAdd, Nat.reduceMul, Nat.reduceSub]
    all_goals with_reducible rfl
  case q6 =>
  cases s with
  | nil =>
    refine xwp_seq (xwp_region (e := ?e7) (s' := ?s7) base3 ?h7 ?q7)
    case h7 =>
      simp (disch := first | decide | omega | (simp only [List.length_cons, List.length_nil, List.length_append, length_bvs, List.length_take, List.length_drop]; omega)) only [T3, rdH_eq, rdO_eq, rmK.eq_1, rmK.eq_2, pTake_ok, pTake_no, hNeed.eq_1, hNeed.eq_2, List.length_nil, go_sem, Nat.reduceAdd, Nat.reduceMul, Nat.reduceSub]
      all_goals with_reducible rfl
    case q7 =>
    refine ⟨_, ?e8, ?W8, rfl, ?h8, ?q8⟩
    case h8 =>
      simp (disch := first | decide | omega | (simp only [List.length_cons, List.length_nil, List.length_append, length_bvs, List.length_take, List.length_drop]; omega)) only [go_sem, Nat.reduceAdd, Nat.reduceMul, Nat.reduceSub]
      all_goals with_reducible rfl
    case q8 =>
    rw [← heq]; rfl
  | cons b s' =>
  have hb := b.toNat_lt
  refine xwp_seq (xwp_region (e := ?e9) (s' := ?s9) base3 ?h9 ?q9)
  case h9 =>
    simp (disch := first | decide | omega | (simp only [List.length_cons, List.length_nil, List.length_append, length_bvs, List.length_take, List.length_drop]; omega)) only [T3, rdH_eq, rdO_eq, rmK.eq_1, rmK.eq_2, pTake_ok, pTake_no, hNeed.eq_1, hNeed.eq_2, List.length_cons, go_sem, Nat.reduceAdd, Nat.reduceMul, Nat.reduceSub]
    all_goals with_reducible rfl
  case q9 =>
  have hb0 : 0 ≤ (b.toNat : Int) := by omega
  by_cases h9 : 9 ≤ k ∧ 1 < b.toNat
  · have h1 : ¬ ((k : Int) < 9) := by omega
    have h2 : ¬ ((b.toNat : Int) ≤ 1) := by omega
    refine xwp_seq (xwp_region (e := ?e10) (s' := ?s10) base3 ?h10 ?q10)
    case h10 =>
      simp (disch := first | decide | omega | (simp only [List.length_cons, List.length_nil, List.length_append, length_bvs, List.length_take, List.length_drop]; omega)) only [T3, rdH_eq, rdO_eq, rmK.eq_1, rmK.eq_2, pTake_ok, pTake_no, hNeed.eq_1, hNeed.eq_2, go_sem, Nat.reduceAdd, Nat.reduceMul, Nat.reduceSub]
      all_goals with_reducible rfl
    case q10 =>
    refine ⟨_, ?e11, ?W11, rfl, ?h11, ?q11⟩
    case h11 =>
      simp (disch := first | decide | omega | (simp only [List.length_cons, List.length_nil, List.length_append, length_bvs, List.length_take, List.length_drop]; omega)) only [go_sem, Nat.reduceAdd, Nat.reduceMul, Nat.reduceSub]
      all_goals with_reducible rfl
    case q11 =>
    rw [← heq]
    unfold rdU
    rw [if_pos h9]
  · have hx : b.toNat % 128 * 2 ^ (7 * k) < 18446744073709551616 := by
      have : k = 0 ∨ k = 1 ∨ k = 2 ∨ k = 3 ∨ k = 4 ∨ k = 5 ∨ k = 6 ∨ k = 7 ∨ k = 8 ∨ k = 9 := by omega
      rcases this with rfl | rfl | rfl | rfl | rfl | rfl | rfl | rfl | rfl | rfl <;> simp only [Nat.reduceMul, Nat.reducePow] <;> omega
    have hp : 2 ^ (7 * k) ≤ 18446744073709551616 := Nat.pow_le_pow_right (n := 2) (by decide) (show 7 * k ≤ 64 by omega)
    have hor : bitsI .or .u64 (acc : Int) ((b.toNat % 128 * 2 ^ (7 * k) : Nat) : Int) = ((acc + b.toNat % 128 * 2 ^ (7 * k) : Nat) : Int) := by
      rw [bits_or .u64 rfl (show acc < 18446744073709551616 by omega) hx, or_add ha]
    have h25 : ((b.toNat % 128 : Nat) : Int) * ((2 ^ (7 * k) : Nat) : Int) = ((b.toNat % 128 * 2 ^ (7 * k) : Nat) : Int) := icast_mul _ _
    refine xwp_region_to base3 ⟨frm [(0, some (.pointer (some ⟨0, 0, none⟩))), (3, some (.int .u64 acc)), (6, some (.int .i64 k)), (4, some (.int .i64 k)), (5, some (.int .u8 b.toNat))], wd [(0, some (rdr s'))] 1 [] 0, []⟩ ?hn ?hq
    case hn =>
      rcases Nat.lt_or_ge k 9 with hk9 | hk9
      · refine ⟨?s12, ?a12, ?b12⟩
        case a12 =>
          simp (disch := first | decide | omega | (simp only [List.length_cons, List.length_nil, List.length_append, length_bvs, List.length_take, List.length_drop]; omega)) only [T3, rdH_eq, rdO_eq, rmK.eq_1, rmK.eq_2, pTake_ok, pTake_no, hNeed.eq_1, hNeed.eq_2, go_sem, Nat.reduceAdd, Nat.reduceMul, Nat.reduceSub]
          all_goals with_reducible rfl
        case b12 =>
          exact chle_lit (by simp (disch := decide) [AllLk, lk_hit, lk_miss, lk_nil]) (by simp (disch := decide) [AllLk, lk_hit, lk_miss, lk_nil]) (by decide)
      · have hb1 : b.toNat ≤ 1 := by omega
        refine ⟨?s13, ?a13, ?b13⟩
        case a13 =>
          simp (disch := first | decide | omega | (simp only [List.length_cons, List.length_nil, List.length_append, length_bvs, List.length_take, List.length_drop]; omega)) only [T3, rdH_eq, rdO_eq, rmK.eq_1, rmK.eq_2, pTake_ok, pTake_no, hNeed.eq_1, hNeed.eq_2, go_sem, Nat.reduceAdd, Nat.reduceMul, Nat.reduceSub]
          all_goals with_reducible rfl
        case b13 =>
          exact chle_lit (by simp (disch := decide) [AllLk, lk_hit, lk_miss, lk_nil]) (by simp (disch := decide) [AllLk, lk_hit, lk_miss, lk_nil]) (by decide)
    case hq =>
    refine xwp_seq (xwp_region (e := ?e14) (s' := ?s14) base3 ?h14 ?q14)
    case h14 =>
      simp (disch := first | decide | omega | (simp only [List.length_cons, List.length_nil, List.length_append, length_bvs, List.length_take, List.length_drop]; omega)) only [hor, go_sem, Nat.reduceAdd, Nat.reduceMul, Nat.reduceSub]
      all_goals with_reducible rfl
    case q14 =>
    refine xwp_seq (xwp_region (e := ?e15) (s' := ?s15) base3 ?h15 ?q15)
    case h15 =>
      simp (disch := first | decide | omega | (simp only [List.length_cons, List.length_nil, List.length_append, length_bvs, List.length_take, List.length_drop]; omega)) only [go_sem, Nat.reduceAdd, Nat.reduceMul, Nat.reduceSub]
      all_goals with_reducible rfl
    case q15 =>
    by_cases h128 : b.toNat < 128
    · refine xwp_ct ?h16 ?q16
      case h16 =>
        simp (disch := first | decide | omega | (simp only [List.length_cons, List.length_nil, List.length_append, length_bvs, List.length_take, List.length_drop]; omega)) only [go_sem, Nat.reduceAdd, Nat.reduceMul, Nat.reduceSub]
        all_goals with_reducible rfl
      case q16 =>
      by_cases hk0 : 0 < k ∧ b.toNat = 0
      · refine xwp_seq (xwp_region (e := ?e17) (s' := ?s17) base3 ?h17 ?q17)
        case h17 =>
          simp (disch := first | decide | omega | (simp only [List.length_cons, List.length_nil, List.length_append, length_bvs, List.length_take, List.length_drop]; omega)) only [T3, rdH_eq, rdO_eq, rmK.eq_1, rmK.eq_2, pTake_ok, pTake_no, hNeed.eq_1, hNeed.eq_2, go_sem, Nat.reduceAdd, Nat.reduceMul, Nat.reduceSub]
          all_goals with_reducible rfl
        case q17 =>
        refine ⟨_, ?e18, ?W18, rfl, ?h18, ?q18⟩
        case h18 =>
          simp (disch := first | decide | omega | (simp only [List.length_cons, List.length_nil, List.length_append, length_bvs, List.length_take, List.length_drop]; omega)) only [go_sem, Nat.reduceAdd, Nat.reduceMul, Nat.reduceSub]
          all_goals with_reducible rfl
        case q18 =>
        rw [← heq]
        unfold rdU
        rw [if_neg h9, if_pos h128, if_pos hk0]
      · refine xwp_region_to base3 ⟨frm [(3, some (.int .u64 ((acc + b.toNat % 128 * 2 ^ (7 * k) : Nat) : Int)))], wd [(0, some (rdr s'))] 1 [] 0, []⟩ ?hn2 ?hq2
        case hn2 =>
          by_cases hk1 : k = 0
          · refine ⟨?s19, ?a19, ?b19⟩
            case a19 =>
              simp (disch := first | decide | omega | (simp only [List.length_cons, List.length_nil, List.length_append, length_bvs, List.length_take, List.length_drop]; omega)) only [T3, rdH_eq, rdO_eq, rmK.eq_1, rmK.eq_2, pTake_ok, pTake_no, hNeed.eq_1, hNeed.eq_2, go_sem, Nat.reduceAdd, Nat.reduceMul, Nat.reduceSub]
              all_goals with_reducible rfl
            case b19 =>
              exact chle_lit (by simp (disch := decide) [AllLk, lk_hit, lk_miss, lk_nil]) (by simp (disch := decide) [AllLk, lk_hit, lk_miss, lk_nil]) (by decide)
          · have hb1 : 0 < b.toNat := by omega
            refine ⟨?s20, ?a20, ?b20⟩
            case a20 =>
              simp (disch := first | decide | omega | (simp only [List.length_cons, List.length_nil, List.length_append, length_bvs, List.length_take, List.length_drop]; omega)) only [T3, rdH_eq, rdO_eq, rmK.eq_1, rmK.eq_2, pTake_ok, pTake_no, hNeed.eq_1, hNeed.eq_2, go_sem, Nat.reduceAdd, Nat.reduceMul, Nat.reduceSub]
              all_goals with_reducible rfl
            case b20 =>
              exact chle_lit (by simp (disch := decide) [AllLk, lk_hit, lk_miss, lk_nil]) (by simp (disch := decide) [AllLk, lk_hit, lk_miss, lk_nil]) (by decide)
        case hq2 =>
        refine xwp_seq (xwp_region (e := ?e21) (s' := ?s21) base3 ?h21 ?q21)
        case h21 =>
          simp (disch := first | decide | omega | (simp only [List.length_cons, List.length_nil, List.length_append, length_bvs, List.length_take, List.length_drop]; omega)) only [go_sem, Nat.reduceAdd, Nat.reduceMul, Nat.reduceSub]
          all_goals with_reducible rfl
        case q21 =>
        refine xwp_ret ?_
        refine ⟨_, ?e22, ?W22, rfl, ?h22, ?q22⟩
        case h22 =>
          simp (disch := first | decide | omega | (simp only [List.length_cons, List.length_nil, List.length_append, length_bvs, List.length_take, List.length_drop]; omega)) only [Tryz.results67, go_sem, Nat.reduceAdd, Nat.reduceMul, Nat.reduceSub]
          all_goals with_reducible rfl
        case q22 =>
        rw [← heq]
        unfold rdU
        rw [if_neg h9, if_pos h128, if_neg hk0]
        exact ⟨rfl, by simp (disch := first | decide | omega | (simp only [List.length_cons, List.length_nil, List.length_append, length_bvs, List.length_take, List.length_drop]; omega)) only [go_sem, Nat.reduceAdd, Nat.reduceMul, Nat.reduceSub]⟩
    · have hk9 : k < 9 := by omega
      refine xwp_cf ?h23 ?q23
      case h23 =>
        simp (disch := first | decide | omega | (simp only [List.length_cons, List.length_nil, List.length_append, length_bvs, List.length_take, List.length_drop]; omega)) only [go_sem, Nat.reduceAdd, Nat.reduceMul, Nat.reduceSub]
        all_goals with_reducible rfl
      case q23 =>
      refine xwp_skip ?_
      refine xwp_region (e := ?e24) (s' := ?s24) base3 ?h24 ?q24
      case h24 =>
        simp (disch := first | decide | omega | (simp only [List.length_cons, List.length_nil, List.length_append, length_bvs, List.length_take, List.length_drop]; omega)) only [go_sem, Nat.reduceAdd, Nat.reduceMul, Nat.reduceSub]
        all_goals with_reducible rfl
      case q24 =>
      have hP : 2 ^ (7 * (k + 1)) = 128 * 2 ^ (7 * k) := by rw [show 7 * (k + 1) = 7 + 7 * k by omega, Nat.pow_add]
      have h127 : b.toNat % 128 * 2 ^ (7 * k) ≤ 127 * 2 ^ (7 * k) := Nat.mul_le_mul_right _ (by omega)
      refine ⟨⟨k + 1, acc + b.toNat % 128 * 2 ^ (7 * k), s', by omega, by omega, ?_⟩, by simp only; omega, ?_⟩
      · rw [← heq]
        conv => rhs; unfold rdU
        rw [if_neg h9, if_neg h128]
      · exact chle_lit (by simp (disch := decide) [AllLk, lk_hit, lk_miss]) (by simp (disch := decide) [AllLk, lk_hit, lk_miss]) (by decide)
def pDigits (xs : List Value) (s : List UInt8) : Option (Option (Value × List UInt8)) := match xs with
  | [] => some ((rdU 0 0 s).map fun q => (.int .u64 q.1, q.2))
  | _ => none
theorem pDigits_eq {s : List UInt8} : pDigits [] s = some ((rdU 0 0 s).map fun q => (.int .u64 q.1, q.2)) := rfl
theorem okDigits : HookOk Tryz.prog 67 (rdH pDigits) := rdH_ok (enters_of (by kernel_rfl)) (fun xs s x h => by
    unfold pDigits at h
    split at h
    · cases h
      refine ⟨bares_nil, fun v s' h => ?_⟩
      cases hr : rdU 0 0 s with
      | none => rw [hr] at h; cases h
      | some q => rw [hr] at h; cases h; exact bare_flat 1 rfl
    · cases h) (fun xs s x h => by
    unfold pDigits at h
    split at h
    · cases h
      refine fun ρ args' w m h1 h2 h3 => CallsIn.mono (digitsLocal s ρ args' w m h1 h2 h3) fun en w' ⟨e, W', hS, hq⟩ => ⟨e, W', ?_, hq⟩
      cases hr : rdU 0 0 s with
      | none => rw [hr] at hS; exact hS
      | some q => rw [hr] at hS; exact hS
    · cases h)
theorem rdU_lt {k acc : Nat} {s s' : List UInt8} {n : Nat} (hk : k < 10) (ha : acc < 2 ^ (7 * k)) (h : rdU k acc s = some (n, s')) : n < 18446744073709551616 := by
  induction s generalizing k acc with
  | nil => cases h
  | cons b s ih =>
    have hb := b.toNat_lt
    unfold rdU at h
    split at h
    · cases h
    · rename_i h9
      have hx : b.toNat % 128 * 2 ^ (7 * k) + 2 ^ (7 * k) ≤ 18446744073709551616 := by
        have : k = 0 ∨ k = 1 ∨ k = 2 ∨ k = 3 ∨ k = 4 ∨ k = 5 ∨ k = 6 ∨ k = 7 ∨ k = 8 ∨ k = 9 := by omega
        rcases this with rfl | rfl | rfl | rfl | rfl | rfl | rfl | rfl | rfl | rfl <;> simp only [Nat.reduceMul, Nat.reducePow] <;> omega
      split at h
      · split at h
        · cases h
        · cases h; omega
      · have hP : 2 ^ (7 * (k + 1)) = 128 * 2 ^ (7 * k) := by rw [show 7 * (k + 1) = 7 + 7 * k by omega, Nat.pow_add]
        have h127 : b.toNat % 128 * 2 ^ (7 * k) ≤ 127 * 2 ^ (7 * k) := Nat.mul_le_mul_right _ (by omega)
        exact ih (by omega) (by omega) h
end Go.Proofs.YthlkgmdkabelpaaGreatDoor.X
namespace Go.Proofs.YthlkgmdkabelpaaGreatDoor.X
open Go Go.RowKit
noncomputable def T4 : List (FuncId × HF) := [(67, rdH pDigits), (38, rdH pTake), (39, hNeed)]
theorem base4 : Base Tryz.prog (hooksOf T4 []) := ⟨mixed, hooksOf_sim (.cons _ _ _ okDigits (.cons _ _ _ okTake (.cons _ _ _ okNeed' .nil))) .nil⟩
def rdM (most : Nat) (s : List UInt8) : Option (Nat × List UInt8) := match rdU 0 0 s with
  | some (n, s') => if n ≤ most then some (n, s') else none
  | none => none
theorem rdM_no {most : Nat} {s : List UInt8} (h : rdU 0 0 s = none) : rdM most s = none := by unfold rdM; rw [h]
theorem rdM_ok {most n : Nat} {s s' : List UInt8} (h : rdU 0 0 s = some (n, s')) (hn : n ≤ most) : rdM most s = some (n, s') := by unfold rdM; rw [h]; exact if_pos hn
theorem rdM_big {most n : Nat} {s s' : List UInt8} (h : rdU 0 0 s = some (n, s')) (hn : ¬ n ≤ most) : rdM most s = none := by unfold rdM; rw [h]; exact if_neg hn
theorem manyLocal (s : List UInt8) (most : Nat) (hm : most < 9223372036854775808) : Local Tryz.prog 35 [.pointer (some ⟨0, 0, none⟩), .int .i64 most] (wd [(0, some (rdr s))] 1 [] 0) fun e W' => match rdM most s with
    | some (n, s') => e = .ret (.int .i64 n) ∧ W'.get 0 = some (rdr s')
    | none => e = .pan wrongV := by
  refine lit_local base4 Tryz.func35 rfl (Nat.le_of_ble_eq_true rfl) ?_
  simp only [frOfL.eq_1, frOfL.eq_2, wd_next, Tryz.ntmps35, Nat.reduceAdd]
  refine xwp_seq (xwp_region (e := ?e1) (s' := ?s1) base4 ?h1 ?q1)
  case h1 =>
    simp (disch := first | decide | omega | (simp only [List.length_cons, List.length_nil, List.length_append, length_bvs, List.length_take, List.length_drop]; omega)) only [go_sem, Nat.reduceAdd, Nat.reduceMul, Nat.reduceSub]
    all_goals with_reducible rfl
  case q1 =>
  cases hr : rdU 0 0 s with
  | none =>
    rw [rdM_no hr]
    refine xwp_seq (xwp_region (e := ?e2) (s' := ?s2) base4 ?h2 ?q2)
    case h2 =>
      simp (disch := first | decide | omega | (simp only [List.length_cons, List.length_nil, List.length_append, length_bvs, List.length_take, List.length_drop]; omega)) only [T4, rdH_eq, rdO_eq, rmK.eq_1, rmK.eq_2, pTake_ok, pTake_no, hNeed.eq_1, hNeed.eq_2, pDigits_eq, hr, Option.map_none, go_sem, Nat.reduceAdd, Nat.reduceMul, Nat.reduceSub]
      all_goals with_reducible rfl
    case q2 =>
    refine ⟨_, ?e3, ?W3, rfl, ?h3, ?q3⟩
    case h3 =>
      simp (disch := first | decide | omega | (simp only [List.length_cons, List.length_nil, List.length_append, length_bvs, List.length_take, List.length_drop]; omega)) only [go_sem, Nat.reduceAdd, Nat.reduceMul, Nat.reduceSub]
      all_goals with_reducible rfl
    case q3 =>
    rfl
  | some q =>
    obtain ⟨n, s'⟩ := q
    have hn := rdU_lt (k := 0) (acc := 0) (by omega) (by omega) hr
    refine xwp_seq (xwp_region (e := ?e4) (s' := ?s4) base4 ?h4 ?q4)
    case h4 =>
      simp (disch := first | decide | omega | (simp only [List.length_cons, List.length_nil, List.length_append, length_bvs, List.length_take, List.length_drop]; omega)) only [T4, rdH_eq, rdO_eq, rmK.eq_1, rmK.eq_2, pTake_ok, pTake_no, hNeed.eq_1, hNeed.eq_2, pDigits_eq, hr, Option.map_some, go_sem, Nat.reduceAdd, Nat.reduceMul, Nat.reduceSub]
      all_goals with_reducible rfl
    case q4 =>
    by_cases hle : n ≤ most
    · rw [rdM_ok hr hle]
      refine xwp_seq (xwp_region (e := ?e5) (s' := ?s5) base4 ?h5 ?q5)
      case h5 =>
        simp (disch := first | decide | omega | (simp only [List.length_cons, List.length_nil, List.length_append, length_bvs, List.length_take, List.length_drop]; omega)) only [T4, rdH_eq, rdO_eq, rmK.eq_1, rmK.eq_2, pTake_ok, pTake_no, hNeed.eq_1, hNeed.eq_2, go_sem, Nat.reduceAdd, Nat.reduceMul, Nat.reduceSub]
        all_goals with_reducible rfl
      case q5 =>
      refine xwp_seq (xwp_region (e := ?e6) (s' := ?s6) base4 ?h6 ?q6)
      case h6 =>
        simp (disch := first | decide | omega | (simp only [List.length_cons, List.length_nil, List.length_append, length_bvs, List.length_take, List.length_drop]; omega)) only [go_sem, Nat.reduceAdd, Nat.reduceMul, Nat.reduceSub]
        all_goals with_reducible rfl
      case q6 =>
      refine xwp_ret ?_
      refine ⟨_, ?e7, ?W7, rfl, ?h7, ?q7⟩
      case h7 =>
        simp (disch := first | decide | omega | (simp only [List.length_cons, List.length_nil, List.length_append, length_bvs, List.length_take, List.length_drop]; omega)) only [Tryz.results35, go_sem, Nat.reduceAdd, Nat.reduceMul, Nat.reduceSub]
        all_goals with_reducible rfl
      case q7 =>
      exact ⟨rfl, by simp (disch := first | decide | omega | (simp only [List.length_cons, List.length_nil, List.length_append, length_bvs, List.length_take, List.length_drop]; omega)) only [go_sem, Nat.reduceAdd, Nat.reduceMul, Nat.reduceSub]⟩
    · rw [rdM_big hr hle]
      refine xwp_seq (xwp_region (e := ?e8) (s' := ?s8) base4 ?h8 ?q8)
      case h8 =>
        simp (disch := first | decide | omega | (simp only [List.length_cons, List.length_nil, List.length_append, length_bvs, List.length_take, List.length_drop]; omega)) only [T4, rdH_eq, rdO_eq, rmK.eq_1, rmK.eq_2, pTake_ok, pTake_no, hNeed.eq_1, hNeed.eq_2, go_sem, Nat.reduceAdd, Nat.reduceMul, Nat.reduceSub]
        all_goals with_reducible rfl
      case q8 =>
      refine ⟨_, ?e9, ?W9, rfl, ?h9, ?q9⟩
      case h9 =>
        simp (disch := first | decide | omega | (simp only [List.length_cons, List.length_nil, List.length_append, length_bvs, List.length_take, List.length_drop]; omega)) only [go_sem, Nat.reduceAdd, Nat.reduceMul, Nat.reduceSub]
        all_goals with_reducible rfl
      case q9 =>
      rfl
def unz (n : Nat) : Int := if n % 2 = 0 then (n / 2 : Nat) else -((n / 2 : Nat) : Int) - 1
theorem codeLocal (s : List UInt8) : Local Tryz.prog 68 [.pointer (some ⟨0, 0, none⟩)] (wd [(0, some (rdr s))] 1 [] 0) fun e W' => match (rdU 0 0 s).map fun q => (unz q.1, q.2) with
    | some (n, s') => e = .ret (.int .i64 n) ∧ W'.get 0 = some (rdr s')
    | none => e = .pan wrongV := by
  refine lit_local base4 Tryz.func68 rfl (Nat.le_of_ble_eq_true rfl) ?_
  simp only [frOfL.eq_1, frOfL.eq_2, wd_next, Tryz.ntmps68, Nat.reduceAdd]
  refine xwp_seq (xwp_region (e := ?e10) (s' := ?s10) base4 ?h10 ?q10)
  case h10 =>
    simp (disch := first | decide | omega | (simp only [List.length_cons, List.length_nil, List.length_append, length_bvs, List.length_take, List.length_drop]; omega)) only [go_sem, Nat.reduceAdd, Nat.reduceMul, Nat.reduceSub]
    all_goals with_reducible rfl
  case q10 =>
  cases hr : rdU 0 0 s with
  | none =>
    refine xwp_seq (xwp_region (e := ?e11) (s' := ?s11) base4 ?h11 ?q11)
    case h11 =>
      simp (disch := first | decide | omega | (simp only [List.length_cons, List.length_nil, List.length_append, length_bvs, List.length_take, List.length_drop]; omega)) only [T4, rdH_eq, rdO_eq, rmK.eq_1, rmK.eq_2, pTake_ok, pTake_no, hNeed.eq_1, hNeed.eq_2, pDigits_eq, hr, Option.map_none, go_sem, Nat.reduceAdd, Nat.reduceMul, Nat.reduceSub]
      all_goals with_reducible rfl
    case q11 =>
    refine ⟨_, ?e12, ?W12, rfl, ?h12, ?q12⟩
    case h12 =>
      simp (disch := first | decide | omega | (simp only [List.length_cons, List.length_nil, List.length_append, length_bvs, List.length_take, List.length_drop]; omega)) only [go_sem, Nat.reduceAdd, Nat.reduceMul, Nat.reduceSub]
      all_goals with_reducible rfl
    case q12 =>
    rfl
  | some q =>
    obtain ⟨n, s'⟩ := q
    have hn := rdU_lt (k := 0) (acc := 0) (by omega) (by omega) hr
    refine xwp_seq (xwp_region (e := ?e13) (s' := ?s13) base4 ?h13 ?q13)
    case h13 =>
      simp (disch := first | decide | omega | (simp only [List.length_cons, List.length_nil, List.length_append, length_bvs, List.length_take, List.length_drop]; omega)) only [T4, rdH_eq, rdO_eq, rmK.eq_1, rmK.eq_2, pTake_ok, pTake_no, hNeed.eq_1, hNeed.eq_2, pDigits_eq, hr, Option.map_some, go_sem, Nat.reduceAdd, Nat.reduceMul, Nat.reduceSub]
      all_goals with_reducible rfl
    case q13 =>
    have hand : bitsI .and .u64 (n : Int) ((1 : Nat) : Int) = ((n % 2 : Nat) : Int) := by rw [bits_and .u64 rfl hn (by decide), and_one]
    have hx : bitsI .xor .i64 ((n / 2 : Nat) : Int) (0 - ((n % 2 : Nat) : Int)) = unz n := by
      unfold unz
      by_cases h2 : n % 2 = 0
      · rw [if_pos h2, h2]
        show bitsI .xor .i64 _ 0 = _
        rw [bits_xor0 (by omega) (by omega)]
      · have h2' : n % 2 = 1 := by omega
        rw [if_neg h2, h2']
        show bitsI .xor .i64 _ (-1) = _
        rw [bits_xor1 (by omega) (by omega)]
    have hp7 : (2 : Nat) ^ 1 = 2 := rfl
    refine xwp_seq (xwp_region (e := ?e14) (s' := ?s14) base4 ?h14 ?q14)
    case h14 =>
      simp (disch := first | decide | omega | (simp only [List.length_cons, List.length_nil, List.length_append, length_bvs, List.length_take, List.length_drop]; omega)) only [hand, hp7, hx, go_sem, Nat.reduceAdd, Nat.reduceMul, Nat.reduceSub]
      all_goals with_reducible rfl
    case q14 =>
    refine xwp_ret ?_
    refine ⟨_, ?e15, ?W15, rfl, ?h15, ?q15⟩
    case h15 =>
      simp (disch := first | decide | omega | (simp only [List.length_cons, List.length_nil, List.length_append, length_bvs, List.length_take, List.length_drop]; omega)) only [Tryz.results68, go_sem, Nat.reduceAdd, Nat.reduceMul, Nat.reduceSub]
      all_goals with_reducible rfl
    case q15 =>
    exact ⟨rfl, by simp (disch := first | decide | omega | (simp only [List.length_cons, List.length_nil, List.length_append, length_bvs, List.length_take, List.length_drop]; omega)) only [go_sem, Nat.reduceAdd, Nat.reduceMul, Nat.reduceSub]⟩
theorem hashLocal (s : List UInt8) : Local Tryz.prog 36 [.pointer (some ⟨0, 0, none⟩)] (wd [(0, some (rdr s))] 1 [] 0) fun e W' =>
    if 32 ≤ s.length then e = .ret (.agg (bvs (s.take 32)).toArray) ∧ W'.get 0 = some (rdr (s.drop 32)) else e = .pan wrongV := by
  refine lit_local base4 Tryz.func36 rfl (Nat.le_of_ble_eq_true rfl) ?_
  simp only [frOfL.eq_1, frOfL.eq_2, wd_next, Tryz.ntmps36, Nat.reduceAdd]
  refine xwp_seq (xwp_region (e := ?e16) (s' := ?s16) base4 ?h16 ?q16)
  case h16 =>
    simp (disch := first | decide | omega | (simp only [List.length_cons, List.length_nil, List.length_append, length_bvs, List.length_take, List.length_drop]; omega)) only [go_sem, Nat.reduceAdd, Nat.reduceMul, Nat.reduceSub]
    all_goals with_reducible rfl
  case q16 =>
  by_cases hl : 32 ≤ s.length
  · simp only [if_pos hl]
    have h32 : (s.take 32).length = 32 := by rw [List.length_take]; omega
    refine xwp_seq (xwp_region (e := ?e17) (s' := ?s17) base4 ?h17 ?q17)
    case h17 =>
      simp (disch := first | decide | omega | (simp only [List.length_cons, List.length_nil, List.length_append, length_bvs, List.length_take, List.length_drop]; omega)) only [T4, rdH_eq, rdO_eq, rmK.eq_1, rmK.eq_2, pTake_ok, pTake_no, hNeed.eq_1, hNeed.eq_2, h32, go_sem, Nat.reduceAdd, Nat.reduceMul, Nat.reduceSub]
      all_goals with_reducible rfl
    case q17 =>
    refine xwp_ret ?_
    refine ⟨_, ?e18, ?W18, rfl, ?h18, ?q18⟩
    case h18 =>
      simp (disch := first | decide | omega | (simp only [List.length_cons, List.length_nil, List.length_append, length_bvs, List.length_take, List.length_drop]; omega)) only [Tryz.results36, h32, go_sem, Nat.reduceAdd, Nat.reduceMul, Nat.reduceSub]
      all_goals with_reducible rfl
    case q18 =>
    exact ⟨rfl, by simp (disch := first | decide | omega | (simp only [List.length_cons, List.length_nil, List.length_append, length_bvs, List.length_take, List.length_drop]; omega)) only [go_sem, Nat.reduceAdd, Nat.reduceMul, Nat.reduceSub]⟩
  · simp only [if_neg hl]
    refine xwp_seq (xwp_region (e := ?e19) (s' := ?s19) base4 ?h19 ?q19)
    case h19 =>
      simp (disch := first | decide | omega | (simp only [List.length_cons, List.length_nil, List.length_append, length_bvs, List.length_take, List.length_drop]; omega)) only [T4, rdH_eq, rdO_eq, rmK.eq_1, rmK.eq_2, pTake_ok, pTake_no, hNeed.eq_1, hNeed.eq_2, go_sem, Nat.reduceAdd, Nat.reduceMul, Nat.reduceSub]
      all_goals with_reducible rfl
    case q19 =>
    refine ⟨_, ?e20, ?W20, rfl, ?h20, ?q20⟩
    case h20 =>
      simp (disch := first | decide | omega | (simp only [List.length_cons, List.length_nil, List.length_append, length_bvs, List.length_take, List.length_drop]; omega)) only [go_sem, Nat.reduceAdd, Nat.reduceMul, Nat.reduceSub]
      all_goals with_reducible rfl
    case q20 =>
    rfl
def pMany (xs : List Value) (s : List UInt8) : Option (Option (Value × List UInt8)) := match xs with
  | [.int .i64 (.ofNat most)] => bif Nat.blt most 9223372036854775808 then some ((rdM most s).map fun q => (.int .i64 q.1, q.2)) else none
  | _ => none
theorem pMany_eq {most : Nat} {s : List UInt8} (h : most < 9223372036854775808) : pMany [.int .i64 (most : Int)] s = some ((rdM most s).map fun q => (.int .i64 q.1, q.2)) := by
  show (bif Nat.blt most 9223372036854775808 then _ else none) = _
  rw [blt_t h]; rfl
theorem okMany : HookOk Tryz.prog 35 (rdH pMany) := rdH_ok (enters_of (by kernel_rfl)) (fun xs s x h => by
    unfold pMany at h
    split at h
    · rename_i most
      cases hm : Nat.blt most 9223372036854775808 with
      | false => rw [hm] at h; cases h
      | true =>
        rw [hm] at h
        cases h
        refine ⟨bares_cons (bare_flat 1 rfl) bares_nil, fun v s' h => ?_⟩
        cases hr : rdM most s with
        | none => rw [hr] at h; cases h
        | some q => rw [hr] at h; cases h; exact bare_flat 1 rfl
    · cases h) (fun xs s x h => by
    unfold pMany at h
    split at h
    · rename_i most
      cases hm : Nat.blt most 9223372036854775808 with
      | false => rw [hm] at h; cases h
      | true =>
        rw [hm] at h
        cases h
        refine fun ρ args' w m h1 h2 h3 => CallsIn.mono (manyLocal s most (blt_iff.1 hm) ρ args' w m h1 h2 h3) fun en w' ⟨e, W', hS, hq⟩ => ⟨e, W', ?_, hq⟩
        cases hr : rdM most s with
        | none => rw [hr] at hS; exact hS
        | some q => rw [hr] at hS; exact hS
    · cases h)
def rdI (s : List UInt8) : Option (Int × List UInt8) := (rdU 0 0 s).map fun q => (unz q.1, q.2)
def pCode (xs : List Value) (s : List UInt8) : Option (Option (Value × List UInt8)) := match xs with
  | [] => some ((rdI s).map fun q => (.int .i64 q.1, q.2))
  | _ => none
theorem pCode_eq {s : List UInt8} : pCode [] s = some ((rdI s).map fun q => (.int .i64 q.1, q.2)) := rfl
theorem okCode : HookOk Tryz.prog 68 (rdH pCode) := rdH_ok (enters_of (by kernel_rfl)) (fun xs s x h => by
    unfold pCode at h
    split at h
    · cases h
      refine ⟨bares_nil, fun v s' h => ?_⟩
      cases hr : rdI s with
      | none => rw [hr] at h; cases h
      | some q => rw [hr] at h; cases h; exact bare_flat 1 rfl
    · cases h) (fun xs s x h => by
    unfold pCode at h
    split at h
    · cases h
      refine fun ρ args' w m h1 h2 h3 => CallsIn.mono (codeLocal s ρ args' w m h1 h2 h3) fun en w' ⟨e, W', hS, hq⟩ => ⟨e, W', ?_, hq⟩
      unfold rdI
      cases hr : rdU 0 0 s with
      | none => rw [hr] at hS; exact hS
      | some q => rw [hr] at hS; exact hS
    · cases h)
def rdB (s : List UInt8) : Option (List UInt8 × List UInt8) := if 32 ≤ s.length then some (s.take 32, s.drop 32) else none
def pHash (xs : List Value) (s : List UInt8) : Option (Option (Value × List UInt8)) := match xs with
  | [] => some ((rdB s).map fun q => (.agg (bvs q.1).toArray, q.2))
  | _ => none
theorem pHash_eq {s : List UInt8} : pHash [] s = some ((rdB s).map fun q => (.agg (bvs q.1).toArray, q.2)) := rfl
theorem okHash : HookOk Tryz.prog 36 (rdH pHash) := rdH_ok (enters_of (by kernel_rfl)) (fun xs s x h => by
    unfold pHash at h
    split at h
    · cases h
      refine ⟨bares_nil, fun v s' h => ?_⟩
      cases hr : rdB s with
      | none => rw [hr] at h; cases h
      | some q => rw [hr] at h; cases h; exact bare_agg (bares_bvs _)
    · cases h) (fun xs s x h => by
    unfold pHash at h
    split at h
    · cases h
      refine fun ρ args' w m h1 h2 h3 => CallsIn.mono (hashLocal s ρ args' w m h1 h2 h3) fun en w' ⟨e, W', hS, hq⟩ => ⟨e, W', ?_, hq⟩
      unfold rdB
      split at hS
      · rename_i hk; rw [if_pos hk]; exact hS
      · rename_i hk; rw [if_neg hk]; exact hS
    · cases h)
end Go.Proofs.YthlkgmdkabelpaaGreatDoor.X
namespace Go.Proofs.YthlkgmdkabelpaaGreatDoor.X
open Go Go.RowKit
def encSide (c : Int × Int) : List Value := [.int .i64 c.1, .int .i64 c.2]
def rowV (l : List (Int × Int)) : List Value := l.flatMap encSide
theorem rowV_length (l : List (Int × Int)) : (rowV l).length = 2 * l.length := by
  induction l with
  | nil => rfl
  | cons p l ih => simp only [rowV, List.flatMap_cons, List.length_append] at ih ⊢; rw [ih]; simp [encSide]; omega
theorem rowV_nil : rowV [] = [] := rfl
theorem rowV_snoc (l : List (Int × Int)) (a b : Int) : rowV l ++ [.int .i64 a, .int .i64 b] = rowV (l ++ [(a, b)]) := by simp [rowV, encSide]
theorem bares_rowV (l : List (Int × Int)) : Bares (rowV l) := bares_flatMap (fun x => bares_cons (bare_flat 1 rfl) (bares_cons (bare_flat 1 rfl) bares_nil)) l
def slV (l : List (Int × Int)) : Value := match l with
  | [] => .slice none 0 0
  | _ :: _ => FZ (rowV l) l.length
def sv (n : Nat) (l : List (Int × Int)) : Value := match l with
  | [] => .slice none 0 0
  | _ :: _ => .slice (some ⟨n, 0, none⟩) l.length openCap
def rowO (e : TypeId) (l : List (Int × Int)) : Option XObj := match l with
  | [] => none
  | _ :: _ => some (.cells (rowV l) e (0, 0))
theorem sv_snoc (n : Nat) (l : List (Int × Int)) (p : Int × Int) : sv n (l ++ [p]) = .slice (some ⟨n, 0, none⟩) (l.length + 1) openCap := by
  cases l <;> simp [sv]
theorem rowO_snoc (e : TypeId) (l : List (Int × Int)) (p : Int × Int) : rowO e (l ++ [p]) = some (.cells (rowV (l ++ [p])) e (0, 0)) := by
  cases l <;> rfl
theorem bare_slV (l : List (Int × Int)) : Bare (slV l) := by
  cases l with
  | nil => exact bare_flat 1 rfl
  | cons p l => exact bare_fz (bares_rowV _)
structure EditL where
  kind : Int
  cell : Int
  dim : Int
  new : Int
  other : Int
  sides : List (Int × Int)
  pairs : List (Int × Int)
def encEdit (e : EditL) : List Value := [.int .i64 e.kind, .int .i64 e.cell, .int .i64 e.dim, .int .i64 e.new, .int .i64 e.other, slV e.sides, slV e.pairs]
def rdP : Nat → List UInt8 → Option (List (Int × Int) × List UInt8)
  | 0, s => some ([], s)
  | n + 1, s => match rdI s with
    | none => none
    | some (a, s1) => match rdI s1 with
      | none => none
      | some (b, s2) => (rdP n s2).map fun q => ((a, b) :: q.1, q.2)
theorem rdP_no1 {n : Nat} {s : List UInt8} (h : rdI s = none) : rdP (n + 1) s = none := by unfold rdP; rw [h]
theorem rdP_no2 {n : Nat} {s s1 : List UInt8} {a : Int} (h : rdI s = some (a, s1)) (h2 : rdI s1 = none) : rdP (n + 1) s = none := by unfold rdP; rw [h]; simp only; rw [h2]
theorem rdP_ok {n : Nat} {s s1 s2 : List UInt8} {a b : Int} (h : rdI s = some (a, s1)) (h2 : rdI s1 = some (b, s2)) : rdP (n + 1) s = (rdP n s2).map fun q => ((a, b) :: q.1, q.2) := by conv => lhs; unfold rdP; rw [h]; simp only; rw [h2]
noncomputable def T5 : List (FuncId × HF) := [(68, rdH pCode), (35, rdH pMany)]
theorem base5 : Base Tryz.prog (hooksOf T5 []) := ⟨mixed, hooksOf_sim (.cons _ _ _ okCode (.cons _ _ _ okMany .nil)) .nil⟩
structure PrS (N0 : Nat) (s1 : List UInt8) where
  i : Nat
  l : List (Int × Int)
  s : List UInt8
  hi : i = l.length
  hN : i ≤ N0
  eq : ((rdP (N0 - i) s).map fun q => (l ++ q.1, q.2)) = rdP N0 s1
theorem rdM_le {most n : Nat} {s s' : List UInt8} (h : rdM most s = some (n, s')) : n ≤ most := by
  unfold rdM at h
  split at h
  · split at h
    · cases h; assumption
    · cases h
  · cases h
theorem rowV_one (a b : Int) : rowV [(a, b)] = [.int .i64 a, .int .i64 b] := rfl
theorem bareO_zeroE {P : Program} : BareO P (.cells [.int .i64 0, .int .i64 0, .int .i64 0, .int .i64 0, .int .i64 0, .slice none 0 0, .slice none 0 0] 64 (0, 0)) := bareO_cells fun v hv => bare_flat 1 (by simp only [List.mem_cons, List.not_mem_nil, or_false] at hv; rcases hv with rfl | rfl | rfl | rfl | rfl | rfl | rfl <;> rfl)
theorem one_slV (l : List (Int × Int)) : oneC (slV l) = true := by cases l <;> rfl
theorem freeze_std {P : Program} {F : List (Nat × Option Value)} {o0 o1 : XObj} {d : List Value} {e e2 : TypeId} {l : List (Int × Int)} {i : Nat} (hi : d[i]? = some (sv 3 l)) (hb : l.length ≤ openCap) :
    ChLe P 1 ⟨frm F, wd [(0, some o0), (1, some o1), (2, some (.cells d e2 (0, 0))), (3, rowO e l)] 4 [] 0, []⟩ ⟨frm F, wd [(0, some o0), (1, some o1), (2, some (.cells (d.set i (slV l)) e2 (0, 0)))] 4 [] 0, []⟩ := by
  have sub : ∀ L L' : List (Nat × Option XObj), (∀ m o, lk L' m = some o → m < 4 → lk L m = some o) → ChLe P 1 ⟨frm F, wd L 4 [] 0, []⟩ ⟨frm F, wd L' 4 [] 0, []⟩ := fun L L' h =>
    chle_sub (fun t v h => h) (fun m o ho => by
      obtain ⟨h1, h2⟩ := wd_some ho
      show (wd L 4 [] 0).get m = some o
      rw [wd_get h1 (by omega)]
      exact h m o h2 h1) (Nat.le_refl _) rfl
  cases l with
  | nil =>
    have : d.set i (slV []) = d := by
      refine List.ext_getElem? fun j => ?_
      by_cases hij : i = j
      · subst hij
        rw [List.getElem?_set_self (List.getElem?_eq_some_iff.1 hi).1, hi]; rfl
      · rw [List.getElem?_set_ne hij]
    rw [this]
    refine sub _ _ fun m o h hm => ?_
    have : m = 0 ∨ m = 1 ∨ m = 2 ∨ m = 3 := by omega
    rcases this with rfl | rfl | rfl | rfl <;> exact h
  | cons p l =>
    refine ChLe.trans (chle_open 3 2 i (2 * (p :: l).length) (c := rowV (p :: l)) (d := d) (e := e) (e2 := e2) (fr := (0, 0)) (fr2 := (0, 0)) (len := (p :: l).length) (cap := openCap) rfl rfl hi (by decide) (by decide) (by decide) hb (by omega)) (sub _ _ fun m o h hm => ?_)
    · rw [show (rowV (p :: l)).take (2 * (p :: l).length) = rowV (p :: l) from List.take_of_length_le (by rw [rowV_length]; omega)]
      have : m = 0 ∨ m = 1 ∨ m = 2 ∨ m = 3 := by omega
      rcases this with rfl | rfl | rfl | rfl <;> first | exact h | cases h
def rdE (s0 : List UInt8) : Option (EditL × List UInt8) := match rdI s0 with
  | none => none
  | some (a1, s1) => match rdI s1 with
    | none => none
    | some (a2, s2) => match rdI s2 with
      | none => none
      | some (a3, s3) => match rdI s3 with
        | none => none
        | some (a4, s4) => match rdI s4 with
          | none => none
          | some (a5, s5) => match rdM 4000 s5 with
            | none => none
            | some (n, s6) => match rdP n s6 with
              | none => none
              | some (l, s7) => match rdM 4000 s7 with
                | none => none
                | some (m, s8) => match rdP m s8 with
                  | none => none
                  | some (r, s9) => some (⟨a1, a2, a3, a4, a5, l, r⟩, s9)
theorem editLocal (s0 : List UInt8) : Local Tryz.prog 37 [.pointer (some ⟨0, 0, none⟩)] (wd [(0, some (rdr s0))] 1 [] 0) fun e W' => match rdE s0 with
    | some (v, s') => e = .ret (.agg (encEdit v).toArray) ∧ W'.get 0 = some (rdr s')
    | none => e = .pan wrongV := by
  refine lit_local base5 Tryz.func37 rfl (Nat.le_of_ble_eq_true rfl) ?_
  simp only [frOfL.eq_1, frOfL.eq_2, wd_next, Tryz.ntmps37, Nat.reduceAdd]
  refine xwp_seq (xwp_region (e := ?e1) (s' := ?s1) base5 ?h1 ?q1)
  case h1 =>
    simp (disch := first | decide | omega | (simp only [List.length_cons, List.length_nil, List.length_append, length_bvs, List.length_take, List.length_drop]; omega)) only [go_sem, Nat.reduceAdd, Nat.reduceMul, Nat.reduceSub]
    all_goals with_reducible rfl
  case q1 =>
  cases h1 : rdI s0 with
  | none =>
    refine xwp_seq (xwp_region (e := ?e2) (s' := ?s2) base5 ?h2 ?q2)
    case h2 =>
      simp (disch := first | decide | omega | (simp only [List.length_cons, List.length_nil, List.length_append, length_bvs, List.length_take, List.length_drop]; omega)) only [T5, rdH_eq, rdO_eq, rmK.eq_1, rmK.eq_2, pTake_ok, pTake_no, hNeed.eq_1, hNeed.eq_2, pMany_eq, pCode_eq, pHash_eq, pDigits_eq, Option.map_some, Option.map_none, h1, go_sem, Nat.reduceAdd, Nat.reduceMul, Nat.reduceSub]
      all_goals with_reducible rfl
    case q2 =>
    refine ⟨_, ?e3, ?W3, rfl, ?h3, ?q3⟩
    case h3 =>
      simp (disch := first | decide | omega | (simp only [List.length_cons, List.length_nil, List.length_append, length_bvs, List.length_take, List.length_drop]; omega)) only [go_sem, Nat.reduceAdd, Nat.reduceMul, Nat.reduceSub]
      all_goals with_reducible rfl
    case q3 =>
    simp only [rdE, h1]
  | some q =>
  obtain ⟨a1, s1⟩ := q
  cases h2 : rdI s1 with
  | none =>
    refine xwp_seq (xwp_region (e := ?e4) (s' := ?s4) base5 ?h4 ?q4)
    case h4 =>
      simp (disch := first | decide | omega | (simp only [List.length_cons, List.length_nil, List.length_append, length_bvs, List.length_take, List.length_drop]; omega)) only [T5, rdH_eq, rdO_eq, rmK.eq_1, rmK.eq_2, pTake_ok, pTake_no, hNeed.eq_1, hNeed.eq_2, pMany_eq, pCode_eq, pHash_eq, pDigits_eq, Option.map_some, Option.map_none, h1, h2, go_sem, Nat.reduceAdd, Nat.reduceMul, Nat.reduceSub]
      all_goals with_reducible rfl
    case q4 =>
    refine ⟨_, ?e5, ?W5, rfl, ?h5, ?q5⟩
    case h5 =>
      simp (disch := first | decide | omega | (simp only [List.length_cons, List.length_nil, List.length_append, length_bvs, List.length_take, List.length_drop]; omega)) only [go_sem, Nat.reduceAdd, Nat.reduceMul, Nat.reduceSub]
      all_goals with_reducible rfl
    case q5 =>
    simp only [rdE, h1, h2]
  | some q =>
  obtain ⟨a2, s2⟩ := q
  cases h3 : rdI s2 with
  | none =>
    refine xwp_seq (xwp_region (e := ?e6) (s' := ?s6) base5 ?h6 ?q6)
    case h6 =>
      simp (disch := first | decide | omega | (simp only [List.length_cons, List.length_nil, List.length_append, length_bvs, List.length_take, List.length_drop]; omega)) only [T5, rdH_eq, rdO_eq, rmK.eq_1, rmK.eq_2, pTake_ok, pTake_no, hNeed.eq_1, hNeed.eq_2, pMany_eq, pCode_eq, pHash_eq, pDigits_eq, Option.map_some, Option.map_none, h1, h2, h3, go_sem, Nat.reduceAdd, Nat.reduceMul, Nat.reduceSub]
      all_goals with_reducible rfl
    case q6 =>
    refine ⟨_, ?e7, ?W7, rfl, ?h7, ?q7⟩
    case h7 =>
      simp (disch := first | decide | omega | (simp only [List.length_cons, List.length_nil, List.length_append, length_bvs, List.length_take, List.length_drop]; omega)) only [go_sem, Nat.reduceAdd, Nat.reduceMul, Nat.reduceSub]
      all_goals with_reducible rfl
    case q7 =>
    simp only [rdE, h1, h2, h3]
  | some q =>
  obtain ⟨a3, s3⟩ := q
  cases h4 : rdI s3 with
  | none =>
    refine xwp_seq (xwp_region (e := ?e8) (s' := ?s8) base5 ?h8 ?q8)
    case h8 =>
      simp (disch := first | decide | omega | (simp only [List.length_cons, List.length_nil, List.length_append, length_bvs, List.length_take, List.length_drop]; omega)) only [T5, rdH_eq, rdO_eq, rmK.eq_1, rmK.eq_2, pTake_ok, pTake_no, hNeed.eq_1, hNeed.eq_2, pMany_eq, pCode_eq, pHash_eq, pDigits_eq, Option.map_some, Option.map_none, h1, h2, h3, h4, go_sem, Nat.reduceAdd, Nat.reduceMul, Nat.reduceSub]
      all_goals with_reducible rfl
    case q8 =>
    refine ⟨_, ?e9, ?W9, rfl, ?h9, ?q9⟩
    case h9 =>
      simp (disch := first | decide | omega | (simp only [List.length_cons, List.length_nil, List.length_append, length_bvs, List.length_take, List.length_drop]; omega)) only [go_sem, Nat.reduceAdd, Nat.reduceMul, Nat.reduceSub]
      all_goals with_reducible rfl
    case q9 =>
    simp only [rdE, h1, h2, h3, h4]
  | some q =>
  obtain ⟨a4, s4⟩ := q
  cases h5 : rdI s4 with
  | none =>
    refine xwp_seq (xwp_region (e := ?e10) (s' := ?s10) base5 ?h10 ?q10)
    case h10 =>
      simp (disch := first | decide | omega | (simp only [List.length_cons, List.length_nil, List.length_append, length_bvs, List.length_take, List.length_drop]; omega)) only [T5, rdH_eq, rdO_eq, rmK.eq_1, rmK.eq_2, pTake_ok, pTake_no, hNeed.eq_1, hNeed.eq_2, pMany_eq, pCode_eq, pHash_eq, pDigits_eq, Option.map_some, Option.map_none, h1, h2, h3, h4, h5, go_sem, Nat.reduceAdd, Nat.reduceMul, Nat.reduceSub]
      all_goals with_reducible rfl
    case q10 =>
    refine ⟨_, ?e11, ?W11, rfl, ?h11, ?q11⟩
    case h11 =>
      simp (disch := first | decide | omega | (simp only [List.length_cons, List.length_nil, List.length_append, length_bvs, List.length_take, List.length_drop]; omega)) only [go_sem, Nat.reduceAdd, Nat.reduceMul, Nat.reduceSub]
      all_goals with_reducible rfl
    case q11 =>
    simp only [rdE, h1, h2, h3, h4, h5]
  | some q =>
  obtain ⟨a5, s5⟩ := q
  refine xwp_seq (xwp_region (e := ?e12) (s' := ?s12) base5 ?h12 ?q12)
  case h12 =>
    simp (disch := first | decide | omega | (simp only [List.length_cons, List.length_nil, List.length_append, length_bvs, List.length_take, List.length_drop]; omega)) only [T5, rdH_eq, rdO_eq, rmK.eq_1, rmK.eq_2, pTake_ok, pTake_no, hNeed.eq_1, hNeed.eq_2, pMany_eq, pCode_eq, pHash_eq, pDigits_eq, Option.map_some, Option.map_none, h1, h2, h3, h4, h5, go_sem, Nat.reduceAdd, Nat.reduceMul, Nat.reduceSub]
    all_goals with_reducible rfl
  case q12 =>
  refine xwp_seq ?_
  cases hMu : rdM 4000 s5 with
  | none =>
    refine xwp_seq (xwp_region (e := ?e13) (s' := ?s13) base5 ?h13 ?q13)
    case h13 =>
      simp (disch := first | decide | omega | (simp only [List.length_cons, List.length_nil, List.length_append, length_bvs, List.length_take, List.length_drop]; omega)) only [T5, rdH_eq, rdO_eq, rmK.eq_1, rmK.eq_2, pTake_ok, pTake_no, hNeed.eq_1, hNeed.eq_2, pMany_eq, pCode_eq, pHash_eq, pDigits_eq, Option.map_some, Option.map_none, hMu, go_sem, Nat.reduceAdd, Nat.reduceMul, Nat.reduceSub]
      all_goals with_reducible rfl
    case q13 =>
    refine ⟨_, ?e14, ?W14, rfl, ?h14, ?q14⟩
    case h14 =>
      simp (disch := first | decide | omega | (simp only [List.length_cons, List.length_nil, List.length_append, length_bvs, List.length_take, List.length_drop]; omega)) only [go_sem, Nat.reduceAdd, Nat.reduceMul, Nat.reduceSub]
      all_goals with_reducible rfl
    case q14 =>
    simp only [rdE, h1, h2, h3, h4, h5, hMu]
  | some q =>
  obtain ⟨n1, s6⟩ := q
  have hnu : n1 ≤ 4000 := rdM_le hMu
  refine xwp_seq (xwp_region (e := ?e15) (s' := ?s15) base5 ?h15 ?q15)
  case h15 =>
    simp (disch := first | decide | omega | (simp only [List.length_cons, List.length_nil, List.length_append, length_bvs, List.length_take, List.length_drop]; omega)) only [T5, rdH_eq, rdO_eq, rmK.eq_1, rmK.eq_2, pTake_ok, pTake_no, hNeed.eq_1, hNeed.eq_2, pMany_eq, pCode_eq, pHash_eq, pDigits_eq, Option.map_some, Option.map_none, hMu, go_sem, Nat.reduceAdd, Nat.reduceMul, Nat.reduceSub]
    all_goals with_reducible rfl
  case q15 =>
  refine xwp_block ?_
  refine xwp_le (chle_lit (F' := [(0, some (.pointer (some ⟨0, 0, none⟩))), (2, some (.pointer (some ⟨1, 0, none⟩))), (3, some (.pointer (some ⟨2, 0, none⟩))), (16, some (.int .i64 (n1 : Int))), (17, some (.int .i64 0))]) (L' := [(0, some (rdr s6)), (1, some (.cells [.int .i64 0, .int .i64 0, .int .i64 0, .int .i64 0, .int .i64 0, .slice none 0 0, .slice none 0 0] 64 (0, 0))), (2, some (.cells [.int .i64 a1, .int .i64 a2, .int .i64 a3, .int .i64 a4, .int .i64 a5, sv 3 [], .slice none 0 0] 64 (0, 0))), (3, rowO 70 [])]) (n' := 4) (lg' := []) (nl' := 0) (by simp (disch := decide) [AllLk, lk_hit, lk_miss, lk_nil]) (by simp (disch := decide) [AllLk, lk_hit, lk_miss, lk_nil, sv, rowO]) (by decide)) ?_
  refine xwp_loop (α := PrS n1 s6) (fun x => ⟨frm [(0, some (.pointer (some ⟨0, 0, none⟩))), (2, some (.pointer (some ⟨1, 0, none⟩))), (3, some (.pointer (some ⟨2, 0, none⟩))), (16, some (.int .i64 (n1 : Int))), (17, some (.int .i64 (x.i : Int)))], wd [(0, some (rdr x.s)), (1, some (.cells [.int .i64 0, .int .i64 0, .int .i64 0, .int .i64 0, .int .i64 0, .slice none 0 0, .slice none 0 0] 64 (0, 0))), (2, some (.cells [.int .i64 a1, .int .i64 a2, .int .i64 a3, .int .i64 a4, .int .i64 a5, sv 3 x.l, .slice none 0 0] 64 (0, 0))), (3, rowO 70 x.l)] 4 [] 0, []⟩) (fun x => n1 - x.i) ?_ ⟨0, [], s6, rfl, by omega, by simp⟩
  intro ⟨i, l7, s7, hi, hN, heq⟩
  simp only
  by_cases hlt : i < n1
  · refine xwp_seq (xwp_region (e := ?e16) (s' := ?s16) base5 ?h16 ?q16)
    case h16 =>
      simp (disch := first | decide | omega | (simp only [List.length_cons, List.length_nil, List.length_append, length_bvs, List.length_take, List.length_drop]; omega)) only [go_sem, Nat.reduceAdd, Nat.reduceMul, Nat.reduceSub]
      all_goals with_reducible rfl
    case q16 =>
    refine xwp_seq (xwp_ct ?h17 ?q17)
    case h17 =>
      simp (disch := first | decide | omega | (simp only [List.length_cons, List.length_nil, List.length_append, length_bvs, List.length_take, List.length_drop]; omega)) only [go_sem, Nat.reduceAdd, Nat.reduceMul, Nat.reduceSub]
      all_goals with_reducible rfl
    case q17 =>
    refine xwp_skip ?_
    cases hr1 : rdI s7 with
    | none =>
      refine xwp_seq (xwp_block (xwp_drawn_pan (pv := wrongV) (oj := ?gu3) (r := ?ru3) (rs := ?rsu3) (s' := ?su3) (W' := ?Wu3) (S := ⟨frm [], wd [] 20 [] 0, []⟩) base5 3 [false, false, false, true, false, true, true, true, true, true, true] (by kernel_rfl) ?hu3 ?ku3 ?ju3 ?iu3 ?ou3 ?nu3 (fun m o h => (wd_nil h).elim) ?lu3 (fun t => frm_nil) rfl ?qu3))
      case hu3 =>
        simp (disch := first | decide | omega | (simp only [List.length_cons, List.length_nil, List.length_append, length_bvs, List.length_take, List.length_drop]; omega)) only [traceX.eq_1, traceX.eq_2, trc1.eq_1, trcK.eq_1, trcK.eq_2, traceD_nil, traceD_t, traceD_f, holeK.eq_1, holeK.eq_2, T5, rdH_eq, rdO_eq, rmK.eq_1, rmK.eq_2, pTake_ok, pTake_no, hNeed.eq_1, hNeed.eq_2, pMany_eq, pCode_eq, pHash_eq, pDigits_eq, Option.map_some, Option.map_none, hr1, go_sem, Nat.reduceAdd, Nat.reduceMul, Nat.reduceSub]
        all_goals with_reducible rfl
      case ku3 => kernel_rfl
      case ju3 =>
        simp only [List.getElem?_toArray, List.getElem?_cons_succ, List.getElem?_cons_zero]
        all_goals with_reducible rfl
      case iu3 =>
        simp only [List.getElem?_cons_succ, List.getElem?_cons_zero]
        all_goals with_reducible rfl
      case ou3 =>
        simp (disch := first | decide | omega | (simp only [List.length_cons, List.length_nil, List.length_append, length_bvs, List.length_take, List.length_drop]; omega)) only [T5, rdH_eq, rdO_eq, rmK.eq_1, rmK.eq_2, pTake_ok, pTake_no, hNeed.eq_1, hNeed.eq_2, pMany_eq, pCode_eq, pHash_eq, pDigits_eq, Option.map_some, Option.map_none, hr1, go_sem, Nat.reduceAdd, Nat.reduceMul, Nat.reduceSub]
        all_goals with_reducible rfl
      case nu3 => rfl
      case lu3 => exact Nat.le_of_ble_eq_true rfl
      case qu3 =>
      refine ⟨_, ?e18, ?W18, rfl, ?h18, ?q18⟩
      case h18 =>
        simp (disch := first | decide | omega | (simp only [List.length_cons, List.length_nil, List.length_append, length_bvs, List.length_take, List.length_drop]; omega)) only [go_sem, Nat.reduceAdd, Nat.reduceMul, Nat.reduceSub]
        all_goals with_reducible rfl
      case q18 =>
      rw [show n1 - i = (n1 - (i + 1)) + 1 by omega, rdP_no1 hr1] at heq
      have hz : rdP n1 s6 = none := by rw [← heq]; rfl
      simp only [rdE, h1, h2, h3, h4, h5, hMu, hz]
    | some q =>
    obtain ⟨a, t1⟩ := q
    cases hr2 : rdI t1 with
    | none =>
      refine xwp_seq (xwp_block (xwp_drawn_pan (pv := wrongV) (oj := ?gu5) (r := ?ru5) (rs := ?rsu5) (s' := ?su5) (W' := ?Wu5) (S := ⟨frm [], wd [] 20 [] 0, []⟩) base5 5 [false, false, false, false, false, true, true, true, true, true, true] (by kernel_rfl) ?hu5 ?ku5 ?ju5 ?iu5 ?ou5 ?nu5 (fun m o h => (wd_nil h).elim) ?lu5 (fun t => frm_nil) rfl ?qu5))
      case hu5 =>
        simp (disch := first | decide | omega | (simp only [List.length_cons, List.length_nil, List.length_append, length_bvs, List.length_take, List.length_drop]; omega)) only [traceX.eq_1, traceX.eq_2, trc1.eq_1, trcK.eq_1, trcK.eq_2, traceD_nil, traceD_t, traceD_f, holeK.eq_1, holeK.eq_2, T5, rdH_eq, rdO_eq, rmK.eq_1, rmK.eq_2, pTake_ok, pTake_no, hNeed.eq_1, hNeed.eq_2, pMany_eq, pCode_eq, pHash_eq, pDigits_eq, Option.map_some, Option.map_none, hr1, hr2, go_sem, Nat.reduceAdd, Nat.reduceMul, Nat.reduceSub]
        all_goals with_reducible rfl
      case ku5 => kernel_rfl
      case ju5 =>
        simp only [List.getElem?_toArray, List.getElem?_cons_succ, List.getElem?_cons_zero]
        all_goals with_reducible rfl
      case iu5 =>
        simp only [List.getElem?_cons_succ, List.getElem?_cons_zero]
        all_goals with_reducible rfl
      case ou5 =>
        simp (disch := first | decide | omega | (simp only [List.length_cons, List.length_nil, List.length_append, length_bvs, List.length_take, List.length_drop]; omega)) only [T5, rdH_eq, rdO_eq, rmK.eq_1, rmK.eq_2, pTake_ok, pTake_no, hNeed.eq_1, hNeed.eq_2, pMany_eq, pCode_eq, pHash_eq, pDigits_eq, Option.map_some, Option.map_none, hr1, hr2, go_sem, Nat.reduceAdd, Nat.reduceMul, Nat.reduceSub]
        all_goals with_reducible rfl
      case nu5 => rfl
      case lu5 => exact Nat.le_of_ble_eq_true rfl
      case qu5 =>
      refine ⟨_, ?e19, ?W19, rfl, ?h19, ?q19⟩
      case h19 =>
        simp (disch := first | decide | omega | (simp only [List.length_cons, List.length_nil, List.length_append, length_bvs, List.length_take, List.length_drop]; omega)) only [go_sem, Nat.reduceAdd, Nat.reduceMul, Nat.reduceSub]
        all_goals with_reducible rfl
      case q19 =>
      rw [show n1 - i = (n1 - (i + 1)) + 1 by omega, rdP_no2 hr1 hr2] at heq
      have hz : rdP n1 s6 = none := by rw [← heq]; rfl
      simp only [rdE, h1, h2, h3, h4, h5, hMu, hz]
    | some q =>
    obtain ⟨b, t2⟩ := q
    refine xwp_bdrawn_to base5 ⟨frm [(0, some (.pointer (some ⟨0, 0, none⟩))), (2, some (.pointer (some ⟨1, 0, none⟩))), (3, some (.pointer (some ⟨2, 0, none⟩))), (16, some (.int .i64 (n1 : Int))), (17, some (.int .i64 (i : Int)))], wd [(0, some (rdr t2)), (1, some (.cells [.int .i64 0, .int .i64 0, .int .i64 0, .int .i64 0, .int .i64 0, .slice none 0 0, .slice none 0 0] 64 (0, 0))), (2, some (.cells [.int .i64 a1, .int .i64 a2, .int .i64 a3, .int .i64 a4, .int .i64 a5, .slice (some ⟨5, 0, none⟩) (l7.length + 1) openCap, .slice none 0 0] 64 (0, 0))), (5, some (.cells (rowV (l7 ++ [(a, b)])) 70 (0, 0)))] 6 [] 0, []⟩ ?hdu ?qdu
    case hdu =>
      rcases l7 with _ | ⟨p, l'⟩
      · have hlen := rowV_length []
        simp only [List.length_cons, List.length_nil] at hlen hi
        refine ⟨?rsux, ?sux, ?hux, ?kux, ?lux⟩
        case hux =>
          simp (disch := first | decide | omega | (simp only [List.length_cons, List.length_nil, List.length_append, length_bvs, List.length_take, List.length_drop]; omega)) only [traceX.eq_1, traceX.eq_2, trc1.eq_1, trcK.eq_1, trcK.eq_2, traceD_nil, traceD_t, traceD_f, holeK.eq_1, holeK.eq_2, T5, rdH_eq, rdO_eq, rmK.eq_1, rmK.eq_2, pTake_ok, pTake_no, hNeed.eq_1, hNeed.eq_2, pMany_eq, pCode_eq, pHash_eq, pDigits_eq, Option.map_some, Option.map_none, hr1, hr2, sv, rowO, List.length_cons, rowV_snoc, go_sem, Nat.reduceAdd, Nat.reduceMul, Nat.reduceSub]
          all_goals with_reducible rfl
        case kux => kernel_rfl
        case lux =>
          exact chle_lit (by simp (disch := decide) [AllLk, lk_hit, lk_miss, lk_nil]) (by simp (disch := decide) [AllLk, lk_hit, lk_miss, lk_nil, rowV_one]) (by decide)
      · have hlen := rowV_length (p :: l')
        simp only [List.length_cons, List.length_nil] at hlen hi
        refine ⟨?rsuy, ?suy, ?huy, ?kuy, ?luy⟩
        case huy =>
          simp (disch := first | decide | omega | (simp only [List.length_cons, List.length_nil, List.length_append, length_bvs, List.length_take, List.length_drop]; omega)) only [traceX.eq_1, traceX.eq_2, trc1.eq_1, trcK.eq_1, trcK.eq_2, traceD_nil, traceD_t, traceD_f, holeK.eq_1, holeK.eq_2, T5, rdH_eq, rdO_eq, rmK.eq_1, rmK.eq_2, pTake_ok, pTake_no, hNeed.eq_1, hNeed.eq_2, pMany_eq, pCode_eq, pHash_eq, pDigits_eq, Option.map_some, Option.map_none, hr1, hr2, sv, rowO, List.length_cons, rowV_snoc, go_sem, Nat.reduceAdd, Nat.reduceMul, Nat.reduceSub]
          all_goals with_reducible rfl
        case kuy => kernel_rfl
        case luy =>
          exact chle_lit (by simp (disch := decide) [AllLk, lk_hit, lk_miss, lk_nil]) (by simp (disch := decide) [AllLk, lk_hit, lk_miss, lk_nil, rowV_one]) (by decide)
    case qdu =>
    refine xwp_region (e := ?e20) (s' := ?s20) base5 ?h20 ?q20
    case h20 =>
      simp (disch := first | decide | omega | (simp only [List.length_cons, List.length_nil, List.length_append, length_bvs, List.length_take, List.length_drop]; omega)) only [go_sem, Nat.reduceAdd, Nat.reduceMul, Nat.reduceSub]
      all_goals with_reducible rfl
    case q20 =>
    refine ⟨⟨i + 1, l7 ++ [(a, b)], t2, by simp [hi], by omega, ?_⟩, by simp only; omega, ?_⟩
    · rw [← heq, show n1 - i = (n1 - (i + 1)) + 1 by omega, rdP_ok hr1 hr2, Option.map_map]
      congr 1
      funext q
      simp
    · simp only [sv_snoc, rowO_snoc]
      exact chle_ren_lit [(0, some 0), (1, some 1), (2, some 2), (5, some 3)] [(1, some 1), (2, some 2), (3, some 5)] (by decide) (by decide) (by decide)
        (allTv_cons (v := .pointer (some ⟨0, 0, none⟩)) (by decide) (by simp (disch := first | decide | omega) only [lk_hit, lk_miss]) (tv_ptr (by simp (disch := first | decide | omega) only [lk_hit, lk_miss])) (allTv_cons (v := .pointer (some ⟨1, 0, none⟩)) (by decide) (by simp (disch := first | decide | omega) only [lk_hit, lk_miss]) (tv_ptr (by simp (disch := first | decide | omega) only [lk_hit, lk_miss])) (allTv_cons (v := .pointer (some ⟨2, 0, none⟩)) (by decide) (by simp (disch := first | decide | omega) only [lk_hit, lk_miss]) (tv_ptr (by simp (disch := first | decide | omega) only [lk_hit, lk_miss]))
          (allTv_cons (v := .int .i64 (n1 : Int)) (by decide) (by simp (disch := first | decide | omega) only [lk_hit, lk_miss]) (tv_flat 1 rfl) (allTv_cons (v := .int .i64 ((i + 1 : Nat) : Int)) (by decide) (by simp (disch := first | decide | omega) only [lk_hit, lk_miss]) (tv_flat 1 rfl) allTv_nil)))))
        (allTo_cons (o := rdr t2) 0 (by simp (disch := first | decide | omega) only [lk_hit, lk_miss]) (by decide) (by decide) (by simp (disch := first | decide | omega) only [lk_hit, lk_miss]) (to_bareO names_fz bareO_rdr)
          (allTo_cons (o := .cells [.int .i64 0, .int .i64 0, .int .i64 0, .int .i64 0, .int .i64 0, .slice none 0 0, .slice none 0 0] 64 (0, 0)) 1 (by simp (disch := first | decide | omega) only [lk_hit, lk_miss]) (by decide) (by decide) (by simp (disch := first | decide | omega) only [lk_hit, lk_miss]) (to_bareO names_fz bareO_zeroE)
          (allTo_cons (o := .cells [.int .i64 a1, .int .i64 a2, .int .i64 a3, .int .i64 a4, .int .i64 a5, .slice (some ⟨5, 0, none⟩) (l7.length + 1) openCap, .slice none 0 0] 64 (0, 0)) 2 (by simp (disch := first | decide | omega) only [lk_hit, lk_miss]) (by decide) (by decide) (by simp (disch := first | decide | omega) only [lk_hit, lk_miss])
            (to_tvs (tvs_cons (tv_flat 1 rfl) (tvs_cons (tv_flat 1 rfl) (tvs_cons (tv_flat 1 rfl) (tvs_cons (tv_flat 1 rfl) (tvs_cons (tv_flat 1 rfl) (tvs_cons (tv_slice (by simp (disch := first | decide | omega) only [lk_hit, lk_miss])) (tvs_cons (tv_flat 1 rfl) tvs_nil))))))))
          (allTo_cons (o := .cells (rowV (l7 ++ [(a, b)])) 70 (0, 0)) 5 (by simp (disch := first | decide | omega) only [lk_hit, lk_miss]) (by decide) (by decide) (by simp (disch := first | decide | omega) only [lk_hit, lk_miss]) (to_bareO names_fz (bareO_bares (bares_rowV _))) allTo_nil)))) .nil
  · refine xwp_seq (xwp_region (e := ?e21) (s' := ?s21) base5 ?h21 ?q21)
    case h21 =>
      simp (disch := first | decide | omega | (simp only [List.length_cons, List.length_nil, List.length_append, length_bvs, List.length_take, List.length_drop]; omega)) only [go_sem, Nat.reduceAdd, Nat.reduceMul, Nat.reduceSub]
      all_goals with_reducible rfl
    case q21 =>
    refine xwp_seq (xwp_cf ?h22 ?q22)
    case h22 =>
      simp (disch := first | decide | omega | (simp only [List.length_cons, List.length_nil, List.length_append, length_bvs, List.length_take, List.length_drop]; omega)) only [go_sem, Nat.reduceAdd, Nat.reduceMul, Nat.reduceSub]
      all_goals with_reducible rfl
    case q22 =>
    refine xwp_exit ?_
    have hin : n1 - i = 0 := by omega
    rw [hin] at heq
    have hfinu : rdP n1 s6 = some (l7, s7) := by rw [← heq]; simp [rdP]
    clear heq
    show XWp _ _ _ _ _ _
    refine xwp_le (ChLe.trans (chle_lit (F' := [(0, some (.pointer (some ⟨0, 0, none⟩))), (2, some (.pointer (some ⟨1, 0, none⟩))), (3, some (.pointer (some ⟨2, 0, none⟩)))]) (L' := [(0, some (rdr s7)), (1, some (.cells [.int .i64 0, .int .i64 0, .int .i64 0, .int .i64 0, .int .i64 0, .slice none 0 0, .slice none 0 0] 64 (0, 0))), (2, some (.cells [.int .i64 a1, .int .i64 a2, .int .i64 a3, .int .i64 a4, .int .i64 a5, sv 3 l7, .slice none 0 0] 64 (0, 0))), (3, rowO 70 l7)]) (n' := 4) (lg' := []) (nl' := 0) (by simp (disch := decide) [AllLk, lk_hit, lk_miss, lk_nil]) ?hau (by decide)) (freeze_std (i := 5) rfl (by show l7.length ≤ 4611686018427387904; omega))) ?_
    case hau => cases l7 <;> simp (disch := decide) [AllLk, lk_hit, lk_miss, lk_nil, sv, rowO]
    simp only [List.set_cons_succ, List.set_cons_zero]
    refine xwp_seq ?_
    cases hMw : rdM 4000 s7 with
    | none =>
      refine xwp_seq (xwp_region (e := ?e23) (s' := ?s23) base5 ?h23 ?q23)
      case h23 =>
        simp (disch := first | decide | omega | (simp only [List.length_cons, List.length_nil, List.length_append, length_bvs, List.length_take, List.length_drop]; omega)) only [T5, rdH_eq, rdO_eq, rmK.eq_1, rmK.eq_2, pTake_ok, pTake_no, hNeed.eq_1, hNeed.eq_2, pMany_eq, pCode_eq, pHash_eq, pDigits_eq, Option.map_some, Option.map_none, hMw, go_sem, Nat.reduceAdd, Nat.reduceMul, Nat.reduceSub]
        all_goals with_reducible rfl
      case q23 =>
      refine ⟨_, ?e24, ?W24, rfl, ?h24, ?q24⟩
      case h24 =>
        simp (disch := first | decide | omega | (simp only [List.length_cons, List.length_nil, List.length_append, length_bvs, List.length_take, List.length_drop]; omega)) only [go_sem, Nat.reduceAdd, Nat.reduceMul, Nat.reduceSub]
        all_goals with_reducible rfl
      case q24 =>
      simp only [rdE, h1, h2, h3, h4, h5, hMu, hfinu, hMw]
    | some q =>
    obtain ⟨n2, s8⟩ := q
    have hnw : n2 ≤ 4000 := rdM_le hMw
    refine xwp_seq (xwp_region (e := ?e25) (s' := ?s25) base5 ?h25 ?q25)
    case h25 =>
      simp (disch := first | decide | omega | (simp only [List.length_cons, List.length_nil, List.length_append, length_bvs, List.length_take, List.length_drop]; omega)) only [T5, rdH_eq, rdO_eq, rmK.eq_1, rmK.eq_2, pTake_ok, pTake_no, hNeed.eq_1, hNeed.eq_2, pMany_eq, pCode_eq, pHash_eq, pDigits_eq, Option.map_some, Option.map_none, hMw, go_sem, Nat.reduceAdd, Nat.reduceMul, Nat.reduceSub]
      all_goals with_reducible rfl
    case q25 =>
    refine xwp_block ?_
    refine xwp_le (chle_lit (F' := [(0, some (.pointer (some ⟨0, 0, none⟩))), (2, some (.pointer (some ⟨1, 0, none⟩))), (3, some (.pointer (some ⟨2, 0, none⟩))), (31, some (.int .i64 (n2 : Int))), (32, some (.int .i64 0))]) (L' := [(0, some (rdr s8)), (1, some (.cells [.int .i64 0, .int .i64 0, .int .i64 0, .int .i64 0, .int .i64 0, .slice none 0 0, .slice none 0 0] 64 (0, 0))), (2, some (.cells [.int .i64 a1, .int .i64 a2, .int .i64 a3, .int .i64 a4, .int .i64 a5, slV l7, sv 3 []] 64 (0, 0))), (3, rowO 71 [])]) (n' := 4) (lg' := []) (nl' := 0) (by simp (disch := decide) [AllLk, lk_hit, lk_miss, lk_nil]) (by simp (disch := decide) [AllLk, lk_hit, lk_miss, lk_nil, sv, rowO]) (by decide)) ?_
    refine xwp_loop (α := PrS n2 s8) (fun x => ⟨frm [(0, some (.pointer (some ⟨0, 0, none⟩))), (2, some (.pointer (some ⟨1, 0, none⟩))), (3, some (.pointer (some ⟨2, 0, none⟩))), (31, some (.int .i64 (n2 : Int))), (32, some (.int .i64 (x.i : Int)))], wd [(0, some (rdr x.s)), (1, some (.cells [.int .i64 0, .int .i64 0, .int .i64 0, .int .i64 0, .int .i64 0, .slice none 0 0, .slice none 0 0] 64 (0, 0))), (2, some (.cells [.int .i64 a1, .int .i64 a2, .int .i64 a3, .int .i64 a4, .int .i64 a5, slV l7, sv 3 x.l] 64 (0, 0))), (3, rowO 71 x.l)] 4 [] 0, []⟩) (fun x => n2 - x.i) ?_ ⟨0, [], s8, rfl, by omega, by simp⟩
    intro ⟨i, l9, s9, hi, hN, heq⟩
    simp only
    by_cases hlt : i < n2
    · refine xwp_seq (xwp_region (e := ?e26) (s' := ?s26) base5 ?h26 ?q26)
      case h26 =>
        simp (disch := first | decide | omega | (simp only [List.length_cons, List.length_nil, List.length_append, length_bvs, List.length_take, List.length_drop]; omega)) only [go_sem, Nat.reduceAdd, Nat.reduceMul, Nat.reduceSub]
        all_goals with_reducible rfl
      case q26 =>
      refine xwp_seq (xwp_ct ?h27 ?q27)
      case h27 =>
        simp (disch := first | decide | omega | (simp only [List.length_cons, List.length_nil, List.length_append, length_bvs, List.length_take, List.length_drop]; omega)) only [go_sem, Nat.reduceAdd, Nat.reduceMul, Nat.reduceSub]
        all_goals with_reducible rfl
      case q27 =>
      refine xwp_skip ?_
      cases hr1 : rdI s9 with
      | none =>
        refine xwp_seq (xwp_block (xwp_drawn_pan (pv := wrongV) (oj := ?gw3) (r := ?rw3) (rs := ?rsw3) (s' := ?sw3) (W' := ?Ww3) (S := ⟨frm [], wd [] 20 [] 0, []⟩) base5 3 [false, false, false, true, false, true, true, true, true, true, true] (by kernel_rfl) ?hw3 ?kw3 ?jw3 ?iw3 ?ow3 ?nw3 (fun m o h => (wd_nil h).elim) ?lw3 (fun t => frm_nil) rfl ?qw3))
        case hw3 =>
          simp (disch := first | decide | omega | (simp only [List.length_cons, List.length_nil, List.length_append, length_bvs, List.length_take, List.length_drop]; omega)) only [traceX.eq_1, traceX.eq_2, trc1.eq_1, trcK.eq_1, trcK.eq_2, traceD_nil, traceD_t, traceD_f, holeK.eq_1, holeK.eq_2, T5, rdH_eq, rdO_eq, rmK.eq_1, rmK.eq_2, pTake_ok, pTake_no, hNeed.eq_1, hNeed.eq_2, pMany_eq, pCode_eq, pHash_eq, pDigits_eq, Option.map_some, Option.map_none, hr1, go_sem, Nat.reduceAdd, Nat.reduceMul, Nat.reduceSub]
          all_goals with_reducible rfl
        case kw3 => kernel_rfl
        case jw3 =>
          simp only [List.getElem?_toArray, List.getElem?_cons_succ, List.getElem?_cons_zero]
          all_goals with_reducible rfl
        case iw3 =>
          simp only [List.getElem?_cons_succ, List.getElem?_cons_zero]
          all_goals with_reducible rfl
        case ow3 =>
          simp (disch := first | decide | omega | (simp only [List.length_cons, List.length_nil, List.length_append, length_bvs, List.length_take, List.length_drop]; omega)) only [T5, rdH_eq, rdO_eq, rmK.eq_1, rmK.eq_2, pTake_ok, pTake_no, hNeed.eq_1, hNeed.eq_2, pMany_eq, pCode_eq, pHash_eq, pDigits_eq, Option.map_some, Option.map_none, hr1, go_sem, Nat.reduceAdd, Nat.reduceMul, Nat.reduceSub]
          all_goals with_reducible rfl
        case nw3 => rfl
        case lw3 => exact Nat.le_of_ble_eq_true rfl
        case qw3 =>
        refine ⟨_, ?e28, ?W28, rfl, ?h28, ?q28⟩
        case h28 =>
          simp (disch := first | decide | omega | (simp only [List.length_cons, List.length_nil, List.length_append, length_bvs, List.length_take, List.length_drop]; omega)) only [go_sem, Nat.reduceAdd, Nat.reduceMul, Nat.reduceSub]
          all_goals with_reducible rfl
        case q28 =>
        rw [show n2 - i = (n2 - (i + 1)) + 1 by omega, rdP_no1 hr1] at heq
        have hz : rdP n2 s8 = none := by rw [← heq]; rfl
        simp only [rdE, h1, h2, h3, h4, h5, hMu, hfinu, hMw, hz]
      | some q =>
      obtain ⟨a, t1⟩ := q
      cases hr2 : rdI t1 with
      | none =>
        refine xwp_seq (xwp_block (xwp_drawn_pan (pv := wrongV) (oj := ?gw5) (r := ?rw5) (rs := ?rsw5) (s' := ?sw5) (W' := ?Ww5) (S := ⟨frm [], wd [] 20 [] 0, []⟩) base5 5 [false, false, false, false, false, true, true, true, true, true, true] (by kernel_rfl) ?hw5 ?kw5 ?jw5 ?iw5 ?ow5 ?nw5 (fun m o h => (wd_nil h).elim) ?lw5 (fun t => frm_nil) rfl ?qw5))
        case hw5 =>
          simp (disch := first | decide | omega | (simp only [List.length_cons, List.length_nil, List.length_append, length_bvs, List.length_take, List.length_drop]; omega)) only [traceX.eq_1, traceX.eq_2, trc1.eq_1, trcK.eq_1, trcK.eq_2, traceD_nil, traceD_t, traceD_f, holeK.eq_1, holeK.eq_2, T5, rdH_eq, rdO_eq, rmK.eq_1, rmK.eq_2, pTake_ok, pTake_no, hNeed.eq_1, hNeed.eq_2, pMany_eq, pCode_eq, pHash_eq, pDigits_eq, Option.map_some, Option.map_none, hr1, hr2, go_sem, Nat.reduceAdd, Nat.reduceMul, Nat.reduceSub]
          all_goals with_reducible rfl
        case kw5 => kernel_rfl
        case jw5 =>
          simp only [List.getElem?_toArray, List.getElem?_cons_succ, List.getElem?_cons_zero]
          all_goals with_reducible rfl
        case iw5 =>
          simp only [List.getElem?_cons_succ, List.getElem?_cons_zero]
          all_goals with_reducible rfl
        case ow5 =>
          simp (disch := first | decide | omega | (simp only [List.length_cons, List.length_nil, List.length_append, length_bvs, List.length_take, List.length_drop]; omega)) only [T5, rdH_eq, rdO_eq, rmK.eq_1, rmK.eq_2, pTake_ok, pTake_no, hNeed.eq_1, hNeed.eq_2, pMany_eq, pCode_eq, pHash_eq, pDigits_eq, Option.map_some, Option.map_none, hr1, hr2, go_sem, Nat.reduceAdd, Nat.reduceMul, Nat.reduceSub]
          all_goals with_reducible rfl
        case nw5 => rfl
        case lw5 => exact Nat.le_of_ble_eq_true rfl
        case qw5 =>
        refine ⟨_, ?e29, ?W29, rfl, ?h29, ?q29⟩
        case h29 =>
          simp (disch := first | decide | omega | (simp only [List.length_cons, List.length_nil, List.length_append, length_bvs, List.length_take, List.length_drop]; omega)) only [go_sem, Nat.reduceAdd, Nat.reduceMul, Nat.reduceSub]
          all_goals with_reducible rfl
        case q29 =>
        rw [show n2 - i = (n2 - (i + 1)) + 1 by omega, rdP_no2 hr1 hr2] at heq
        have hz : rdP n2 s8 = none := by rw [← heq]; rfl
        simp only [rdE, h1, h2, h3, h4, h5, hMu, hfinu, hMw, hz]
      | some q =>
      obtain ⟨b, t2⟩ := q
      refine xwp_bdrawn_to base5 ⟨frm [(0, some (.pointer (some ⟨0, 0, none⟩))), (2, some (.pointer (some ⟨1, 0, none⟩))), (3, some (.pointer (some ⟨2, 0, none⟩))), (31, some (.int .i64 (n2 : Int))), (32, some (.int .i64 (i : Int)))], wd [(0, some (rdr t2)), (1, some (.cells [.int .i64 0, .int .i64 0, .int .i64 0, .int .i64 0, .int .i64 0, .slice none 0 0, .slice none 0 0] 64 (0, 0))), (2, some (.cells [.int .i64 a1, .int .i64 a2, .int .i64 a3, .int .i64 a4, .int .i64 a5, slV l7, .slice (some ⟨5, 0, none⟩) (l9.length + 1) openCap] 64 (0, 0))), (5, some (.cells (rowV (l9 ++ [(a, b)])) 71 (0, 0)))] 6 [] 0, []⟩ ?hdw ?qdw
      case hdw =>
        rcases l9 with _ | ⟨p, l'⟩
        · have hlen := rowV_length []
          simp only [List.length_cons, List.length_nil] at hlen hi
          refine ⟨?rswx, ?swx, ?hwx, ?kwx, ?lwx⟩
          case hwx =>
            simp (disch := first | decide | omega | (simp only [List.length_cons, List.length_nil, List.length_append, length_bvs, List.length_take, List.length_drop]; omega)) only [traceX.eq_1, traceX.eq_2, trc1.eq_1, trcK.eq_1, trcK.eq_2, traceD_nil, traceD_t, traceD_f, holeK.eq_1, holeK.eq_2, T5, rdH_eq, rdO_eq, rmK.eq_1, rmK.eq_2, pTake_ok, pTake_no, hNeed.eq_1, hNeed.eq_2, pMany_eq, pCode_eq, pHash_eq, pDigits_eq, Option.map_some, Option.map_none, hr1, hr2, sv, rowO, List.length_cons, rowV_snoc, go_sem, Nat.reduceAdd, Nat.reduceMul, Nat.reduceSub]
            all_goals with_reducible rfl
          case kwx => kernel_rfl
          case lwx =>
            exact chle_lit (by simp (disch := decide) [AllLk, lk_hit, lk_miss, lk_nil]) (by simp (disch := decide) [AllLk, lk_hit, lk_miss, lk_nil, rowV_one]) (by decide)
        · have hlen := rowV_length (p :: l')
          simp only [List.length_cons, List.length_nil] at hlen hi
          refine ⟨?rswy, ?swy, ?hwy, ?kwy, ?lwy⟩
          case hwy =>
            simp (disch := first | decide | omega | (simp only [List.length_cons, List.length_nil, List.length_append, length_bvs, List.length_take, List.length_drop]; omega)) only [traceX.eq_1, traceX.eq_2, trc1.eq_1, trcK.eq_1, trcK.eq_2, traceD_nil, traceD_t, traceD_f, holeK.eq_1, holeK.eq_2, T5, rdH_eq, rdO_eq, rmK.eq_1, rmK.eq_2, pTake_ok, pTake_no, hNeed.eq_1, hNeed.eq_2, pMany_eq, pCode_eq, pHash_eq, pDigits_eq, Option.map_some, Option.map_none, hr1, hr2, sv, rowO, List.length_cons, rowV_snoc, go_sem, Nat.reduceAdd, Nat.reduceMul, Nat.reduceSub]
            all_goals with_reducible rfl
          case kwy => kernel_rfl
          case lwy =>
            exact chle_lit (by simp (disch := decide) [AllLk, lk_hit, lk_miss, lk_nil]) (by simp (disch := decide) [AllLk, lk_hit, lk_miss, lk_nil, rowV_one]) (by decide)
      case qdw =>
      refine xwp_region (e := ?e30) (s' := ?s30) base5 ?h30 ?q30
      case h30 =>
        simp (disch := first | decide | omega | (simp only [List.length_cons, List.length_nil, List.length_append, length_bvs, List.length_take, List.length_drop]; omega)) only [go_sem, Nat.reduceAdd, Nat.reduceMul, Nat.reduceSub]
        all_goals with_reducible rfl
      case q30 =>
      refine ⟨⟨i + 1, l9 ++ [(a, b)], t2, by simp [hi], by omega, ?_⟩, by simp only; omega, ?_⟩
      · rw [← heq, show n2 - i = (n2 - (i + 1)) + 1 by omega, rdP_ok hr1 hr2, Option.map_map]
        congr 1
        funext q
        simp
      · simp only [sv_snoc, rowO_snoc]
        exact chle_ren_lit [(0, some 0), (1, some 1), (2, some 2), (5, some 3)] [(1, some 1), (2, some 2), (3, some 5)] (by decide) (by decide) (by decide)
          (allTv_cons (v := .pointer (some ⟨0, 0, none⟩)) (by decide) (by simp (disch := first | decide | omega) only [lk_hit, lk_miss]) (tv_ptr (by simp (disch := first | decide | omega) only [lk_hit, lk_miss])) (allTv_cons (v := .pointer (some ⟨1, 0, none⟩)) (by decide) (by simp (disch := first | decide | omega) only [lk_hit, lk_miss]) (tv_ptr (by simp (disch := first | decide | omega) only [lk_hit, lk_miss])) (allTv_cons (v := .pointer (some ⟨2, 0, none⟩)) (by decide) (by simp (disch := first | decide | omega) only [lk_hit, lk_miss]) (tv_ptr (by simp (disch := first | decide | omega) only [lk_hit, lk_miss]))
            (allTv_cons (v := .int .i64 (n2 : Int)) (by decide) (by simp (disch := first | decide | omega) only [lk_hit, lk_miss]) (tv_flat 1 rfl) (allTv_cons (v := .int .i64 ((i + 1 : Nat) : Int)) (by decide) (by simp (disch := first | decide | omega) only [lk_hit, lk_miss]) (tv_flat 1 rfl) allTv_nil)))))
          (allTo_cons (o := rdr t2) 0 (by simp (disch := first | decide | omega) only [lk_hit, lk_miss]) (by decide) (by decide) (by simp (disch := first | decide | omega) only [lk_hit, lk_miss]) (to_bareO names_fz bareO_rdr)
            (allTo_cons (o := .cells [.int .i64 0, .int .i64 0, .int .i64 0, .int .i64 0, .int .i64 0, .slice none 0 0, .slice none 0 0] 64 (0, 0)) 1 (by simp (disch := first | decide | omega) only [lk_hit, lk_miss]) (by decide) (by decide) (by simp (disch := first | decide | omega) only [lk_hit, lk_miss]) (to_bareO names_fz bareO_zeroE)
            (allTo_cons (o := .cells [.int .i64 a1, .int .i64 a2, .int .i64 a3, .int .i64 a4, .int .i64 a5, slV l7, .slice (some ⟨5, 0, none⟩) (l9.length + 1) openCap] 64 (0, 0)) 2 (by simp (disch := first | decide | omega) only [lk_hit, lk_miss]) (by decide) (by decide) (by simp (disch := first | decide | omega) only [lk_hit, lk_miss])
              (to_tvs (tvs_cons (tv_flat 1 rfl) (tvs_cons (tv_flat 1 rfl) (tvs_cons (tv_flat 1 rfl) (tvs_cons (tv_flat 1 rfl) (tvs_cons (tv_flat 1 rfl) (tvs_cons (bare_slV _ _ names_fz) (tvs_cons (tv_slice (by simp (disch := first | decide | omega) only [lk_hit, lk_miss])) tvs_nil))))))))
            (allTo_cons (o := .cells (rowV (l9 ++ [(a, b)])) 71 (0, 0)) 5 (by simp (disch := first | decide | omega) only [lk_hit, lk_miss]) (by decide) (by decide) (by simp (disch := first | decide | omega) only [lk_hit, lk_miss]) (to_bareO names_fz (bareO_bares (bares_rowV _))) allTo_nil)))) .nil
    · refine xwp_seq (xwp_region (e := ?e31) (s' := ?s31) base5 ?h31 ?q31)
      case h31 =>
        simp (disch := first | decide | omega | (simp only [List.length_cons, List.length_nil, List.length_append, length_bvs, List.length_take, List.length_drop]; omega)) only [go_sem, Nat.reduceAdd, Nat.reduceMul, Nat.reduceSub]
        all_goals with_reducible rfl
      case q31 =>
      refine xwp_seq (xwp_cf ?h32 ?q32)
      case h32 =>
        simp (disch := first | decide | omega | (simp only [List.length_cons, List.length_nil, List.length_append, length_bvs, List.length_take, List.length_drop]; omega)) only [go_sem, Nat.reduceAdd, Nat.reduceMul, Nat.reduceSub]
        all_goals with_reducible rfl
      case q32 =>
      refine xwp_exit ?_
      have hin : n2 - i = 0 := by omega
      rw [hin] at heq
      have hfinw : rdP n2 s8 = some (l9, s9) := by rw [← heq]; simp [rdP]
      clear heq
      show XWp _ _ _ _ _ _
      refine xwp_le (ChLe.trans (chle_lit (F' := [(0, some (.pointer (some ⟨0, 0, none⟩))), (2, some (.pointer (some ⟨1, 0, none⟩))), (3, some (.pointer (some ⟨2, 0, none⟩)))]) (L' := [(0, some (rdr s9)), (1, some (.cells [.int .i64 0, .int .i64 0, .int .i64 0, .int .i64 0, .int .i64 0, .slice none 0 0, .slice none 0 0] 64 (0, 0))), (2, some (.cells [.int .i64 a1, .int .i64 a2, .int .i64 a3, .int .i64 a4, .int .i64 a5, slV l7, sv 3 l9] 64 (0, 0))), (3, rowO 71 l9)]) (n' := 4) (lg' := []) (nl' := 0) (by simp (disch := decide) [AllLk, lk_hit, lk_miss, lk_nil]) ?haw (by decide)) (freeze_std (i := 6) rfl (by show l9.length ≤ 4611686018427387904; omega))) ?_
      case haw => cases l9 <;> simp (disch := decide) [AllLk, lk_hit, lk_miss, lk_nil, sv, rowO]
      simp only [List.set_cons_succ, List.set_cons_zero]
      refine xwp_seq (xwp_region (e := ?e33) (s' := ?s33) base5 ?h33 ?q33)
      case h33 =>
        simp (disch := first | decide | omega | (simp only [List.length_cons, List.length_nil, List.length_append, length_bvs, List.length_take, List.length_drop]; omega)) only [one_slV, go_sem, Nat.reduceAdd, Nat.reduceMul, Nat.reduceSub]
        all_goals with_reducible rfl
      case q33 =>
      refine xwp_ret ?_
      refine ⟨_, ?e34, ?W34, rfl, ?h34, ?q34⟩
      case h34 =>
        simp (disch := first | decide | omega | (simp only [List.length_cons, List.length_nil, List.length_append, length_bvs, List.length_take, List.length_drop]; omega)) only [Tryz.results37, go_sem, Nat.reduceAdd, Nat.reduceMul, Nat.reduceSub]
        all_goals with_reducible rfl
      case q34 =>
      simp only [rdE, h1, h2, h3, h4, h5, hMu, hfinu, hMw, hfinw]
      exact ⟨rfl, by simp (disch := first | decide | omega | (simp only [List.length_cons, List.length_nil, List.length_append, length_bvs, List.length_take, List.length_drop]; omega)) only [go_sem, Nat.reduceAdd, Nat.reduceMul, Nat.reduceSub]⟩
def pEdit (xs : List Value) (s : List UInt8) : Option (Option (Value × List UInt8)) := match xs with
  | [] => some ((rdE s).map fun q => (.agg (encEdit q.1).toArray, q.2))
  | _ => none
theorem pEdit_eq {s : List UInt8} : pEdit [] s = some ((rdE s).map fun q => (.agg (encEdit q.1).toArray, q.2)) := rfl
theorem bares_encEdit (e : EditL) : Bares (encEdit e) := bares_cons (bare_flat 1 rfl) (bares_cons (bare_flat 1 rfl) (bares_cons (bare_flat 1 rfl) (bares_cons (bare_flat 1 rfl) (bares_cons (bare_flat 1 rfl) (bares_cons (bare_slV _) (bares_cons (bare_slV _) bares_nil))))))
theorem okEdit : HookOk Tryz.prog 37 (rdH pEdit) := rdH_ok (enters_of (by kernel_rfl)) (fun xs s x h => by
    unfold pEdit at h
    split at h
    · cases h
      refine ⟨bares_nil, fun v s' h => ?_⟩
      cases hr : rdE s with
      | none => rw [hr] at h; cases h
      | some q => rw [hr] at h; cases h; exact bare_agg (bares_encEdit _)
    · cases h) (fun xs s x h => by
    unfold pEdit at h
    split at h
    · cases h
      refine fun ρ args' w m h1 h2 h3 => CallsIn.mono (editLocal s ρ args' w m h1 h2 h3) fun en w' ⟨e, W', hS, hq⟩ => ⟨e, W', ?_, hq⟩
      cases hr : rdE s with
      | none => rw [hr] at hS; exact hS
      | some q => rw [hr] at hS; exact hS
    · cases h)
end Go.Proofs.YthlkgmdkabelpaaGreatDoor.X
namespace Go.Proofs.YthlkgmdkabelpaaGreatDoor.X
open Go Go.RowKit
def zt : List Value := bvs (List.replicate 32 0) ++ [.string (str [])]
theorem zt_len : zt.length = 33 := by kernel_rfl
def zeroCm : Value := .agg (.slice none 0 0 :: .slice none 0 0 :: zt).toArray
theorem zeroCm_eq : zeroOf Tryz.prog 34 = some zeroCm := by kernel_rfl
theorem ev_c51 {fr : XF} {k : IntKind} : ev fr (.const (.int k 51)) = some (.int k ((51 : Nat) : Int)) := rfl
section
variable {P : Program} {H : Hooks} {n : Nat}
theorem xr1 : xrun P H 1 = stepX P H (xrun P H 0) := rfl
theorem xr2 : xrun P H 2 = stepX P H (xrun P H 1) := rfl
theorem xr3 : xrun P H 3 = stepX P H (xrun P H 2) := rfl
theorem xr4 : xrun P H 4 = stepX P H (xrun P H 3) := rfl
theorem xr5 : xrun P H 5 = stepX P H (xrun P H 4) := rfl
theorem xr6 : xrun P H 6 = stepX P H (xrun P H 5) := rfl
theorem xr7 : xrun P H 7 = stepX P H (xrun P H 6) := rfl
theorem xr8 : xrun P H 8 = stepX P H (xrun P H 7) := rfl
theorem xr9 : xrun P H 9 = stepX P H (xrun P H 8) := rfl
end
theorem emptyT {α : Type} : (#[] : Array α).isEmpty = true := rfl
theorem noneT {α : Type} : (none : Option α).isNone = true := rfl
theorem emptyL {α : Type} : ([] : List α).isEmpty = true := rfl
theorem getD_some {α : Type} {a b : α} : (some a).getD b = a := rfl
theorem getD_none {α : Type} {b : α} : (none : Option α).getD b = b := rfl
theorem nameN : ("cocycle/commit.Decode$1" == "runtime.NumGoroutine") = false := by kernel_rfl
theorem bin_nilN : binX Tryz.prog .neq 20 (.tmp 6) (.const .nilIface) (some (.iface 92 (.agg #[]))) (some .nilIface) = some (.val (some (.bool true))) := by kernel_rfl
theorem asr_struct {P : Program} {t u : TypeId} {ok : Bool} {v : Value} {fs} : asrX P t ok (some (.iface u v)) (some (.struct fs)) = bif Nat.beq u t then val (okV ok v true) else asr1 ok (zeroOf P t) := rfl
theorem okV_t {v : Value} : okV true v true = .tuple #[v, .bool true] := rfl
theorem dRun34 {L : List (Nat × Option XObj)} {n nl : Nat} {lg : List Nat} {c d : List Value} (h0 : lk L 0 = some (.cells c 34 (0, 0))) (h1 : lk L 1 = some (.cells d 37 (0, 0))) (hc : c.length = 35) (hd : d.length = 1) (h2 : 2 ≤ n) (h3 : n < 16000) :
    ∃ L' n' lg' nl', dRun Tryz.prog (xrun Tryz.prog (hooksOf [] []) 9) 34 [.pointer (some ⟨0, 0, none⟩), .pointer (some ⟨1, 0, none⟩)] (some wrongV) (wd L n lg nl) = some (none, wd L' n' lg' nl') ∧
      2 ≤ n' ∧ lk L' 0 = some (.cells (.slice none 0 0 :: .slice none 0 0 :: zt) 34 (0, 0)) ∧ lk L' 1 = some (.cells [.int .i64 11] 37 (0, 0)) := by
  refine ⟨?L, ?n, ?lg, ?nl, ?h, ?k⟩
  case h =>
    simp (disch := first | decide | omega | (simp only [List.length_cons, List.length_nil, List.length_append, length_bvs, List.length_take, List.length_drop]; omega)) only [dRun.eq_1, Tryz.func34, Tryz.f34, dRunF.eq_1, plan.eq_1, planK.eq_1, recOf.eq_1, dRun1.eq_1, dRun2.eq_1, dRunK.eq_1, isEnd.eq_1, isEnd.eq_2, opsV.eq_1, opsV.eq_2, valsK.eq_1, valsK.eq_2, valsK.eq_3, frS.eq_1, codeX.eq_1, codeX.eq_2, codeX.eq_3, codeX.eq_4, codeX.eq_5, codeX.eq_8, seqK.eq_1, seqK.eq_2, condK.eq_1, condK.eq_2, stepX.eq_1, xr2, xr3, xr4, xr5, xr6, xr7, xr8, xr9, emptyT, noneT, emptyL, getD_some, getD_none, notNum.eq_1, nameN, bin_nilN, asr_struct, okV_t, frOf_frm, frOfL.eq_1, frOfL.eq_2, wrongV, h0, h1, hc, hd, List.drop_eq_nil_of_le, go_sem, Nat.reduceAdd, Nat.reduceMul, Nat.reduceSub]
    all_goals with_reducible rfl
  case k =>
    refine ⟨by omega, ?_, ?_⟩
    · simp (disch := first | decide | omega | (simp only [List.length_cons, List.length_nil, List.length_append, length_bvs, List.length_take, List.length_drop]; omega)) only [lk_hit, lk_miss]
      all_goals rfl
    · simp (disch := first | decide | omega | (simp only [List.length_cons, List.length_nil, List.length_append, length_bvs, List.length_take, List.length_drop]; omega)) only [lk_hit, lk_miss]
      all_goals rfl
theorem bin_nilZ : binX Tryz.prog .neq 20 (.tmp 6) (.const .nilIface) (some .nilIface) (some .nilIface) = some (.val (some (.bool false))) := by kernel_rfl
theorem dRun34n {L : List (Nat × Option XObj)} {n nl : Nat} {lg : List Nat} (h3 : n < 16000) :
    dRun Tryz.prog (xrun Tryz.prog (hooksOf [] []) 9) 34 [.pointer (some ⟨0, 0, none⟩), .pointer (some ⟨1, 0, none⟩)] none (wd L n lg nl) = some (none, wd L n lg nl) := by
    simp (disch := first | decide | omega | (simp only [List.length_cons, List.length_nil, List.length_append, length_bvs, List.length_take, List.length_drop]; omega)) only [dRun.eq_1, Tryz.func34, Tryz.f34, dRunF.eq_1, plan.eq_1, planK.eq_1, recOf.eq_1, dRun1.eq_1, dRun2.eq_1, dRunK.eq_1, isEnd.eq_1, isEnd.eq_2, opsV.eq_1, opsV.eq_2, valsK.eq_1, valsK.eq_2, valsK.eq_3, frS.eq_1, codeX.eq_1, codeX.eq_2, codeX.eq_3, codeX.eq_4, codeX.eq_5, codeX.eq_8, seqK.eq_1, seqK.eq_2, condK.eq_1, condK.eq_2, stepX.eq_1, xr2, xr3, xr4, xr5, xr6, xr7, xr8, xr9, emptyT, noneT, emptyL, getD_some, getD_none, notNum.eq_1, nameN, bin_nilN, asr_struct, okV_t, frOf_frm, frOfL.eq_1, frOfL.eq_2, bin_nilZ, go_sem, Nat.reduceAdd, Nat.reduceMul, Nat.reduceSub]
    all_goals with_reducible rfl
theorem settle_one {H : Hooks} {f : FuncId} {args cap : List Value} {p p' : Option Value} {W W' : XW} {h : HD} (hh : H.defd f = some h) (he : h (args ++ cap) p W = some (p', W')) : settleX H [.call f args cap] p W = some (p', W') := by
  unfold settleX; rw [hh]; simp only; rw [he]; rfl
noncomputable def D6 : List (FuncId × HD) := [(34, dRun Tryz.prog (xrun Tryz.prog (hooksOf [] []) 9) 34)]
theorem okD6 : TabDOk Tryz.prog D6 := .cons _ _ _ (dRun_ok (enters_of (by kernel_rfl)) (xrun_ext base0.sim.ext 9) (base0.simC 9)) .nil
theorem D6_pan {T : List (FuncId × HF)} {L : List (Nat × Option XObj)} {n nl : Nat} {lg : List Nat} {c d : List Value} (h0 : lk L 0 = some (.cells c 34 (0, 0))) (h1 : lk L 1 = some (.cells d 37 (0, 0))) (hc : c.length = 35) (hd : d.length = 1) (h2 : 2 ≤ n) (h3 : n < 16000) :
    ∃ L' n' lg' nl', settleX (hooksOf T D6) [.call 34 [] [.pointer (some ⟨0, 0, none⟩), .pointer (some ⟨1, 0, none⟩)]] (some wrongV) (wd L n lg nl) = some (none, wd L' n' lg' nl') ∧
      2 ≤ n' ∧ lk L' 0 = some (.cells (.slice none 0 0 :: .slice none 0 0 :: zt) 34 (0, 0)) ∧ lk L' 1 = some (.cells [.int .i64 11] 37 (0, 0)) := by
  obtain ⟨L', n', lg', nl', h, h'⟩ := dRun34 (lg := lg) (nl := nl) h0 h1 hc hd h2 h3
  refine ⟨L', n', lg', nl', ?_, h'⟩
  exact settle_one rfl h
theorem D6_end {T : List (FuncId × HF)} {L : List (Nat × Option XObj)} {n nl : Nat} {lg : List Nat} (h3 : n < 16000) :
    settleX (hooksOf T D6) [.call 34 [] [.pointer (some ⟨0, 0, none⟩), .pointer (some ⟨1, 0, none⟩)]] none (wd L n lg nl) = some (none, wd L n lg nl) := by
  exact settle_one rfl (dRun34n h3)
def errV (n : Int) : Value := .int .i64 n
theorem dec_pan {T : List (FuncId × HF)} {F : List (Nat × Option Value)} {L : List (Nat × Option XObj)} {n nl : Nat} {lg : List Nat} {c d : List Value} {Q : XEnd → XW → Prop}
    (hF : lk F 2 = some (.pointer (some ⟨0, 0, none⟩)) ∧ lk F 3 = some (.pointer (some ⟨1, 0, none⟩))) (h0 : lk L 0 = some (.cells c 34 (0, 0))) (h1 : lk L 1 = some (.cells d 37 (0, 0))) (hc : c.length = 35) (hd : d.length = 1) (h2 : 2 ≤ n) (h3 : n < 16000)
    (hQ : ∀ W, Q (.ret (.tuple #[zeroCm, errV 11])) W) :
    ∃ p e' W', endOf (.pan wrongV) = some p ∧ finK Tryz.prog Tryz.f9 (frm F) (settleX (hooksOf T D6) [.call 34 [] [.pointer (some ⟨0, 0, none⟩), .pointer (some ⟨1, 0, none⟩)]] p (wd L n lg nl)) = some (.fin e' W') ∧ Q e' W' := by
  obtain ⟨L', n', lg', nl', h, g1, g2, g3⟩ := D6_pan (T := T) (lg := lg) (nl := nl) h0 h1 hc hd h2 h3
  refine ⟨some wrongV, .ret (.tuple #[zeroCm, errV 11]), wd L' n' lg' nl', rfl, ?_, hQ _⟩
  rw [h]
  simp (disch := first | decide | omega | (simp only [List.length_cons, List.length_nil, List.length_append, length_bvs, List.length_take, List.length_drop]; omega)) only [Tryz.results9, hF.1, hF.2, g2, g3, zt_len, zeroCm, errV, go_sem, Nat.reduceAdd, Nat.reduceMul, Nat.reduceSub]
  all_goals with_reducible rfl
theorem dec_ret {T : List (FuncId × HF)} {F : List (Nat × Option Value)} {L : List (Nat × Option XObj)} {n nl : Nat} {lg : List Nat} {c : List Value} {v : Value} {Q : XEnd → XW → Prop}
    (hF : lk F 2 = some (.pointer (some ⟨0, 0, none⟩)) ∧ lk F 3 = some (.pointer (some ⟨1, 0, none⟩))) (h0 : lk L 0 = some (.cells c 34 (0, 0))) (h1 : lk L 1 = some (.cells [v] 37 (0, 0))) (hc : c.length = 35) (h2 : 2 ≤ n) (h3 : n < 16000)
    (hQ : ∀ W, Q (.ret (.tuple #[.agg c.toArray, v])) W) :
    ∃ p e' W', endOf .ret = some p ∧ finK Tryz.prog Tryz.f9 (frm F) (settleX (hooksOf T D6) [.call 34 [] [.pointer (some ⟨0, 0, none⟩), .pointer (some ⟨1, 0, none⟩)]] p (wd L n lg nl)) = some (.fin e' W') ∧ Q e' W' := by
  refine ⟨none, .ret (.tuple #[.agg c.toArray, v]), wd L n lg nl, rfl, ?_, hQ _⟩
  rw [D6_end h3]
  simp (disch := first | decide | omega | (simp only [List.length_cons, List.length_nil, List.length_append, length_bvs, List.length_take, List.length_drop]; omega)) only [Tryz.results9, hF.1, hF.2, h0, h1, hc, go_sem, Nat.reduceAdd, Nat.reduceMul, Nat.reduceSub]
  all_goals with_reducible rfl
end Go.Proofs.YthlkgmdkabelpaaGreatDoor.X
namespace Go.Proofs.YthlkgmdkabelpaaGreatDoor.X
open Go Go.RowKit
theorem consNil {a : UInt8} {l : List UInt8} : decide (a :: l = []) = false := by simp
theorem rdO_lit {p : List Value → List UInt8 → Option (Option (Value × List UInt8))} {xs : List Value} {W : XW} {n : Nat} {s : List UInt8} : rdO p xs W n (some (.cells [.string (str s)] 96 (0, 0))) = rmK W n (p xs s) := rdO_eq
def rdL {α : Type} (p : List UInt8 → Option (α × List UInt8)) : Nat → List UInt8 → Option (List α × List UInt8)
  | 0, s => some ([], s)
  | n + 1, s => match p s with
    | none => none
    | some (a, s1) => (rdL p n s1).map fun q => (a :: q.1, q.2)
theorem rdL_no {α : Type} {p : List UInt8 → Option (α × List UInt8)} {n : Nat} {s : List UInt8} (h : p s = none) : rdL p (n + 1) s = none := by unfold rdL; rw [h]
theorem rdL_ok {α : Type} {p : List UInt8 → Option (α × List UInt8)} {n : Nat} {s s1 : List UInt8} {a : α} (h : p s = some (a, s1)) : rdL p (n + 1) s = (rdL p n s1).map fun q => (a :: q.1, q.2) := by conv => lhs; unfold rdL; rw [h]
structure LS {α : Type} (p : List UInt8 → Option (α × List UInt8)) (ok : α → Prop) (N0 : Nat) (s1 : List UInt8) where
  i : Nat
  l : List α
  s : List UInt8
  hi : i = l.length
  hN : i ≤ N0
  hok : ∀ x ∈ l, ok x
  eq : ((rdL p (N0 - i) s).map fun q => (l ++ q.1, q.2)) = rdL p N0 s1
structure CommitL where
  parents : List (List UInt8)
  edits : List EditL
  tree : List UInt8
  text : List UInt8
def rowB (l : List (List UInt8)) : List Value := l.flatMap bvs
def rowE (l : List EditL) : List Value := l.flatMap encEdit
def okB (h : List UInt8) : Prop := h.length = 32
def okE (_ : EditL) : Prop := True
theorem okB_of {s s1 : List UInt8} {h : List UInt8} (e : rdB s = some (h, s1)) : okB h := by
  unfold rdB at e
  split at e
  · cases e; unfold okB; rw [List.length_take]; omega
  · cases e
theorem okE_of {s s1 : List UInt8} {x : EditL} (e : rdE s = some (x, s1)) : okE x := trivial
theorem okB_enc {h : List UInt8} (e : okB h) : h.length = 32 := e
theorem okE_enc {x : EditL} : encEdit x = [.int .i64 x.kind, .int .i64 x.cell, .int .i64 x.dim, .int .i64 x.new, .int .i64 x.other, slV x.sides, slV x.pairs] := rfl
theorem rowB_length {l : List (List UInt8)} (h : ∀ x ∈ l, okB x) : (rowB l).length = 32 * l.length := by
  induction l with
  | nil => rfl
  | cons a l ih =>
    have ha : a.length = 32 := h a List.mem_cons_self
    have := ih fun x hx => h x (List.mem_cons_of_mem _ hx)
    simp only [rowB, List.flatMap_cons, List.length_append, length_bvs, List.length_cons] at this ⊢
    omega
theorem rowE_length {l : List EditL} (h : ∀ x ∈ l, okE x) : (rowE l).length = 7 * l.length := by
  induction l with
  | nil => rfl
  | cons a l ih =>
    have := ih fun x hx => trivial
    simp only [rowE, List.flatMap_cons, List.length_append, List.length_cons, encEdit, List.length_nil] at this ⊢
    omega
theorem rowB_nil : rowB [] = [] := rfl
theorem rowE_nil : rowE [] = [] := rfl
theorem rowB_one {h : List UInt8} : rowB [h] = bvs h := by simp [rowB]
theorem rowE_one {x : EditL} : rowE [x] = [.int .i64 x.kind, .int .i64 x.cell, .int .i64 x.dim, .int .i64 x.new, .int .i64 x.other, slV x.sides, slV x.pairs] := by simp [rowE, encEdit]
theorem rowB_snoc {l : List (List UInt8)} {h : List UInt8} : rowB l ++ bvs h = rowB (l ++ [h]) := by simp [rowB]
theorem rowE_snoc {l : List EditL} {x : EditL} : rowE l ++ [.int .i64 x.kind, .int .i64 x.cell, .int .i64 x.dim, .int .i64 x.new, .int .i64 x.other, slV x.sides, slV x.pairs] = rowE (l ++ [x]) := by simp [rowE, encEdit]
theorem bares_rowB (l : List (List UInt8)) : Bares (rowB l) := bares_flatMap (fun x => bares_bvs x) l
theorem bares_rowE (l : List EditL) : Bares (rowE l) := bares_flatMap (fun x => bares_encEdit x) l
theorem bares_zt : Bares zt := bares_append (bares_bvs _) (bares_cons bare_str bares_nil)
theorem one_gsv {n : Nat} : ∀ k, oneC (gsv n k) = true
  | 0 => rfl
  | _ + 1 => rfl
theorem zt_drop : zt.drop 32 = [.string (str [])] := by kernel_rfl
theorem tk32 {l : List UInt8} (h : l.length = 32) {s : List UInt8} : List.take 32 (bvs l ++ [.string (str s)]) = bvs l := by
  rw [List.take_left' (by rw [length_bvs]; exact h)]
theorem dr33 {l : List UInt8} (h : l.length = 32) {s : List UInt8} : List.drop 33 (bvs l ++ [.string (str s)]) = [] := by
  rw [List.drop_eq_nil_of_le (by simp [length_bvs, h])]
def encC (c : CommitL) : List Value := gslV (rowB c.parents) c.parents.length :: gslV (rowE c.edits) c.edits.length :: (bvs c.tree ++ [.string (str c.text)])
def dec (s1 : List UInt8) : Option CommitL := match rdM 8 s1 with
  | none => none
  | some (n1, s2) => match rdL rdB n1 s2 with
    | none => none
    | some (ps, s3) => match rdM 1000 s3 with
      | none => none
      | some (n2, s4) => match rdL rdE n2 s4 with
        | none => none
        | some (es, s5) => match rdB s5 with
          | none => none
          | some (tr, s6) => match rdM 65535 s6 with
            | none => none
            | some (k, s7) => if k ≤ s7.length ∧ s7.drop k = [] then some ⟨ps, es, tr, s7.take k⟩ else none
def decV : Option CommitL → Value
  | some c => .tuple #[.agg (encC c).toArray, errV 0]
  | none => .tuple #[zeroCm, errV 11]
def decR : List UInt8 → Value
  | [] => .tuple #[zeroCm, errV 51]
  | b :: s => if b = 3 then decV (dec s) else .tuple #[zeroCm, errV 51]
theorem wd_sub {L L' : List (Nat × Option XObj)} {n n' nl nl' : Nat} {lg lg' : List Nat} (h : AllLk n L L') (hn : n ≤ 16383) : ∀ m o, (wd L' n' lg' nl').get m = some o → (wd L n lg nl).get m = some o := fun m o e => by
  obtain ⟨h1, h2⟩ := h.mem _ _ (lk_mem (wd_some e).2)
  rw [wd_get h1 (by omega)]; exact h2
theorem frm_sub {F F' : List (Nat × Option Value)} {bad : List Nat} (h : AllLk 511 F F') (hb : (F'.all fun p => !bad.contains p.1) = true) : ∀ t v, (frm F').get t = some v → t ∉ bad ∧ (frm F).get t = some v := fun t v e => by
  have hm := lk_mem (frm_some e)
  obtain ⟨h1, h2⟩ := h.mem _ _ hm
  refine ⟨fun hc => ?_, by rw [frm_get h1]; exact h2⟩
  have := List.all_eq_true.1 hb _ hm
  simp [hc] at this
noncomputable def T7 : List (FuncId × HF) := [(35, rdH pMany), (36, rdH pHash), (37, rdH pEdit), (38, rdH pTake), (39, hNeed)]
theorem base7 : Base Tryz.prog (hooksOf T7 D6) := ⟨mixed, hooksOf_sim (.cons _ _ _ okMany (.cons _ _ _ okHash (.cons _ _ _ okEdit (.cons _ _ _ okTake (.cons _ _ _ okNeed' .nil))))) okD6⟩
theorem str0 : (str ([] : List UInt8)).data.toList = [] := rfl
set_option maxHeartbeats 2000000 in
theorem decodeLocal (s : List UInt8) : Local Tryz.prog 9 [.string (str s)] (wd [] 0 [] 0) fun e W' => e = .ret (decR s) := by
  refine lit_local base7 Tryz.func9 rfl (Nat.le_of_ble_eq_true rfl) ?_
  simp only [frOfL.eq_1, frOfL.eq_2, wd_next, Tryz.ntmps9, Nat.reduceAdd]
  refine xwp_seq (xwp_region (e := ?e1) (s' := ?s1) base7 ?h1 ?q1)
  case h1 =>
    simp (disch := first | decide | omega | (simp only [List.length_cons, List.length_nil, List.length_append, length_bvs, List.length_take, List.length_drop]; omega)) only [go_sem, Nat.reduceAdd, Nat.reduceMul, Nat.reduceSub]
    all_goals with_reducible rfl
  case q1 =>
  refine xwp_le (chle_lit (F' := [(0, some (.string (str s))), (2, some (.pointer (some ⟨0, 0, none⟩))), (3, some (.pointer (some ⟨1, 0, none⟩)))]) (L' := [(0, some (.cells (.slice none 0 0 :: .slice none 0 0 :: zt) 34 (0, 0))), (1, some (.cells [.int .i64 0] 37 (0, 0)))]) (n' := 2) (lg' := []) (nl' := 0) (by simp (disch := decide) [AllLk, lk_hit, lk_miss, lk_nil]) ⟨⟨by decide, rfl⟩, ⟨by decide, rfl⟩, trivial⟩ (by decide)) ?_
  refine xwp_seq ?_
  rcases s with _ | ⟨b, s1⟩
  · refine xwp_seq (xwp_region (e := ?e2) (s' := ?s2) base7 ?h2 ?q2)
    case h2 =>
      simp (disch := first | decide | omega | (simp only [List.length_cons, List.length_nil, List.length_append, length_bvs, List.length_take, List.length_drop]; omega)) only [rdH_eq, rdO_eq, rmK.eq_1, rmK.eq_2, pTake_ok, pTake_no, hNeed.eq_1, hNeed.eq_2, pMany_eq, pCode_eq, pHash_eq, pDigits_eq, Option.map_some, Option.map_none, pEdit_eq, ev_c51, consNil, rdO_lit, go_sem, Nat.reduceAdd, Nat.reduceMul, Nat.reduceSub]
      all_goals with_reducible rfl
    case q2 =>
    refine xwp_ct ?h3 ?q3
    case h3 =>
      simp (disch := first | decide | omega | (simp only [List.length_cons, List.length_nil, List.length_append, length_bvs, List.length_take, List.length_drop]; omega)) only [go_sem, Nat.reduceAdd, Nat.reduceMul, Nat.reduceSub]
      all_goals with_reducible rfl
    case q3 =>
    refine xwp_seq (xwp_region (e := ?e4) (s' := ?s4) base7 ?h4 ?q4)
    case h4 =>
      simp (disch := first | decide | omega | (simp only [List.length_cons, List.length_nil, List.length_append, length_bvs, List.length_take, List.length_drop]; omega)) only [zt_len, List.drop_eq_nil_of_le, ev_c51, go_sem, Nat.reduceAdd, Nat.reduceMul, Nat.reduceSub]
      all_goals with_reducible rfl
    case q4 =>
    refine xwp_ret ?_
    refine ⟨_, ?e5, ?W5, rfl, ?h5, ?q5⟩
    case h5 =>
      simp (disch := first | decide | omega | (simp only [List.length_cons, List.length_nil, List.length_append, length_bvs, List.length_take, List.length_drop]; omega)) only [Tryz.results9, go_sem, Nat.reduceAdd, Nat.reduceMul, Nat.reduceSub]
      all_goals with_reducible rfl
    case q5 =>
    rfl
  by_cases hb3 : b = 3
  case neg =>
    have hb' : ((b.toNat : Nat) : Int) ≠ 3 := fun e => hb3 (by
      have : b.toNat = 3 := by exact_mod_cast e
      exact UInt8.toNat_inj.1 this)
    refine xwp_seq (xwp_region (e := ?e6) (s' := ?s6) base7 ?h6 ?q6)
    case h6 =>
      simp (disch := first | decide | omega | (simp only [List.length_cons, List.length_nil, List.length_append, length_bvs, List.length_take, List.length_drop]; omega)) only [rdH_eq, rdO_eq, rmK.eq_1, rmK.eq_2, pTake_ok, pTake_no, hNeed.eq_1, hNeed.eq_2, pMany_eq, pCode_eq, pHash_eq, pDigits_eq, Option.map_some, Option.map_none, pEdit_eq, ev_c51, consNil, rdO_lit, hb', go_sem, Nat.reduceAdd, Nat.reduceMul, Nat.reduceSub]
      all_goals with_reducible rfl
    case q6 =>
    refine xwp_ct ?h7 ?q7
    case h7 =>
      simp (disch := first | decide | omega | (simp only [List.length_cons, List.length_nil, List.length_append, length_bvs, List.length_take, List.length_drop]; omega)) only [go_sem, Nat.reduceAdd, Nat.reduceMul, Nat.reduceSub]
      all_goals with_reducible rfl
    case q7 =>
    refine xwp_seq (xwp_region (e := ?e8) (s' := ?s8) base7 ?h8 ?q8)
    case h8 =>
      simp (disch := first | decide | omega | (simp only [List.length_cons, List.length_nil, List.length_append, length_bvs, List.length_take, List.length_drop]; omega)) only [zt_len, List.drop_eq_nil_of_le, ev_c51, go_sem, Nat.reduceAdd, Nat.reduceMul, Nat.reduceSub]
      all_goals with_reducible rfl
    case q8 =>
    refine xwp_ret ?_
    refine ⟨_, ?e9, ?W9, rfl, ?h9, ?q9⟩
    case h9 =>
      simp (disch := first | decide | omega | (simp only [List.length_cons, List.length_nil, List.length_append, length_bvs, List.length_take, List.length_drop]; omega)) only [Tryz.results9, go_sem, Nat.reduceAdd, Nat.reduceMul, Nat.reduceSub]
      all_goals with_reducible rfl
    case q9 =>
    show _ = XEnd.ret (if b = 3 then _ else _)
    rw [if_neg hb3]
    rfl
  have hb' : ((b.toNat : Nat) : Int) = 3 := by rw [hb3]; rfl
  refine xwp_seq (xwp_region (e := ?e10) (s' := ?s10) base7 ?h10 ?q10)
  case h10 =>
    simp (disch := first | decide | omega | (simp only [List.length_cons, List.length_nil, List.length_append, length_bvs, List.length_take, List.length_drop]; omega)) only [rdH_eq, rdO_eq, rmK.eq_1, rmK.eq_2, pTake_ok, pTake_no, hNeed.eq_1, hNeed.eq_2, pMany_eq, pCode_eq, pHash_eq, pDigits_eq, Option.map_some, Option.map_none, pEdit_eq, ev_c51, consNil, rdO_lit, hb', go_sem, Nat.reduceAdd, Nat.reduceMul, Nat.reduceSub]
    all_goals with_reducible rfl
  case q10 =>
  refine xwp_cf ?h11 ?q11
  case h11 =>
    simp (disch := first | decide | omega | (simp only [List.length_cons, List.length_nil, List.length_append, length_bvs, List.length_take, List.length_drop]; omega)) only [go_sem, Nat.reduceAdd, Nat.reduceMul, Nat.reduceSub]
    all_goals with_reducible rfl
  case q11 =>
  refine xwp_skip ?_
  refine xwp_seq (xwp_region (e := ?e12) (s' := ?s12) base7 ?h12 ?q12)
  case h12 =>
    simp (disch := first | decide | omega | (simp only [List.length_cons, List.length_nil, List.length_append, length_bvs, List.length_take, List.length_drop]; omega)) only [go_sem, Nat.reduceAdd, Nat.reduceMul, Nat.reduceSub]
    all_goals with_reducible rfl
  case q12 =>
  refine xwp_seq (xwp_region (e := ?e13) (s' := ?s13) base7 ?h13 ?q13)
  case h13 =>
    simp (disch := first | decide | omega | (simp only [List.length_cons, List.length_nil, List.length_append, length_bvs, List.length_take, List.length_drop]; omega)) only [go_sem, Nat.reduceAdd, Nat.reduceMul, Nat.reduceSub]
    all_goals with_reducible rfl
  case q13 =>
  refine xwp_seq ?_
  cases hM1 : rdM 8 s1 with
  | none =>
    refine xwp_seq (xwp_region (e := ?e14) (s' := ?s14) base7 ?h14 ?q14)
    case h14 =>
      simp (disch := first | decide | omega | (simp only [List.length_cons, List.length_nil, List.length_append, length_bvs, List.length_take, List.length_drop]; omega)) only [T7, rdH_eq, rdO_eq, rmK.eq_1, rmK.eq_2, pTake_ok, pTake_no, hNeed.eq_1, hNeed.eq_2, pMany_eq, pCode_eq, pHash_eq, pDigits_eq, Option.map_some, Option.map_none, pEdit_eq, ev_c51, consNil, rdO_lit, hM1, go_sem, Nat.reduceAdd, Nat.reduceMul, Nat.reduceSub]
      all_goals with_reducible rfl
    case q14 =>
    refine dec_pan ⟨by simp (disch := first | decide | omega) only [lk_hit, lk_miss], by simp (disch := first | decide | omega) only [lk_hit, lk_miss]⟩ (by (simp (disch := first | decide | omega) only [lk_hit, lk_miss]; all_goals with_reducible rfl)) (by (simp (disch := first | decide | omega) only [lk_hit, lk_miss]; all_goals with_reducible rfl)) rfl rfl (by decide) (by decide) fun W => ?_
    simp only [decR, hb3, if_true, dec, hM1]
    rfl
  | some q =>
  obtain ⟨n1, s2⟩ := q
  have hn1 : n1 ≤ 8 := rdM_le hM1
  refine xwp_seq (xwp_region (e := ?e15) (s' := ?s15) base7 ?h15 ?q15)
  case h15 =>
    simp (disch := first | decide | omega | (simp only [List.length_cons, List.length_nil, List.length_append, length_bvs, List.length_take, List.length_drop]; omega)) only [T7, rdH_eq, rdO_eq, rmK.eq_1, rmK.eq_2, pTake_ok, pTake_no, hNeed.eq_1, hNeed.eq_2, pMany_eq, pCode_eq, pHash_eq, pDigits_eq, Option.map_some, Option.map_none, pEdit_eq, ev_c51, consNil, rdO_lit, hM1, go_sem, Nat.reduceAdd, Nat.reduceMul, Nat.reduceSub]
    all_goals with_reducible rfl
  case q15 =>
  refine xwp_block ?_
  refine xwp_le (chle_lit (F' := [(2, some (.pointer (some ⟨0, 0, none⟩))), (3, some (.pointer (some ⟨1, 0, none⟩))), (4, some (.pointer (some ⟨2, 0, none⟩))), (19, some (.int .i64 (n1 : Int))), (20, some (.int .i64 ((0 : Nat) : Int)))]) (L' := [(0, some (.cells (gsv 3 0 :: .slice none 0 0 :: zt) 34 (0, 0))), (1, some (.cells [.int .i64 0] 37 (0, 0))), (2, some (rdr s2)), (3, growO 32 (rowB []) 0)]) (n' := 4) (lg' := []) (nl' := 0) (by simp (disch := decide) [AllLk, lk_hit, lk_miss, lk_nil]) (by simp (disch := decide) [AllLk, lk_hit, lk_miss, lk_nil, gsv, growO]) (by decide)) ?_
  refine xwp_loop (α := LS rdB okB n1 s2) (fun x => ⟨frm [(2, some (.pointer (some ⟨0, 0, none⟩))), (3, some (.pointer (some ⟨1, 0, none⟩))), (4, some (.pointer (some ⟨2, 0, none⟩))), (19, some (.int .i64 (n1 : Int))), (20, some (.int .i64 (x.i : Int)))], wd [(0, some (.cells (gsv 3 x.l.length :: .slice none 0 0 :: zt) 34 (0, 0))), (1, some (.cells [.int .i64 0] 37 (0, 0))), (2, some (rdr x.s)), (3, growO 32 (rowB x.l) x.l.length)] 4 [] 0, [.call 34 [] [.pointer (some ⟨0, 0, none⟩), .pointer (some ⟨1, 0, none⟩)]]⟩) (fun x => n1 - x.i) ?_ ⟨0, [], s2, rfl, by omega, (fun _ h => by cases h), by simp⟩
  intro ⟨i, l, sL, hi, hN, hok, heq⟩
  simp only
  by_cases hlt : i < n1
  · refine xwp_seq (xwp_region (e := ?e16) (s' := ?s16) base7 ?h16 ?q16)
    case h16 =>
      simp (disch := first | decide | omega | (simp only [List.length_cons, List.length_nil, List.length_append, length_bvs, List.length_take, List.length_drop]; omega)) only [go_sem, Nat.reduceAdd, Nat.reduceMul, Nat.reduceSub]
      all_goals with_reducible rfl
    case q16 =>
    refine xwp_seq (xwp_ct ?h17 ?q17)
    case h17 =>
      simp (disch := first | decide | omega | (simp only [List.length_cons, List.length_nil, List.length_append, length_bvs, List.length_take, List.length_drop]; omega)) only [go_sem, Nat.reduceAdd, Nat.reduceMul, Nat.reduceSub]
      all_goals with_reducible rfl
    case q17 =>
    refine xwp_skip ?_
    cases hr1 : rdB sL with
    | none =>
      refine xwp_seq (xwp_block (xwp_drawn_panK (pv := wrongV) (oj := ?gu3) (r := ?ru3) (rs := ?rsu3) (s' := ?su3) (W' := ?Wu3) (S := ⟨frm [(2, some (.pointer (some ⟨0, 0, none⟩))), (3, some (.pointer (some ⟨1, 0, none⟩)))], wd [(0, some (.cells (gsv 3 l.length :: .slice none 0 0 :: zt) 34 (0, 0))), (1, some (.cells [.int .i64 0] 37 (0, 0)))] 20 [] 0, [.call 34 [] [.pointer (some ⟨0, 0, none⟩), .pointer (some ⟨1, 0, none⟩)]]⟩) base7 3 [false, false, false, true, true, true, true, true] (by kernel_rfl) ?hu3 ?ku3 ?ju3 ?iu3 ?ou3 ?nu3 ?Su3 ?lu3 ?fu3 rfl ?qu3))
      case hu3 =>
        simp (disch := first | decide | omega | (simp only [List.length_cons, List.length_nil, List.length_append, length_bvs, List.length_take, List.length_drop]; omega)) only [traceX.eq_1, traceX.eq_2, trc1.eq_1, trcK.eq_1, trcK.eq_2, traceD_nil, traceD_t, traceD_f, holeK.eq_1, holeK.eq_2, T7, rdH_eq, rdO_eq, rmK.eq_1, rmK.eq_2, pTake_ok, pTake_no, hNeed.eq_1, hNeed.eq_2, pMany_eq, pCode_eq, pHash_eq, pDigits_eq, Option.map_some, Option.map_none, pEdit_eq, ev_c51, consNil, rdO_lit, hr1, one_gsv, go_sem, Nat.reduceAdd, Nat.reduceMul, Nat.reduceSub]
        all_goals with_reducible rfl
      case ku3 => kernel_rfl
      case ju3 =>
        simp only [List.getElem?_toArray, List.getElem?_cons_succ, List.getElem?_cons_zero]
        all_goals with_reducible rfl
      case iu3 =>
        simp only [List.getElem?_cons_succ, List.getElem?_cons_zero]
        all_goals with_reducible rfl
      case ou3 =>
        simp (disch := first | decide | omega | (simp only [List.length_cons, List.length_nil, List.length_append, length_bvs, List.length_take, List.length_drop]; omega)) only [T7, rdH_eq, rdO_eq, rmK.eq_1, rmK.eq_2, pTake_ok, pTake_no, hNeed.eq_1, hNeed.eq_2, pMany_eq, pCode_eq, pHash_eq, pDigits_eq, Option.map_some, Option.map_none, pEdit_eq, ev_c51, consNil, rdO_lit, hr1, go_sem, Nat.reduceAdd, Nat.reduceMul, Nat.reduceSub]
        all_goals with_reducible rfl
      case nu3 => rfl
      case Su3 => exact wd_sub (by simp (disch := decide) [AllLk, lk_hit, lk_miss, lk_nil]) (by decide)
      case lu3 => exact Nat.le_of_ble_eq_true rfl
      case fu3 => exact frm_sub (by simp (disch := decide) [AllLk, lk_hit, lk_miss, lk_nil]) (by kernel_rfl)
      case qu3 =>
      refine dec_pan ⟨by simp (disch := first | decide | omega) only [lk_hit, lk_miss], by simp (disch := first | decide | omega) only [lk_hit, lk_miss]⟩ (by (simp (disch := first | decide | omega) only [lk_hit, lk_miss]; all_goals with_reducible rfl)) (by (simp (disch := first | decide | omega) only [lk_hit, lk_miss]; all_goals with_reducible rfl)) rfl rfl (by decide) (by decide) fun W => ?_
      rw [show n1 - i = (n1 - (i + 1)) + 1 by omega, rdL_no hr1] at heq
      have hz : rdL rdB n1 s2 = none := by rw [← heq]; rfl
      simp only [decR, hb3, if_true, dec, hM1, hz]
      rfl
    | some q =>
    obtain ⟨xu, t1⟩ := q
    have hx : okB xu := okB_of hr1
    have hx2 : xu.length = 32 := hx
    refine xwp_bdrawn_to base7 ⟨frm [(2, some (.pointer (some ⟨0, 0, none⟩))), (3, some (.pointer (some ⟨1, 0, none⟩))), (4, some (.pointer (some ⟨2, 0, none⟩))), (19, some (.int .i64 (n1 : Int))), (20, some (.int .i64 (i : Int)))], wd [(0, some (.cells (.slice (some ⟨5, 0, none⟩) (l.length + 1) openCap :: .slice none 0 0 :: zt) 34 (0, 0))), (1, some (.cells [.int .i64 0] 37 (0, 0))), (2, some (rdr t1)), (5, some (.cells (rowB (l ++ [xu])) 32 (0, 0)))] 6 [] 0, [.call 34 [] [.pointer (some ⟨0, 0, none⟩), .pointer (some ⟨1, 0, none⟩)]]⟩ ?hdu ?qdu
    case hdu =>
      rcases l with _ | ⟨p, l'⟩
      · have hlen := rowB_length (l := []) hok
        simp only [List.length_cons, List.length_nil] at hlen hi
        refine ⟨?rsux, ?sux, ?hux, ?kux, ?lux⟩
        case hux =>
          simp (disch := first | decide | omega | (simp only [List.length_cons, List.length_nil, List.length_append, length_bvs, List.length_take, List.length_drop]; omega)) only [traceX.eq_1, traceX.eq_2, trc1.eq_1, trcK.eq_1, trcK.eq_2, traceD_nil, traceD_t, traceD_f, holeK.eq_1, holeK.eq_2, T7, rdH_eq, rdO_eq, rmK.eq_1, rmK.eq_2, pTake_ok, pTake_no, hNeed.eq_1, hNeed.eq_2, pMany_eq, pCode_eq, pHash_eq, pDigits_eq, Option.map_some, Option.map_none, pEdit_eq, ev_c51, consNil, rdO_lit, hr1, hx2, gsv.eq_1, growO.eq_1, rowB_snoc, rowB_nil, go_sem, Nat.reduceAdd, Nat.reduceMul, Nat.reduceSub]
          all_goals with_reducible rfl
        case kux => kernel_rfl
        case lux =>
          exact chle_lit (by simp (disch := decide) [AllLk, lk_hit, lk_miss, lk_nil]) (by simp (disch := decide) [AllLk, lk_hit, lk_miss, lk_nil, rowB_one]) (by decide)
      · have hlen := rowB_length (l := p :: l') hok
        simp only [List.length_cons, List.length_nil] at hlen hi
        refine ⟨?rsuy, ?suy, ?huy, ?kuy, ?luy⟩
        case huy =>
          simp (disch := first | decide | omega | (simp only [List.length_cons, List.length_nil, List.length_append, length_bvs, List.length_take, List.length_drop]; omega)) only [traceX.eq_1, traceX.eq_2, trc1.eq_1, trcK.eq_1, trcK.eq_2, traceD_nil, traceD_t, traceD_f, holeK.eq_1, holeK.eq_2, T7, rdH_eq, rdO_eq, rmK.eq_1, rmK.eq_2, pTake_ok, pTake_no, hNeed.eq_1, hNeed.eq_2, pMany_eq, pCode_eq, pHash_eq, pDigits_eq, Option.map_some, Option.map_none, pEdit_eq, ev_c51, consNil, rdO_lit, hr1, hx2, gsv.eq_2, growO.eq_2, List.length_cons, rowB_snoc, go_sem, Nat.reduceAdd, Nat.reduceMul, Nat.reduceSub]
          all_goals with_reducible rfl
        case kuy => kernel_rfl
        case luy =>
          exact chle_lit (by simp (disch := decide) [AllLk, lk_hit, lk_miss, lk_nil]) (by simp (disch := decide) [AllLk, lk_hit, lk_miss, lk_nil, rowB_snoc]) (by decide)
    case qdu =>
    refine xwp_region (e := ?e18) (s' := ?s18) base7 ?h18 ?q18
    case h18 =>
      simp (disch := first | decide | omega | (simp only [List.length_cons, List.length_nil, List.length_append, length_bvs, List.length_take, List.length_drop]; omega)) only [go_sem, Nat.reduceAdd, Nat.reduceMul, Nat.reduceSub]
      all_goals with_reducible rfl
    case q18 =>
    refine ⟨⟨i + 1, l ++ [xu], t1, by simp [hi], by omega, ?_, ?_⟩, by simp only; omega, ?_⟩
    · intro y hy
      rcases List.mem_append.1 hy with hy | hy
      · exact hok y hy
      · rw [List.mem_singleton.1 hy]; exact hx
    · rw [← heq, show n1 - i = (n1 - (i + 1)) + 1 by omega, rdL_ok hr1, Option.map_map]
      congr 1
      funext q
      simp
    · simp only [List.length_append, List.length_cons, List.length_nil, Nat.zero_add, gsv.eq_2, growO.eq_2]
      exact chle_ren_lit [(0, some 0), (1, some 1), (2, some 2), (5, some 3)] [(0, some 0), (1, some 1), (2, some 2), (3, some 5)] (by decide) (by decide) (by decide)
        (allTv_cons (v := .pointer (some ⟨0, 0, none⟩)) (by decide) (by simp (disch := first | decide | omega) only [lk_hit, lk_miss]) (tv_ptr (by simp (disch := first | decide | omega) only [lk_hit, lk_miss])) (allTv_cons (v := .pointer (some ⟨1, 0, none⟩)) (by decide) (by simp (disch := first | decide | omega) only [lk_hit, lk_miss]) (tv_ptr (by simp (disch := first | decide | omega) only [lk_hit, lk_miss])) (allTv_cons (v := .pointer (some ⟨2, 0, none⟩)) (by decide) (by simp (disch := first | decide | omega) only [lk_hit, lk_miss]) (tv_ptr (by simp (disch := first | decide | omega) only [lk_hit, lk_miss]))
          (allTv_cons (v := .int .i64 (n1 : Int)) (by decide) (by simp (disch := first | decide | omega) only [lk_hit, lk_miss]) (tv_flat 1 rfl) (allTv_cons (v := .int .i64 ((i + 1 : Nat) : Int)) (by decide) (by simp (disch := first | decide | omega) only [lk_hit, lk_miss]) (tv_flat 1 rfl) allTv_nil)))))
        (allTo_cons (o := .cells (.slice (some ⟨5, 0, none⟩) (l.length + 1) openCap :: .slice none 0 0 :: zt) 34 (0, 0)) 0 (by simp (disch := first | decide | omega) only [lk_hit, lk_miss]) (by decide) (by decide) (by simp (disch := first | decide | omega) only [lk_hit, lk_miss]) (to_tvs (tvs_cons (tv_slice (by simp (disch := first | decide | omega) only [lk_hit, lk_miss])) (tvs_cons (tv_flat 1 rfl) (bares_zt _ names_fz))))
          (allTo_cons (o := .cells [.int .i64 0] 37 (0, 0)) 1 (by simp (disch := first | decide | omega) only [lk_hit, lk_miss]) (by decide) (by decide) (by simp (disch := first | decide | omega) only [lk_hit, lk_miss]) (to_bareO names_fz (bareO_bares (bares_cons (bare_flat 1 rfl) bares_nil)))
          (allTo_cons (o := rdr t1) 2 (by simp (disch := first | decide | omega) only [lk_hit, lk_miss]) (by decide) (by decide) (by simp (disch := first | decide | omega) only [lk_hit, lk_miss]) (to_bareO names_fz bareO_rdr)
          (allTo_cons (o := .cells (rowB (l ++ [xu])) 32 (0, 0)) 5 (by simp (disch := first | decide | omega) only [lk_hit, lk_miss]) (by decide) (by decide) (by simp (disch := first | decide | omega) only [lk_hit, lk_miss]) (to_bareO names_fz (bareO_bares (bares_rowB _))) allTo_nil))))
        (.call _ _ _ _ _ _ _ tvs_nil (tvs_cons (tv_ptr (by simp (disch := first | decide | omega) only [lk_hit, lk_miss])) (tvs_cons (tv_ptr (by simp (disch := first | decide | omega) only [lk_hit, lk_miss])) tvs_nil)) .nil)
  · refine xwp_seq (xwp_region (e := ?e19) (s' := ?s19) base7 ?h19 ?q19)
    case h19 =>
      simp (disch := first | decide | omega | (simp only [List.length_cons, List.length_nil, List.length_append, length_bvs, List.length_take, List.length_drop]; omega)) only [go_sem, Nat.reduceAdd, Nat.reduceMul, Nat.reduceSub]
      all_goals with_reducible rfl
    case q19 =>
    refine xwp_seq (xwp_cf ?h20 ?q20)
    case h20 =>
      simp (disch := first | decide | omega | (simp only [List.length_cons, List.length_nil, List.length_append, length_bvs, List.length_take, List.length_drop]; omega)) only [go_sem, Nat.reduceAdd, Nat.reduceMul, Nat.reduceSub]
      all_goals with_reducible rfl
    case q20 =>
    refine xwp_exit ?_
    have hin : n1 - i = 0 := by omega
    rw [hin] at heq
    have hfinu : rdL rdB n1 s2 = some (l, sL) := by rw [← heq]; simp [rdL]
    clear heq
    have hlb : l.length ≤ 1000 := by omega
    show XWp _ _ _ _ _ _
    refine xwp_le (ChLe.trans (freeze_row (c := rowB l) (d := gsv 3 l.length :: .slice none 0 0 :: zt) (e := 32) (e2 := 34) (fr2 := (0, 0)) (k := l.length) (L' := [(0, some (.cells (gslV (rowB l) l.length :: .slice none 0 0 :: zt) 34 (0, 0))), (1, some (.cells [.int .i64 0] 37 (0, 0))), (2, some (rdr sL))]) 3 0 0 (by simp (disch := first | decide | omega) only [lk_hit, lk_miss]) (by simp (disch := first | decide | omega) only [lk_hit, lk_miss]) rfl (by decide) (by decide) (by decide) (by decide) (by show l.length ≤ 4611686018427387904; omega) (.call _ _ _ _ _ _ _ tvs_same tvs_same .nil) (by simp (disch := decide) [AllLk, lk_hit, lk_miss, lk_nil]))
      (chle_lit (F' := [(2, some (.pointer (some ⟨0, 0, none⟩))), (3, some (.pointer (some ⟨1, 0, none⟩))), (4, some (.pointer (some ⟨2, 0, none⟩)))]) (L' := [(0, some (.cells (gslV (rowB l) l.length :: .slice none 0 0 :: zt) 34 (0, 0))), (1, some (.cells [.int .i64 0] 37 (0, 0))), (2, some (rdr sL))]) (n' := 4) (lg' := []) (nl' := 0) (by simp (disch := decide) [AllLk, lk_hit, lk_miss, lk_nil]) (by simp (disch := decide) [AllLk, lk_hit, lk_miss, lk_nil]) (by decide))) ?_
    obtain ⟨lp, hlp⟩ : ∃ lp, lp = l := ⟨l, rfl⟩
    rw [← hlp] at hfinu hok ⊢
    have hokp := hok
    clear hlp hok hi hN hlt hin hlb
    clear l i
    refine xwp_seq ?_
    cases hM2 : rdM 1000 sL with
    | none =>
      refine xwp_seq (xwp_region (e := ?e21) (s' := ?s21) base7 ?h21 ?q21)
      case h21 =>
        simp (disch := first | decide | omega | (simp only [List.length_cons, List.length_nil, List.length_append, length_bvs, List.length_take, List.length_drop]; omega)) only [T7, rdH_eq, rdO_eq, rmK.eq_1, rmK.eq_2, pTake_ok, pTake_no, hNeed.eq_1, hNeed.eq_2, pMany_eq, pCode_eq, pHash_eq, pDigits_eq, Option.map_some, Option.map_none, pEdit_eq, ev_c51, consNil, rdO_lit, hM2, go_sem, Nat.reduceAdd, Nat.reduceMul, Nat.reduceSub]
        all_goals with_reducible rfl
      case q21 =>
      refine dec_pan ⟨by simp (disch := first | decide | omega) only [lk_hit, lk_miss], by simp (disch := first | decide | omega) only [lk_hit, lk_miss]⟩ (by (simp (disch := first | decide | omega) only [lk_hit, lk_miss]; all_goals with_reducible rfl)) (by (simp (disch := first | decide | omega) only [lk_hit, lk_miss]; all_goals with_reducible rfl)) (by simp only [List.length_cons, List.length_append, List.length_nil, zt_len, length_bvs]; all_goals omega) rfl (by decide) (by decide) fun W => ?_
      simp only [decR, hb3, if_true, dec, hM1, hfinu, hM2]
      rfl
    | some q =>
    obtain ⟨n2, s4⟩ := q
    have hn2 : n2 ≤ 1000 := rdM_le hM2
    refine xwp_seq (xwp_region (e := ?e22) (s' := ?s22) base7 ?h22 ?q22)
    case h22 =>
      simp (disch := first | decide | omega | (simp only [List.length_cons, List.length_nil, List.length_append, length_bvs, List.length_take, List.length_drop]; omega)) only [T7, rdH_eq, rdO_eq, rmK.eq_1, rmK.eq_2, pTake_ok, pTake_no, hNeed.eq_1, hNeed.eq_2, pMany_eq, pCode_eq, pHash_eq, pDigits_eq, Option.map_some, Option.map_none, pEdit_eq, ev_c51, consNil, rdO_lit, hM2, go_sem, Nat.reduceAdd, Nat.reduceMul, Nat.reduceSub]
      all_goals with_reducible rfl
    case q22 =>
    refine xwp_block ?_
    refine xwp_le (chle_lit (F' := [(2, some (.pointer (some ⟨0, 0, none⟩))), (3, some (.pointer (some ⟨1, 0, none⟩))), (4, some (.pointer (some ⟨2, 0, none⟩))), (31, some (.int .i64 (n2 : Int))), (32, some (.int .i64 ((0 : Nat) : Int)))]) (L' := [(0, some (.cells (gslV (rowB lp) lp.length :: gsv 3 0 :: zt) 34 (0, 0))), (1, some (.cells [.int .i64 0] 37 (0, 0))), (2, some (rdr s4)), (3, growO 64 (rowE []) 0)]) (n' := 4) (lg' := []) (nl' := 0) (by simp (disch := decide) [AllLk, lk_hit, lk_miss, lk_nil]) (by simp (disch := decide) [AllLk, lk_hit, lk_miss, lk_nil, gsv, growO]) (by decide)) ?_
    refine xwp_loop (α := LS rdE okE n2 s4) (fun x => ⟨frm [(2, some (.pointer (some ⟨0, 0, none⟩))), (3, some (.pointer (some ⟨1, 0, none⟩))), (4, some (.pointer (some ⟨2, 0, none⟩))), (31, some (.int .i64 (n2 : Int))), (32, some (.int .i64 (x.i : Int)))], wd [(0, some (.cells (gslV (rowB lp) lp.length :: gsv 3 x.l.length :: zt) 34 (0, 0))), (1, some (.cells [.int .i64 0] 37 (0, 0))), (2, some (rdr x.s)), (3, growO 64 (rowE x.l) x.l.length)] 4 [] 0, [.call 34 [] [.pointer (some ⟨0, 0, none⟩), .pointer (some ⟨1, 0, none⟩)]]⟩) (fun x => n2 - x.i) ?_ ⟨0, [], s4, rfl, by omega, (fun _ h => by cases h), by simp⟩
    intro ⟨i, l, sL, hi, hN, hok, heq⟩
    simp only
    by_cases hlt : i < n2
    · refine xwp_seq (xwp_region (e := ?e23) (s' := ?s23) base7 ?h23 ?q23)
      case h23 =>
        simp (disch := first | decide | omega | (simp only [List.length_cons, List.length_nil, List.length_append, length_bvs, List.length_take, List.length_drop]; omega)) only [go_sem, Nat.reduceAdd, Nat.reduceMul, Nat.reduceSub]
        all_goals with_reducible rfl
      case q23 =>
      refine xwp_seq (xwp_ct ?h24 ?q24)
      case h24 =>
        simp (disch := first | decide | omega | (simp only [List.length_cons, List.length_nil, List.length_append, length_bvs, List.length_take, List.length_drop]; omega)) only [go_sem, Nat.reduceAdd, Nat.reduceMul, Nat.reduceSub]
        all_goals with_reducible rfl
      case q24 =>
      refine xwp_skip ?_
      cases hr1 : rdE sL with
      | none =>
        refine xwp_seq (xwp_block (xwp_drawn_panK (pv := wrongV) (oj := ?gw3) (r := ?rw3) (rs := ?rsw3) (s' := ?sw3) (W' := ?Ww3) (S := ⟨frm [(2, some (.pointer (some ⟨0, 0, none⟩))), (3, some (.pointer (some ⟨1, 0, none⟩)))], wd [(0, some (.cells (gslV (rowB lp) lp.length :: gsv 3 l.length :: zt) 34 (0, 0))), (1, some (.cells [.int .i64 0] 37 (0, 0)))] 20 [] 0, [.call 34 [] [.pointer (some ⟨0, 0, none⟩), .pointer (some ⟨1, 0, none⟩)]]⟩) base7 3 [false, false, false, true, true, true, true, true] (by kernel_rfl) ?hw3 ?kw3 ?jw3 ?iw3 ?ow3 ?nw3 ?Sw3 ?lw3 ?fw3 rfl ?qw3))
        case hw3 =>
          simp (disch := first | decide | omega | (simp only [List.length_cons, List.length_nil, List.length_append, length_bvs, List.length_take, List.length_drop]; omega)) only [traceX.eq_1, traceX.eq_2, trc1.eq_1, trcK.eq_1, trcK.eq_2, traceD_nil, traceD_t, traceD_f, holeK.eq_1, holeK.eq_2, T7, rdH_eq, rdO_eq, rmK.eq_1, rmK.eq_2, pTake_ok, pTake_no, hNeed.eq_1, hNeed.eq_2, pMany_eq, pCode_eq, pHash_eq, pDigits_eq, Option.map_some, Option.map_none, pEdit_eq, ev_c51, consNil, rdO_lit, hr1, one_gsv, one_gslV, go_sem, Nat.reduceAdd, Nat.reduceMul, Nat.reduceSub]
          all_goals with_reducible rfl
        case kw3 => kernel_rfl
        case jw3 =>
          simp only [List.getElem?_toArray, List.getElem?_cons_succ, List.getElem?_cons_zero]
          all_goals with_reducible rfl
        case iw3 =>
          simp only [List.getElem?_cons_succ, List.getElem?_cons_zero]
          all_goals with_reducible rfl
        case ow3 =>
          simp (disch := first | decide | omega | (simp only [List.length_cons, List.length_nil, List.length_append, length_bvs, List.length_take, List.length_drop]; omega)) only [T7, rdH_eq, rdO_eq, rmK.eq_1, rmK.eq_2, pTake_ok, pTake_no, hNeed.eq_1, hNeed.eq_2, pMany_eq, pCode_eq, pHash_eq, pDigits_eq, Option.map_some, Option.map_none, pEdit_eq, ev_c51, consNil, rdO_lit, hr1, go_sem, Nat.reduceAdd, Nat.reduceMul, Nat.reduceSub]
          all_goals with_reducible rfl
        case nw3 => rfl
        case Sw3 => exact wd_sub (by simp (disch := decide) [AllLk, lk_hit, lk_miss, lk_nil]) (by decide)
        case lw3 => exact Nat.le_of_ble_eq_true rfl
        case fw3 => exact frm_sub (by simp (disch := decide) [AllLk, lk_hit, lk_miss, lk_nil]) (by kernel_rfl)
        case qw3 =>
        refine dec_pan ⟨by simp (disch := first | decide | omega) only [lk_hit, lk_miss], by simp (disch := first | decide | omega) only [lk_hit, lk_miss]⟩ (by (simp (disch := first | decide | omega) only [lk_hit, lk_miss]; all_goals with_reducible rfl)) (by (simp (disch := first | decide | omega) only [lk_hit, lk_miss]; all_goals with_reducible rfl)) rfl rfl (by decide) (by decide) fun W => ?_
        rw [show n2 - i = (n2 - (i + 1)) + 1 by omega, rdL_no hr1] at heq
        have hz : rdL rdE n2 s4 = none := by rw [← heq]; rfl
        simp only [decR, hb3, if_true, dec, hM1, hfinu, hM2, hz]
        rfl
      | some q =>
      obtain ⟨xw, t1⟩ := q
      have hx : okE xw := okE_of hr1
      refine xwp_bdrawn_to base7 ⟨frm [(2, some (.pointer (some ⟨0, 0, none⟩))), (3, some (.pointer (some ⟨1, 0, none⟩))), (4, some (.pointer (some ⟨2, 0, none⟩))), (31, some (.int .i64 (n2 : Int))), (32, some (.int .i64 (i : Int)))], wd [(0, some (.cells (gslV (rowB lp) lp.length :: .slice (some ⟨5, 0, none⟩) (l.length + 1) openCap :: zt) 34 (0, 0))), (1, some (.cells [.int .i64 0] 37 (0, 0))), (2, some (rdr t1)), (5, some (.cells (rowE (l ++ [xw])) 64 (0, 0)))] 6 [] 0, [.call 34 [] [.pointer (some ⟨0, 0, none⟩), .pointer (some ⟨1, 0, none⟩)]]⟩ ?hdw ?qdw
      case hdw =>
        rcases l with _ | ⟨p, l'⟩
        · have hlen := rowE_length (l := []) hok
          simp only [List.length_cons, List.length_nil] at hlen hi
          refine ⟨?rswx, ?swx, ?hwx, ?kwx, ?lwx⟩
          case hwx =>
            simp (disch := first | decide | omega | (simp only [List.length_cons, List.length_nil, List.length_append, length_bvs, List.length_take, List.length_drop]; omega)) only [traceX.eq_1, traceX.eq_2, trc1.eq_1, trcK.eq_1, trcK.eq_2, traceD_nil, traceD_t, traceD_f, holeK.eq_1, holeK.eq_2, T7, rdH_eq, rdO_eq, rmK.eq_1, rmK.eq_2, pTake_ok, pTake_no, hNeed.eq_1, hNeed.eq_2, pMany_eq, pCode_eq, pHash_eq, pDigits_eq, Option.map_some, Option.map_none, pEdit_eq, ev_c51, consNil, rdO_lit, hr1, okE_enc, one_slV, gsv.eq_1, growO.eq_1, rowE_snoc, rowE_nil, one_gslV, go_sem, Nat.reduceAdd, Nat.reduceMul, Nat.reduceSub]
            all_goals with_reducible rfl
          case kwx => kernel_rfl
          case lwx =>
            exact chle_lit (by simp (disch := decide) [AllLk, lk_hit, lk_miss, lk_nil]) (by simp (disch := decide) [AllLk, lk_hit, lk_miss, lk_nil, rowE_one]) (by decide)
        · have hlen := rowE_length (l := p :: l') hok
          simp only [List.length_cons, List.length_nil] at hlen hi
          refine ⟨?rswy, ?swy, ?hwy, ?kwy, ?lwy⟩
          case hwy =>
            simp (disch := first | decide | omega | (simp only [List.length_cons, List.length_nil, List.length_append, length_bvs, List.length_take, List.length_drop]; omega)) only [traceX.eq_1, traceX.eq_2, trc1.eq_1, trcK.eq_1, trcK.eq_2, traceD_nil, traceD_t, traceD_f, holeK.eq_1, holeK.eq_2, T7, rdH_eq, rdO_eq, rmK.eq_1, rmK.eq_2, pTake_ok, pTake_no, hNeed.eq_1, hNeed.eq_2, pMany_eq, pCode_eq, pHash_eq, pDigits_eq, Option.map_some, Option.map_none, pEdit_eq, ev_c51, consNil, rdO_lit, hr1, okE_enc, one_slV, gsv.eq_2, growO.eq_2, List.length_cons, rowE_snoc, one_gslV, go_sem, Nat.reduceAdd, Nat.reduceMul, Nat.reduceSub]
            all_goals with_reducible rfl
          case kwy => kernel_rfl
          case lwy =>
            exact chle_lit (by simp (disch := decide) [AllLk, lk_hit, lk_miss, lk_nil]) (by simp (disch := decide) [AllLk, lk_hit, lk_miss, lk_nil, rowE_snoc]) (by decide)
      case qdw =>
      refine xwp_region (e := ?e25) (s' := ?s25) base7 ?h25 ?q25
      case h25 =>
        simp (disch := first | decide | omega | (simp only [List.length_cons, List.length_nil, List.length_append, length_bvs, List.length_take, List.length_drop]; omega)) only [go_sem, Nat.reduceAdd, Nat.reduceMul, Nat.reduceSub]
        all_goals with_reducible rfl
      case q25 =>
      refine ⟨⟨i + 1, l ++ [xw], t1, by simp [hi], by omega, ?_, ?_⟩, by simp only; omega, ?_⟩
      · intro y hy
        rcases List.mem_append.1 hy with hy | hy
        · exact hok y hy
        · rw [List.mem_singleton.1 hy]; exact hx
      · rw [← heq, show n2 - i = (n2 - (i + 1)) + 1 by omega, rdL_ok hr1, Option.map_map]
        congr 1
        funext q
        simp
      · simp only [List.length_append, List.length_cons, List.length_nil, Nat.zero_add, gsv.eq_2, growO.eq_2]
        exact chle_ren_lit [(0, some 0), (1, some 1), (2, some 2), (5, some 3)] [(0, some 0), (1, some 1), (2, some 2), (3, some 5)] (by decide) (by decide) (by decide)
          (allTv_cons (v := .pointer (some ⟨0, 0, none⟩)) (by decide) (by simp (disch := first | decide | omega) only [lk_hit, lk_miss]) (tv_ptr (by simp (disch := first | decide | omega) only [lk_hit, lk_miss])) (allTv_cons (v := .pointer (some ⟨1, 0, none⟩)) (by decide) (by simp (disch := first | decide | omega) only [lk_hit, lk_miss]) (tv_ptr (by simp (disch := first | decide | omega) only [lk_hit, lk_miss])) (allTv_cons (v := .pointer (some ⟨2, 0, none⟩)) (by decide) (by simp (disch := first | decide | omega) only [lk_hit, lk_miss]) (tv_ptr (by simp (disch := first | decide | omega) only [lk_hit, lk_miss]))
            (allTv_cons (v := .int .i64 (n2 : Int)) (by decide) (by simp (disch := first | decide | omega) only [lk_hit, lk_miss]) (tv_flat 1 rfl) (allTv_cons (v := .int .i64 ((i + 1 : Nat) : Int)) (by decide) (by simp (disch := first | decide | omega) only [lk_hit, lk_miss]) (tv_flat 1 rfl) allTv_nil)))))
          (allTo_cons (o := .cells (gslV (rowB lp) lp.length :: .slice (some ⟨5, 0, none⟩) (l.length + 1) openCap :: zt) 34 (0, 0)) 0 (by simp (disch := first | decide | omega) only [lk_hit, lk_miss]) (by decide) (by decide) (by simp (disch := first | decide | omega) only [lk_hit, lk_miss]) (to_tvs (tvs_cons (bare_gslV (bares_rowB _) _ _ names_fz) (tvs_cons (tv_slice (by simp (disch := first | decide | omega) only [lk_hit, lk_miss])) (bares_zt _ names_fz))))
            (allTo_cons (o := .cells [.int .i64 0] 37 (0, 0)) 1 (by simp (disch := first | decide | omega) only [lk_hit, lk_miss]) (by decide) (by decide) (by simp (disch := first | decide | omega) only [lk_hit, lk_miss]) (to_bareO names_fz (bareO_bares (bares_cons (bare_flat 1 rfl) bares_nil)))
            (allTo_cons (o := rdr t1) 2 (by simp (disch := first | decide | omega) only [lk_hit, lk_miss]) (by decide) (by decide) (by simp (disch := first | decide | omega) only [lk_hit, lk_miss]) (to_bareO names_fz bareO_rdr)
            (allTo_cons (o := .cells (rowE (l ++ [xw])) 64 (0, 0)) 5 (by simp (disch := first | decide | omega) only [lk_hit, lk_miss]) (by decide) (by decide) (by simp (disch := first | decide | omega) only [lk_hit, lk_miss]) (to_bareO names_fz (bareO_bares (bares_rowE _))) allTo_nil))))
          (.call _ _ _ _ _ _ _ tvs_nil (tvs_cons (tv_ptr (by simp (disch := first | decide | omega) only [lk_hit, lk_miss])) (tvs_cons (tv_ptr (by simp (disch := first | decide | omega) only [lk_hit, lk_miss])) tvs_nil)) .nil)
    · refine xwp_seq (xwp_region (e := ?e26) (s' := ?s26) base7 ?h26 ?q26)
      case h26 =>
        simp (disch := first | decide | omega | (simp only [List.length_cons, List.length_nil, List.length_append, length_bvs, List.length_take, List.length_drop]; omega)) only [go_sem, Nat.reduceAdd, Nat.reduceMul, Nat.reduceSub]
        all_goals with_reducible rfl
      case q26 =>
      refine xwp_seq (xwp_cf ?h27 ?q27)
      case h27 =>
        simp (disch := first | decide | omega | (simp only [List.length_cons, List.length_nil, List.length_append, length_bvs, List.length_take, List.length_drop]; omega)) only [go_sem, Nat.reduceAdd, Nat.reduceMul, Nat.reduceSub]
        all_goals with_reducible rfl
      case q27 =>
      refine xwp_exit ?_
      have hin : n2 - i = 0 := by omega
      rw [hin] at heq
      have hfinw : rdL rdE n2 s4 = some (l, sL) := by rw [← heq]; simp [rdL]
      clear heq
      have hlb : l.length ≤ 1000 := by omega
      show XWp _ _ _ _ _ _
      refine xwp_le (ChLe.trans (freeze_row (c := rowE l) (d := gslV (rowB lp) lp.length :: gsv 3 l.length :: zt) (e := 64) (e2 := 34) (fr2 := (0, 0)) (k := l.length) (L' := [(0, some (.cells (gslV (rowB lp) lp.length :: gslV (rowE l) l.length :: zt) 34 (0, 0))), (1, some (.cells [.int .i64 0] 37 (0, 0))), (2, some (rdr sL))]) 3 0 1 (by simp (disch := first | decide | omega) only [lk_hit, lk_miss]) (by simp (disch := first | decide | omega) only [lk_hit, lk_miss]) rfl (by decide) (by decide) (by decide) (by decide) (by show l.length ≤ 4611686018427387904; omega) (.call _ _ _ _ _ _ _ tvs_same tvs_same .nil) (by simp (disch := decide) [AllLk, lk_hit, lk_miss, lk_nil]))
        (chle_lit (F' := [(2, some (.pointer (some ⟨0, 0, none⟩))), (3, some (.pointer (some ⟨1, 0, none⟩))), (4, some (.pointer (some ⟨2, 0, none⟩)))]) (L' := [(0, some (.cells (gslV (rowB lp) lp.length :: gslV (rowE l) l.length :: zt) 34 (0, 0))), (1, some (.cells [.int .i64 0] 37 (0, 0))), (2, some (rdr sL))]) (n' := 4) (lg' := []) (nl' := 0) (by simp (disch := decide) [AllLk, lk_hit, lk_miss, lk_nil]) (by simp (disch := decide) [AllLk, lk_hit, lk_miss, lk_nil]) (by decide))) ?_
      obtain ⟨le, hle⟩ : ∃ le, le = l := ⟨l, rfl⟩
      rw [← hle] at hfinw ⊢
      clear hle hok hi hN hlt hin hlb
      clear l i
      cases hB : rdB sL with
      | none =>
        refine xwp_seq (xwp_region (e := ?e28) (s' := ?s28) base7 ?h28 ?q28)
        case h28 =>
          simp (disch := first | decide | omega | (simp only [List.length_cons, List.length_nil, List.length_append, length_bvs, List.length_take, List.length_drop]; omega)) only [T7, rdH_eq, rdO_eq, rmK.eq_1, rmK.eq_2, pTake_ok, pTake_no, hNeed.eq_1, hNeed.eq_2, pMany_eq, pCode_eq, pHash_eq, pDigits_eq, Option.map_some, Option.map_none, pEdit_eq, ev_c51, consNil, rdO_lit, hB, go_sem, Nat.reduceAdd, Nat.reduceMul, Nat.reduceSub]
          all_goals with_reducible rfl
        case q28 =>
        refine dec_pan ⟨by simp (disch := first | decide | omega) only [lk_hit, lk_miss], by simp (disch := first | decide | omega) only [lk_hit, lk_miss]⟩ (by (simp (disch := first | decide | omega) only [lk_hit, lk_miss]; all_goals with_reducible rfl)) (by (simp (disch := first | decide | omega) only [lk_hit, lk_miss]; all_goals with_reducible rfl)) (by simp only [List.length_cons, List.length_append, List.length_nil, zt_len, length_bvs]; all_goals omega) rfl (by decide) (by decide) fun W => ?_
        simp only [decR, hb3, if_true, dec, hM1, hfinu, hM2, hfinw, hB]
        rfl
      | some q =>
      obtain ⟨tr, s6⟩ := q
      have htr : tr.length = 32 := okB_of hB
      refine xwp_seq (xwp_region (e := ?e29) (s' := ?s29) base7 ?h29 ?q29)
      case h29 =>
        simp (disch := first | decide | omega | (simp only [List.length_cons, List.length_nil, List.length_append, length_bvs, List.length_take, List.length_drop]; omega)) only [T7, rdH_eq, rdO_eq, rmK.eq_1, rmK.eq_2, pTake_ok, pTake_no, hNeed.eq_1, hNeed.eq_2, pMany_eq, pCode_eq, pHash_eq, pDigits_eq, Option.map_some, Option.map_none, pEdit_eq, ev_c51, consNil, rdO_lit, hB, htr, zt_drop, go_sem, Nat.reduceAdd, Nat.reduceMul, Nat.reduceSub]
        all_goals with_reducible rfl
      case q29 =>
      cases hM3 : rdM 65535 s6 with
      | none =>
        refine xwp_seq (xwp_region (e := ?e30) (s' := ?s30) base7 ?h30 ?q30)
        case h30 =>
          simp (disch := first | decide | omega | (simp only [List.length_cons, List.length_nil, List.length_append, length_bvs, List.length_take, List.length_drop]; omega)) only [T7, rdH_eq, rdO_eq, rmK.eq_1, rmK.eq_2, pTake_ok, pTake_no, hNeed.eq_1, hNeed.eq_2, pMany_eq, pCode_eq, pHash_eq, pDigits_eq, Option.map_some, Option.map_none, pEdit_eq, ev_c51, consNil, rdO_lit, hM3, go_sem, Nat.reduceAdd, Nat.reduceMul, Nat.reduceSub]
          all_goals with_reducible rfl
        case q30 =>
        refine dec_pan ⟨by simp (disch := first | decide | omega) only [lk_hit, lk_miss], by simp (disch := first | decide | omega) only [lk_hit, lk_miss]⟩ (by (simp (disch := first | decide | omega) only [lk_hit, lk_miss]; all_goals with_reducible rfl)) (by (simp (disch := first | decide | omega) only [lk_hit, lk_miss]; all_goals with_reducible rfl)) (by simp only [List.length_cons, List.length_append, List.length_nil, zt_len, length_bvs]; all_goals omega) rfl (by decide) (by decide) fun W => ?_
        simp only [decR, hb3, if_true, dec, hM1, hfinu, hM2, hfinw, hB, hM3]
        rfl
      | some q =>
      obtain ⟨k, s7⟩ := q
      by_cases hk : k ≤ s7.length
      · refine xwp_seq (xwp_region (e := ?e31) (s' := ?s31) base7 ?h31 ?q31)
        case h31 =>
          simp (disch := first | decide | omega | (simp only [List.length_cons, List.length_nil, List.length_append, length_bvs, List.length_take, List.length_drop]; omega)) only [T7, rdH_eq, rdO_eq, rmK.eq_1, rmK.eq_2, pTake_ok, pTake_no, hNeed.eq_1, hNeed.eq_2, pMany_eq, pCode_eq, pHash_eq, pDigits_eq, Option.map_some, Option.map_none, pEdit_eq, ev_c51, consNil, rdO_lit, hM3, hk, htr, tk32 htr, dr33 htr, go_sem, Nat.reduceAdd, Nat.reduceMul, Nat.reduceSub]
          all_goals with_reducible rfl
        case q31 =>
        by_cases hz : s7.drop k = []
        · refine xwp_seq (xwp_region (e := ?e32) (s' := ?s32) base7 ?h32 ?q32)
          case h32 =>
            simp (disch := first | decide | omega | (simp only [List.length_cons, List.length_nil, List.length_append, length_bvs, List.length_take, List.length_drop]; omega)) only [T7, rdH_eq, rdO_eq, rmK.eq_1, rmK.eq_2, pTake_ok, pTake_no, hNeed.eq_1, hNeed.eq_2, pMany_eq, pCode_eq, pHash_eq, pDigits_eq, Option.map_some, Option.map_none, pEdit_eq, ev_c51, consNil, rdO_lit, rdr, hz, htr, str0, go_sem, Nat.reduceAdd, Nat.reduceMul, Nat.reduceSub]
            all_goals with_reducible rfl
          case q32 =>
          refine xwp_seq (xwp_region (e := ?e33) (s' := ?s33) base7 ?h33 ?q33)
          case h33 =>
            simp (disch := first | decide | omega | (simp only [List.length_cons, List.length_nil, List.length_append, length_bvs, List.length_take, List.length_drop]; omega)) only [htr, one_gslV, List.drop_eq_nil_of_le, List.all_append, go_sem, Nat.reduceAdd, Nat.reduceMul, Nat.reduceSub]
            all_goals with_reducible rfl
          case q33 =>
          refine xwp_ret ?_
          refine dec_ret ⟨by simp (disch := first | decide | omega) only [lk_hit, lk_miss], by simp (disch := first | decide | omega) only [lk_hit, lk_miss]⟩ (by (simp (disch := first | decide | omega) only [lk_hit, lk_miss]; all_goals with_reducible rfl)) (by (simp (disch := first | decide | omega) only [lk_hit, lk_miss]; all_goals with_reducible rfl)) (by simp only [List.length_cons, List.length_append, List.length_nil, zt_len, length_bvs]; all_goals omega) (by decide) (by decide) fun W => ?_
          simp only [decR, hb3, if_true, dec, hM1, hfinu, hM2, hfinw, hB, hM3, hk, hz, and_self]
          rfl
        · refine xwp_seq (xwp_region (e := ?e34) (s' := ?s34) base7 ?h34 ?q34)
          case h34 =>
            simp (disch := first | decide | omega | (simp only [List.length_cons, List.length_nil, List.length_append, length_bvs, List.length_take, List.length_drop]; omega)) only [T7, rdH_eq, rdO_eq, rmK.eq_1, rmK.eq_2, pTake_ok, pTake_no, hNeed.eq_1, hNeed.eq_2, pMany_eq, pCode_eq, pHash_eq, pDigits_eq, Option.map_some, Option.map_none, pEdit_eq, ev_c51, consNil, rdO_lit, rdr, hz, htr, str0, go_sem, Nat.reduceAdd, Nat.reduceMul, Nat.reduceSub]
            all_goals with_reducible rfl
          case q34 =>
          refine dec_pan ⟨by simp (disch := first | decide | omega) only [lk_hit, lk_miss], by simp (disch := first | decide | omega) only [lk_hit, lk_miss]⟩ (by (simp (disch := first | decide | omega) only [lk_hit, lk_miss]; all_goals with_reducible rfl)) (by (simp (disch := first | decide | omega) only [lk_hit, lk_miss]; all_goals with_reducible rfl)) (by simp only [List.length_cons, List.length_append, List.length_nil, zt_len, length_bvs]; all_goals omega) rfl (by decide) (by decide) fun W => ?_
          simp only [decR, hb3, if_true, dec, hM1, hfinu, hM2, hfinw, hB, hM3, hz, and_false, if_false]
          rfl
      · refine xwp_seq (xwp_region (e := ?e35) (s' := ?s35) base7 ?h35 ?q35)
        case h35 =>
          simp (disch := first | decide | omega | (simp only [List.length_cons, List.length_nil, List.length_append, length_bvs, List.length_take, List.length_drop]; omega)) only [T7, rdH_eq, rdO_eq, rmK.eq_1, rmK.eq_2, pTake_ok, pTake_no, hNeed.eq_1, hNeed.eq_2, pMany_eq, pCode_eq, pHash_eq, pDigits_eq, Option.map_some, Option.map_none, pEdit_eq, ev_c51, consNil, rdO_lit, hM3, hk, go_sem, Nat.reduceAdd, Nat.reduceMul, Nat.reduceSub]
          all_goals with_reducible rfl
        case q35 =>
        refine dec_pan ⟨by simp (disch := first | decide | omega) only [lk_hit, lk_miss], by simp (disch := first | decide | omega) only [lk_hit, lk_miss]⟩ (by (simp (disch := first | decide | omega) only [lk_hit, lk_miss]; all_goals with_reducible rfl)) (by (simp (disch := first | decide | omega) only [lk_hit, lk_miss]; all_goals with_reducible rfl)) (by simp only [List.length_cons, List.length_append, List.length_nil, zt_len, length_bvs]; all_goals omega) rfl (by decide) (by decide) fun W => ?_
        simp only [decR, hb3, if_true, dec, hM1, hfinu, hM2, hfinw, hB, hM3, hk, false_and, if_false]
        rfl
end Go.Proofs.YthlkgmdkabelpaaGreatDoor.X
namespace Go.Proofs.YthlkgmdkabelpaaGreatDoor.X
open Go Go.RowKit
def rfo (s : List UInt8) (t : Bool) : XObj := .cells [.string (str s), .bool t] 103 (0, 0)
theorem bareO_rfo {P : Program} {s : List UInt8} {t : Bool} : BareO P (rfo s t) := bareO_bares (bares_cons bare_str (bares_cons (bare_flat 1 rfl) bares_nil))
abbrev PF := List Value → List UInt8 → Bool → Option (Value × List UInt8 × Bool)
def rgK (W : XW) (n : Nat) : Option (Value × List UInt8 × Bool) → Option (XEnd × XW)
  | some (v, s, t) => some (.ret v, W.put n (some (rfo s t)))
  | none => none
def rgO (p : PF) (xs : List Value) (W : XW) (n : Nat) : Option XObj → Option (XEnd × XW)
  | some (.cells [.string b, .bool t] e (0, 0)) => bif Nat.beq e 103 then rgK W n (p xs b.data.toList t) else none
  | _ => none
def rgH (p : PF) : HF := fun args W => match args with
  | .pointer (some ⟨n, 0, none⟩) :: xs => rgO p xs W n (W.get n)
  | _ => none
section
variable {p : PF} {xs : List Value} {W : XW} {n : Nat} {s : List UInt8} {t : Bool}
theorem rgH_eq : rgH p (.pointer (some ⟨n, 0, none⟩) :: xs) W = rgO p xs W n (W.get n) := rfl
theorem rgO_eq : rgO p xs W n (some (rfo s t)) = rgK W n (p xs s t) := by
  unfold rgO rfo
  simp only [Nat.beq_refl, cond_true, str_list]
theorem rgO_lit : rgO p xs W n (some (.cells [.string (str s), .bool t] 103 (0, 0))) = rgK W n (p xs s t) := rgO_eq
theorem rgH_ok {f : FuncId} (he : Enters Tryz.prog f) (hb : ∀ xs s t v s' t', p xs s t = some (v, s', t') → Bares xs ∧ Bare v)
    (hl : ∀ xs s t v s' t', p xs s t = some (v, s', t') → Local Tryz.prog f (.pointer (some ⟨0, 0, none⟩) :: xs) (wd [(0, some (rfo s t))] 1 [] 0) fun e W' => e = .ret v ∧ W'.get 0 = some (rfo s' t')) : HookOk Tryz.prog f (rgH p) := by
  have key : ∀ args W e W', rgH p args W = some (e, W') → ∃ n xs s t v s' t', args = .pointer (some ⟨n, 0, none⟩) :: xs ∧ W.get n = some (rfo s t) ∧ p xs s t = some (v, s', t') ∧ e = .ret v ∧ W' = W.put n (some (rfo s' t')) := fun args W e W' h => by
    unfold rgH at h
    split at h
    · rename_i n xs
      unfold rgO at h
      split at h
      · rename_i b t u hg
        cases hu : Nat.beq u 103 with
        | false => rw [hu] at h; cases h
        | true =>
          rw [hu] at h
          have := Nat.eq_of_beq_eq_true hu
          subst this
          simp only [cond_true] at h
          cases hp : p xs b.data.toList t with
          | none => rw [hp] at h; cases h
          | some x =>
            obtain ⟨v, s', t'⟩ := x
            rw [hp] at h
            cases h
            exact ⟨n, xs, b.data.toList, t, v, s', t', rfl, by rw [hg, rfo, str_data], hp, rfl, rfl⟩
      · cases h
    · cases h
  refine ⟨he, fun args W e W' h => ?_, fun args W e W' h => ?_⟩
  · obtain ⟨n, xs, s, t, v, s', t', _, _, _, _, rfl⟩ := key _ _ _ _ h
    exact .put _ _ _
  · obtain ⟨n, xs, s, t, v, s', t', rfl, hg, hp, rfl, rfl⟩ := key _ _ _ _ h
    have ha : TVs (Names (only n)) (.pointer (some ⟨n, 0, none⟩) :: xs) (.pointer (some ⟨0, 0, none⟩) :: xs) := tvs_cons (tv_ptr only_same) ((hb _ _ _ _ _ _ hp).1 _ names_fz)
    exact call_one hg bareO_rfo ha (hl _ _ _ _ _ _ hp) (fun e' W' hS => hS) bareO_rfo (hb _ _ _ _ _ _ hp).2
end
/-! ### take -/
def fTake (k : Nat) (s : List UInt8) (t : Bool) : List UInt8 × List UInt8 × Bool := if k ≤ s.length then (s.take k, s.drop k, t) else ([], [], true)
def pfTake : PF := fun xs s t => match xs with
  | [.int .i64 (.ofNat k)] => some (.string (str (fTake k s t).1), (fTake k s t).2.1, (fTake k s t).2.2)
  | _ => none
theorem pfTake_ok {k : Nat} {s : List UInt8} {t : Bool} (h : k ≤ s.length) : pfTake [.int .i64 (k : Int)] s t = some (.string (str (s.take k)), s.drop k, t) := by
  show some (Value.string (str (fTake k s t).1), (fTake k s t).2.1, (fTake k s t).2.2) = _
  rw [fTake, if_pos h]
theorem pfTake_no {k : Nat} {s : List UInt8} {t : Bool} (h : s.length < k) : pfTake [.int .i64 (k : Int)] s t = some (.string (str []), [], true) := by
  show some (Value.string (str (fTake k s t).1), (fTake k s t).2.1, (fTake k s t).2.2) = _
  rw [fTake, if_neg (by omega)]
theorem fTakeLocal (s : List UInt8) (t : Bool) (n : Nat) : Local Tryz.prog 43 [.pointer (some ⟨0, 0, none⟩), .int .i64 n] (wd [(0, some (rfo s t))] 1 [] 0) fun e W' =>
    e = .ret (.string (str (fTake n s t).1)) ∧ W'.get 0 = some (rfo (fTake n s t).2.1 (fTake n s t).2.2) := by
  refine lit_local base0 Tryz.func43 rfl (Nat.le_of_ble_eq_true rfl) ?_
  simp only [frOfL.eq_1, frOfL.eq_2, wd_next, Tryz.ntmps43, Nat.reduceAdd]
  refine xwp_seq (xwp_region (e := ?e1) (s' := ?s1) base0 ?h1 ?q1)
  case h1 =>
    simp (disch := first | decide | omega | (simp only [List.length_cons, List.length_nil, List.length_append, length_bvs, List.length_take, List.length_drop]; omega)) only [go_sem, Nat.reduceAdd, Nat.reduceMul, Nat.reduceSub]
    all_goals with_reducible rfl
  case q1 =>
  refine xwp_seq ?_
  refine xwp_seq (xwp_region (e := ?e2) (s' := ?s2) base0 ?h2 ?q2)
  case h2 =>
    simp (disch := first | decide | omega | (simp only [List.length_cons, List.length_nil, List.length_append, length_bvs, List.length_take, List.length_drop]; omega)) only [rfo, go_sem, Nat.reduceAdd, Nat.reduceMul, Nat.reduceSub]
    all_goals with_reducible rfl
  case q2 =>
  by_cases hn : n ≤ s.length
  · rw [fTake, if_pos hn]
    refine xwp_cf ?h3 ?q3
    case h3 =>
      simp (disch := first | decide | omega | (simp only [List.length_cons, List.length_nil, List.length_append, length_bvs, List.length_take, List.length_drop]; omega)) only [go_sem, Nat.reduceAdd, Nat.reduceMul, Nat.reduceSub]
      all_goals with_reducible rfl
    case q3 =>
    refine xwp_skip ?_
    refine xwp_seq (xwp_region (e := ?e4) (s' := ?s4) base0 ?h4 ?q4)
    case h4 =>
      simp (disch := first | decide | omega | (simp only [List.length_cons, List.length_nil, List.length_append, length_bvs, List.length_take, List.length_drop]; omega)) only [rfo, go_sem, Nat.reduceAdd, Nat.reduceMul, Nat.reduceSub]
      all_goals with_reducible rfl
    case q4 =>
    refine xwp_seq (xwp_region (e := ?e5) (s' := ?s5) base0 ?h5 ?q5)
    case h5 =>
      simp (disch := first | decide | omega | (simp only [List.length_cons, List.length_nil, List.length_append, length_bvs, List.length_take, List.length_drop]; omega)) only [rfo, go_sem, Nat.reduceAdd, Nat.reduceMul, Nat.reduceSub]
      all_goals with_reducible rfl
    case q5 =>
    refine xwp_seq (xwp_region (e := ?e6) (s' := ?s6) base0 ?h6 ?q6)
    case h6 =>
      simp (disch := first | decide | omega | (simp only [List.length_cons, List.length_nil, List.length_append, length_bvs, List.length_take, List.length_drop]; omega)) only [go_sem, Nat.reduceAdd, Nat.reduceMul, Nat.reduceSub]
      all_goals with_reducible rfl
    case q6 =>
    refine xwp_ret ?_
    refine ⟨_, ?e7, ?W7, rfl, ?h7, ?q7⟩
    case h7 =>
      simp (disch := first | decide | omega | (simp only [List.length_cons, List.length_nil, List.length_append, length_bvs, List.length_take, List.length_drop]; omega)) only [Tryz.results43, go_sem, Nat.reduceAdd, Nat.reduceMul, Nat.reduceSub]
      all_goals with_reducible rfl
    case q7 =>
    exact ⟨rfl, by simp (disch := first | decide | omega | (simp only [List.length_cons, List.length_nil, List.length_append, length_bvs, List.length_take, List.length_drop]; omega)) only [rfo, go_sem, Nat.reduceAdd, Nat.reduceMul, Nat.reduceSub]⟩
  · rw [fTake, if_neg hn]
    refine xwp_ct ?h8 ?q8
    case h8 =>
      simp (disch := first | decide | omega | (simp only [List.length_cons, List.length_nil, List.length_append, length_bvs, List.length_take, List.length_drop]; omega)) only [go_sem, Nat.reduceAdd, Nat.reduceMul, Nat.reduceSub]
      all_goals with_reducible rfl
    case q8 =>
    refine xwp_seq (xwp_region (e := ?e9) (s' := ?s9) base0 ?h9 ?q9)
    case h9 =>
      simp (disch := first | decide | omega | (simp only [List.length_cons, List.length_nil, List.length_append, length_bvs, List.length_take, List.length_drop]; omega)) only [rfo, go_sem, Nat.reduceAdd, Nat.reduceMul, Nat.reduceSub]
      all_goals with_reducible rfl
    case q9 =>
    refine xwp_seq (xwp_region (e := ?e10) (s' := ?s10) base0 ?h10 ?q10)
    case h10 =>
      simp (disch := first | decide | omega | (simp only [List.length_cons, List.length_nil, List.length_append, length_bvs, List.length_take, List.length_drop]; omega)) only [rfo, go_sem, Nat.reduceAdd, Nat.reduceMul, Nat.reduceSub]
      all_goals with_reducible rfl
    case q10 =>
    refine xwp_seq (xwp_region (e := ?e11) (s' := ?s11) base0 ?h11 ?q11)
    case h11 =>
      simp (disch := first | decide | omega | (simp only [List.length_cons, List.length_nil, List.length_append, length_bvs, List.length_take, List.length_drop]; omega)) only [go_sem, Nat.reduceAdd, Nat.reduceMul, Nat.reduceSub]
      all_goals with_reducible rfl
    case q11 =>
    refine xwp_ret ?_
    refine ⟨_, ?e12, ?W12, rfl, ?h12, ?q12⟩
    case h12 =>
      simp (disch := first | decide | omega | (simp only [List.length_cons, List.length_nil, List.length_append, length_bvs, List.length_take, List.length_drop]; omega)) only [Tryz.results43, go_sem, Nat.reduceAdd, Nat.reduceMul, Nat.reduceSub]
      all_goals with_reducible rfl
    case q12 =>
    exact ⟨rfl, by simp (disch := first | decide | omega | (simp only [List.length_cons, List.length_nil, List.length_append, length_bvs, List.length_take, List.length_drop]; omega)) only [rfo, go_sem, Nat.reduceAdd, Nat.reduceMul, Nat.reduceSub]⟩
theorem okFTake : HookOk Tryz.prog 43 (rgH pfTake) := rgH_ok (enters_of (by kernel_rfl)) (fun xs s t v s' t' h => by
    unfold pfTake at h
    split at h
    · cases h; exact ⟨bares_cons (bare_flat 1 rfl) bares_nil, bare_str⟩
    · cases h) (fun xs s t v s' t' h => by
    unfold pfTake at h
    split at h
    · cases h; exact fTakeLocal s t _
    · cases h)
noncomputable def T8 : List (FuncId × HF) := [(43, rgH pfTake)]
theorem base8 : Base Tryz.prog (hooksOf T8 []) := ⟨mixed, hooksOf_sim (.cons _ _ _ okFTake .nil) .nil⟩
end Go.Proofs.YthlkgmdkabelpaaGreatDoor.X
