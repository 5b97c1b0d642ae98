/-
  sanity17: every call returns true and leaves alone what was there.
  CommitCodes: what the law calls, as hooks.
  No condition.
-/
import Derived.Test.YthlkgmdkabelpaaGreatDoorKP1
import Derived.Test.YthlkgmdkabelpaaGreatDoorKP2
import Derived.Test.YthlkgmdkabelpaaGreatDoorKP3
import Derived.Test.YthlkgmdkabelpaaGreatDoorKP4
import Derived.Test.YthlkgmdkabelpaaGreatDoorKP5
import Derived.Test.YthlkgmdkabelpaaGreatDoorKP6
import Derived.Test.YthlkgmdkabelpaaGreatDoorKI
import Derived.Test.YthlkgmdkabelpaaGreatDoorKH
import Derived.Test.YthlkgmdkabelpaaGreatDoorKF
set_option linter.all false
set_option linter.unusedVariables false
set_option linter.unusedSimpArgs false
namespace Go.Proofs.YthlkgmdkabelpaaGreatDoor.X
open Go Go.RowKit
theorem tsanity17 : (Tryz.prog.funcs[5]?).map (fun fn => (fn.ntmps, fn.body.isSome)) = some (129, true) := by kernel_rfl
theorem sanity17 (w : World) : Calls Tryz.prog 5 #[] w fun e w' => e = .returned (.bool true) ∧ Keeps noBlock w w' := by
  obtain ⟨fn, hf, ht⟩ := Option.map_eq_some_iff.1 tsanity17
  obtain ⟨h1, h2⟩ := Prod.mk.inj ht
  cases hb : fn.body with
  | none => rw [hb] at h2; cases h2
  | some c =>
    refine callsCut hf hb ?_
    rw [h1]
    show ∀ a, ChC Tryz.prog 129 w (lit [] [] 0) a w → wpL Fence.wide 0 Tryz.prog (bodyPost Tryz.prog fn fun e w' => e = .returned (.bool true) ∧ Keeps noBlock w w') (pcssanity17.drop 0) a w
    have hC : SimC Tryz.prog runsanity17 := (xrun_sim mixed (hooks17_are 100000) (drawn_sim mixed) 100000).1
    have k0 := csanity17_0
    have k3 := csanity17_3
    have k5 := csanity17_5
    have k6 := csanity17_6
    have k8 := csanity17_8
    have k11 := csanity17_11
    rw [hf] at k11
    generalize runsanity17 = R at hC k0 k3 k5 k6 k8 k11
    generalize pcssanity17 = pcs at *
    have go : ∀ a w', ChC Tryz.prog 129 w (lit [] [] 0) a w' → wpL Fence.wide 0 Tryz.prog (bodyPost Tryz.prog fn fun e w' => e = .returned (.bool true) ∧ Keeps noBlock w w') (pcs.drop 0) a w' := fun a w hc => cutL (i := 0) (k := 3) hC k0 (fun a w hc => cutL (i := 3) (k := 2) hC k3 (fun a w hc => cutL (i := 5) (k := 1) hC k5 (fun a w hc => cutL (i := 6) (k := 2) hC k6 (fun a w hc => cutL (i := 8) (k := 3) hC k8 (fun a w hc => cutEnd hC (fn := fn) k11 (fun w' hk => ⟨rfl, hk⟩) hc) hc) hc) hc) hc) hc
    exact fun a hc => go a w hc
end Go.Proofs.YthlkgmdkabelpaaGreatDoor.X
namespace Go.Proofs.YthlkgmdkabelpaaGreatDoor.X
open Go Go.RowKit
theorem rdP_len : ∀ {n : Nat} {s s' : List UInt8} {l : List (Int × Int)}, rdP n s = some (l, s') → l.length = n
  | 0, s, s', l, h => by cases h; rfl
  | n + 1, s, s', l, h => by
    unfold rdP at h
    cases h1 : rdI s with
    | none => rw [h1] at h; cases h
    | some q =>
      obtain ⟨a, s1⟩ := q
      rw [h1] at h
      simp only at h
      cases h2 : rdI s1 with
      | none => rw [h2] at h; cases h
      | some q =>
        obtain ⟨b, s2⟩ := q
        rw [h2] at h
        simp only at h
        cases h3 : rdP n s2 with
        | none => rw [h3] at h; cases h
        | some q =>
          obtain ⟨l', s3⟩ := q
          rw [h3] at h
          cases h
          rw [List.length_cons, rdP_len h3]
theorem rdL_len {α : Type} {p : List UInt8 → Option (α × List UInt8)} {ok : α → Prop} (hp : ∀ s a s', p s = some (a, s') → ok a) : ∀ {n : Nat} {s s' : List UInt8} {l : List α}, rdL p n s = some (l, s') → l.length = n ∧ ∀ x ∈ l, ok x
  | 0, s, s', l, h => by cases h; exact ⟨rfl, fun _ h => by cases h⟩
  | n + 1, s, s', l, h => by
    unfold rdL at h
    cases h1 : p s with
    | none => rw [h1] at h; cases h
    | some q =>
      obtain ⟨a, s1⟩ := q
      rw [h1] at h
      simp only at h
      cases h3 : rdL p n s1 with
      | none => rw [h3] at h; cases h
      | some q =>
        obtain ⟨l', s3⟩ := q
        rw [h3] at h
        cases h
        obtain ⟨k1, k2⟩ := rdL_len hp h3
        refine ⟨by rw [List.length_cons, k1], fun x hx => ?_⟩
        rcases List.mem_cons.1 hx with rfl | hx
        · exact hp _ _ _ h1
        · exact k2 x hx
theorem rdE_ok {s s' : List UInt8} {e : EditL} (h : rdE s = some (e, s')) : OkE e := by
  unfold rdE at h
  split at h
  · cases h
  split at h
  · cases h
  split at h
  · cases h
  split at h
  · cases h
  split at h
  · cases h
  split at h
  · cases h
  rename_i n s6 hm1
  split at h
  · cases h
  rename_i l s7 hp1
  split at h
  · cases h
  rename_i m s8 hm2
  split at h
  · cases h
  rename_i r s9 hp2
  cases h
  exact ⟨by show l.length ≤ 4000; rw [rdP_len hp1]; exact rdM_le hm1, by show r.length ≤ 4000; rw [rdP_len hp2]; exact rdM_le hm2⟩
theorem dec_ok {s : List UInt8} {c : CommitL} (h : dec s = some c) : OkC c := by
  unfold dec at h
  split at h
  · cases h
  rename_i n1 s2 hm1
  split at h
  · cases h
  rename_i ps s3 hl1
  split at h
  · cases h
  rename_i n2 s4 hm2
  split at h
  · cases h
  rename_i es s5 hl2
  split at h
  · cases h
  rename_i tr s6 hb
  split at h
  · cases h
  rename_i k s7 hm3
  split at h
  · cases h
    obtain ⟨a1, a2⟩ := rdL_len (ok := okB) (fun s a s' q => okB_of q) hl1
    obtain ⟨b1, b2⟩ := rdL_len (ok := OkE) (fun s a s' q => rdE_ok q) hl2
    have c1 := rdM_le hm1
    have c2 := rdM_le hm2
    exact ⟨okB_of hb, a2, by show ps.length ≤ 1000; omega, by show es.length ≤ 1000; omega, b2⟩
  · cases h
def zeroC : CommitL := ⟨[], [], List.replicate 32 0, []⟩
theorem okC_zero : OkC zeroC := ⟨rfl, fun _ h => (by cases h), Nat.zero_le _, Nat.zero_le _, fun _ h => (by cases h)⟩
theorem zeroCm_zC : zeroCm = .agg (encC zeroC).toArray := rfl
def decP : List UInt8 → CommitL × Int
  | [] => (zeroC, 51)
  | b :: s => if b = 3 then (match dec s with
    | some c => (c, 0)
    | none => (zeroC, 11)) else (zeroC, 51)
theorem decP_yes {b : UInt8} {s : List UInt8} (h : b = 3) : decP (b :: s) = (match dec s with
    | some c => (c, 0)
    | none => (zeroC, 11)) := by unfold decP; exact if_pos h
theorem decP_no {b : UInt8} {s : List UInt8} (h : ¬ b = 3) : decP (b :: s) = (zeroC, 51) := by unfold decP; exact if_neg h
theorem decR_eq (s : List UInt8) : decR s = .tuple #[.agg (encC (decP s).1).toArray, .int .i64 (decP s).2] := by
  cases s with
  | nil => rfl
  | cons b s =>
    by_cases hb : b = 3
    · rw [decP_yes hb]
      show (if b = 3 then decV (dec s) else .tuple #[zeroCm, errV 51]) = _
      rw [if_pos hb]
      cases dec s <;> rfl
    · rw [decP_no hb]
      show (if b = 3 then decV (dec s) else .tuple #[zeroCm, errV 51]) = _
      rw [if_neg hb]
      rfl
theorem decP_ok (s : List UInt8) : OkC (decP s).1 := by
  cases s with
  | nil => exact okC_zero
  | cons b s =>
    by_cases hb : b = 3
    · rw [decP_yes hb]
      cases h : dec s with
      | none => exact okC_zero
      | some c => exact dec_ok h
    · rw [decP_no hb]
      exact okC_zero
def pDec : List Value → Option Value := fun xs => match xs with
  | [.string b] => some (.tuple #[.agg (encC (decP b.data.toList).1).toArray, .int .i64 (decP b.data.toList).2])
  | _ => none
theorem pDec_eq {s : List UInt8} : pDec [.string (str s)] = some (.tuple #[.agg (encC (decP s).1).toArray, .int .i64 (decP s).2]) := rfl
theorem pDec_inv {xs : List Value} {v : Value} (h : pDec xs = some v) : ∃ s, xs = [.string (str s)] ∧ v = decR s := by
  unfold pDec at h
  split at h
  · rename_i b
    cases h
    exact ⟨b.data.toList, by rw [str_data], (decR_eq _).symm⟩
  · cases h
theorem bare_decR (s : List UInt8) : Bare (decR s) := by
  rw [decR_eq]
  exact bare_tuple (bares_cons (bare_agg (bares_encC _)) (bares_cons (bare_flat 1 rfl) bares_nil))
theorem okDec : HookOk Tryz.prog 9 (pureH pDec) := pureH_ok (enters_of (by kernel_rfl)) (fun xs v h => by
    obtain ⟨s, rfl, rfl⟩ := pDec_inv h
    exact ⟨bares_cons bare_str bares_nil, bare_decR s⟩) (fun xs v h => by
    obtain ⟨s, rfl, rfl⟩ := pDec_inv h
    exact decodeLocal s)
theorem okFDec : HookOk Tryz.prog 11 (pureH pDec) := pureH_ok (enters_of (by kernel_rfl)) (fun xs v h => by
    obtain ⟨s, rfl, rfl⟩ := pDec_inv h
    exact ⟨bares_cons bare_str bares_nil, bare_decR s⟩) (fun xs v h => by
    obtain ⟨s, rfl, rfl⟩ := pDec_inv h
    have := fDecodeLocal s
    rw [fDecR_eq] at this
    exact this)
open Classical in
noncomputable def pSame : List Value → Option Value := fun xs => if ∃ c : CommitL, OkC c ∧ xs = [.agg (encC c).toArray, .agg (encC c).toArray] then some (.bool true) else none
theorem pSame_eq {c : CommitL} (hc : OkC c) : pSame [.agg (encC c).toArray, .agg (encC c).toArray] = some (.bool true) := if_pos ⟨c, hc, rfl⟩
theorem okSame : HookOk Tryz.prog 10 (pureH pSame) := by
  have inv : ∀ xs v, pSame xs = some v → ∃ c : CommitL, OkC c ∧ xs = [.agg (encC c).toArray, .agg (encC c).toArray] ∧ v = .bool true := fun xs v h => by
    unfold pSame at h
    split at h
    · rename_i hx
      obtain ⟨c, hc, hq⟩ := hx
      cases h
      exact ⟨c, hc, hq, rfl⟩
    · cases h
  refine pureH_ok (enters_of (by kernel_rfl)) (fun xs v h => ?_) (fun xs v h => ?_)
  · obtain ⟨c, hc, rfl, rfl⟩ := inv _ _ h
    exact ⟨bares_cons (bare_agg (bares_encC c)) (bares_cons (bare_agg (bares_encC c)) bares_nil), bare_flat 1 rfl⟩
  · obtain ⟨c, hc, rfl, rfl⟩ := inv _ _ h
    exact sameLocal c hc
theorem okSan : HookOk Tryz.prog 5 (pureH (pOne [] (.bool true))) := by
  refine okOne (enters_of (by kernel_rfl)) bares_nil (bare_flat 1 rfl) fun ρ args' w m hfr hH hA => ?_
  cases hA
  refine CallsIn.mono (callsIn_wide.2 (sanity17 w)) fun e w' ⟨he, hk⟩ => ?_
  subst he
  exact ⟨_, wd [] 0 [] 0, rfl, ρ, .keep hk, hH.keep hk, .flat 1 _ rfl⟩
theorem encB_len {c : CommitL} (hc : OkC c) (hr : ∀ x ∈ c.edits, RgE x) (hcan : canE c) : (encB c).length ≤ 200200000 := by
  obtain ⟨h8, htx⟩ := hcan
  have d1 := dU_len10 (n := c.parents.length) (by omega)
  have hne := hc.ne
  have d2 := dU_len10 (n := c.edits.length) (by omega)
  have d3 := dU_len10 (n := c.text.length) (by omega)
  have f1 := flat_len (f := id) (m := 32) (l := c.parents) fun x hx => by rw [id, hc.p x hx]; exact Nat.le_refl _
  have f2 := flat_len (f := encEd) (m := 200000) (l := c.edits) fun x hx => encEd_len (hc.e x hx) (hr x hx)
  have ht := hc.t
  unfold encB
  simp only [List.length_append, List.length_cons]
  omega
theorem encR_len {c : CommitL} (hc : OkC c) (hr : ∀ x ∈ c.edits, RgE x) : (encR c).length ≤ 200200000 := by
  unfold encR
  split
  · exact encB_len hc hr (by assumption)
  · exact Nat.zero_le _
theorem rgE_mkE {x : MadeL} (hn : ∀ n ∈ x.es, I64 n.a0 ∧ I64 n.a1 ∧ I64 n.a2 ∧ I64 n.a3 ∧ I64 n.a4 ∧ I64 n.a5 ∧ I64 n.a6) : ∀ e ∈ (mkC x).edits, RgE e := fun e he => by
  obtain ⟨n, hm, rfl⟩ := List.mem_map.1 he
  obtain ⟨h0, h1, h2, h3, h4, h5, h6⟩ := hn n (List.mem_of_mem_take hm)
  refine ⟨h0, h1, h2, h3, h4, ?_, ?_⟩
  · show ∀ x ∈ mkS n, I64 x.1 ∧ I64 x.2
    unfold mkS
    split
    · intro x hx
      simp only [List.mem_cons, List.not_mem_nil, or_false] at hx
      rcases hx with rfl | rfl
      · exact ⟨h5, h6⟩
      · exact ⟨h6, by show I64 1; unfold I64; decide⟩
    · intro x hx; cases hx
  · show ∀ x ∈ mkP n, I64 x.1 ∧ I64 x.2
    unfold mkP
    split
    · intro x hx
      simp only [List.mem_cons, List.not_mem_nil, or_false] at hx
      subst hx
      exact ⟨h5, h6⟩
    · intro x hx; cases hx
end Go.Proofs.YthlkgmdkabelpaaGreatDoor.X
