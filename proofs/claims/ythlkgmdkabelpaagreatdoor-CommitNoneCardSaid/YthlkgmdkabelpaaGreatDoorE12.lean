/-
  What an operation changes of the abstract heap, and that it reads no more when more is there. Over any program. No condition.
-/
import Derived.Test.YthlkgmdkabelpaaGreatDoorE11
namespace Go.Proofs.YthlkgmdkabelpaaGreatDoor.X
open Go Go.RowKit
set_option linter.unusedVariables false

/-- from W to W': the log tells what has changed -/
structure Ext (W W' : XW) : Prop where
  next : W.next ≤ W'.next
  log : ∃ l, W'.log = l ++ W.log ∧ W'.nlog = W.nlog + l.length ∧ ∀ n, n ∉ l → n < W.next → W'.get n = W.get n
theorem Ext.refl (W : XW) : Ext W W := ⟨Nat.le_refl _, [], rfl, rfl, fun _ _ _ => rfl⟩
theorem Ext.trans {a b c : XW} (h : Ext a b) (k : Ext b c) : Ext a c := by
  obtain ⟨l, h1, h2, h3⟩ := h.log
  obtain ⟨m, k1, k2, k3⟩ := k.log
  refine ⟨Nat.le_trans h.next k.next, m ++ l, by rw [k1, h1, List.append_assoc], by rw [k2, h2, List.length_append]; omega, fun n hn hl => ?_⟩
  rw [List.mem_append] at hn
  rw [k3 n (fun e => hn (.inl e)) (Nat.lt_of_lt_of_le hl h.next), h3 n (fun e => hn (.inr e)) hl]
theorem Ext.put (W : XW) (n : Nat) (o : Option XObj) : Ext W (W.put n o) :=
  ⟨Nat.le_refl _, [n], rfl, rfl, fun m hm _ => XW.get_put_ne (by simpa using hm)⟩
theorem Ext.push (W : XW) (o : XObj) : Ext W (W.push o) :=
  ⟨Nat.le_succ _, [], rfl, rfl, fun m _ hm => XW.get_push_ne (by omega)⟩

section
variable {P : Program} {W W' : XW} {fr : XF} {v : Value}
theorem valO_mod {o : Option Value} (h : valO o = some (.mod v W')) : Ext W W' := by cases o <;> cases h
theorem valF_mod {o : Option Value} (h : valF o = some (.mod v W')) : Ext W W' := by
  cases o with
  | none => cases h
  | some u => simp only [valF] at h; cases hq : flatV u <;> rw [hq] at h <;> cases h
theorem modO_mod {u : Value} {o : Option XW} (ho : ∀ W1, o = some W1 → Ext W W1) (h : modO u o = some (.mod v W')) : Ext W W' := by
  cases o with
  | none => cases h
  | some W1 => cases h; exact ho _ rfl
theorem storeX_ext {n o : Nat} {vs : List Value} {W1 : XW} (h : storeX W n o vs = some W1) : Ext W W1 := by
  obtain ⟨c, e, f, _, _, _, _, rfl⟩ := storeX_put h
  exact .put _ _ _
theorem bif_mod {b : Bool} {x y : Option XR} (hx : x = some (.mod v W') → Ext W W') (hy : y = some (.mod v W') → Ext W W') (h : (bif b then x else y) = some (.mod v W')) : Ext W W' := by
  cases b
  · exact hy h
  · exact hx h
theorem none_mod (h : (none : Option XR) = some (.mod v W')) : Ext W W' := by cases h
theorem val_mod {u : Value} (h : val u = some (.mod v W')) : Ext W W' := by cases h
theorem newAt_mod {W1 : XW} {o : XObj} {l c : Nat} (hW : Ext W W1) (h : newAt W1 o l c = some (.mod v W')) : Ext W W' := by cases h; exact hW.trans (.push _ _)
theorem appendX_ext {a x : Value} {d : Option TypeDesc} (h : appendX P W a x d = some (.mod v W')) : Ext W W' := by
  unfold appendX at h
  split at h
  · unfold appS at h
    split at h
    · refine bif_mod (fun h => ?_) none_mod h
      unfold app1 at h
      split at h
      · refine bif_mod (fun h => ?_) none_mod h
        unfold app2 at h
        split at h
        · refine bif_mod (fun h => bif_mod val_mod none_mod h) (fun h => bif_mod (fun h => ?_) none_mod h) h
          unfold app3 at h
          split at h
          · exact bif_mod (fun h => newAt_mod (.refl _) h) none_mod h
          · refine bif_mod (fun h => bif_mod (fun h => modO_mod (fun _ q => storeX_ext q) h) (fun h => ?_) h) (fun h => ?_) h
            · unfold app4 at h
              split at h
              · exact bif_mod (fun h => newAt_mod (.put _ _ _) h) none_mod h
              · exact none_mod h
            · unfold app5 at h
              split at h
              · exact bif_mod (fun h => newAt_mod (.refl _) h) none_mod h
              · exact none_mod h
          · exact none_mod h
        · exact none_mod h
      · exact none_mod h
    · exact none_mod h
  · exact none_mod h
theorem builtin_ext {b : Builtin} {ats : Array TypeId} {ty : TypeId} {args : List Value} (h : builtinX P W b ats ty args = some (.mod v W')) : Ext W W' := by
  unfold builtinX at h
  split at h
  · unfold lenB at h
    split at h
    · split at h <;> first | exact val_mod h | exact none_mod h
    · unfold lenMap at h; split at h <;> first | exact val_mod h | exact none_mod h
    · split at h <;> first | exact val_mod h | exact none_mod h
    · exact val_mod h
    · exact none_mod h
  · exact bif_mod appendX_ext none_mod h
  · unfold cpyB at h
    split at h
    · split at h
      · unfold cpy1 at h
        split at h
        · unfold cpy2 at h
          split at h
          · refine bif_mod val_mod (fun h => ?_) h
            unfold cpy3 at h
            split at h
            · exact modO_mod (fun _ q => storeX_ext q) h
            · exact none_mod h
          · exact none_mod h
        · exact none_mod h
      · exact none_mod h
    · exact none_mod h
  · unfold delB at h
    split at h
    · split at h
      · unfold del1 at h
        split at h
        · refine bif_mod (fun h => ?_) none_mod h
          unfold del2 at h
          split at h
          · cases h; exact .put _ _ _
          · exact val_mod h
          · exact none_mod h
        · exact none_mod h
      · exact none_mod h
    · exact none_mod h
  · unfold clrB at h
    split at h
    · split at h
      · refine bif_mod val_mod (fun h => ?_) h
        unfold clr1 at h
        split at h
        · exact modO_mod (fun _ q => storeX_ext q) h
        · exact none_mod h
      · exact none_mod h
    · exact none_mod h
  · exact bif_mod valF_mod none_mod h
  · exact bif_mod valF_mod none_mod h
  · unfold usd at h
    split at h
    · exact bif_mod none_mod val_mod h
    · exact val_mod h
    · exact none_mod h
  · unfold ustB at h
    split at h
    · split at h
      · exact val_mod h
      · unfold ust1 at h
        split at h
        · refine bif_mod (fun h => ?_) none_mod h
          unfold ust2 at h
          split at h
          · cases h; exact .put _ _ _
          · exact none_mod h
        · exact none_mod h
      · exact none_mod h
    · exact none_mod h
  · exact none_mod h
theorem upd_ext {d : Option TypeDesc} {m k x : Option Value} (h : updX P W d m k x = some (.mod v W')) : Ext W W' := by
  unfold updX at h
  split at h
  · unfold upd1 at h
    split at h
    · refine bif_mod (fun h => ?_) none_mod h
      unfold upd2 at h
      split at h
      · unfold upd3 at h
        split at h
        · exact bif_mod (fun h => by cases h; exact .put _ _ _) none_mod h
        · exact none_mod h
      · cases h; exact .put _ _ _
      · exact none_mod h
    · exact none_mod h
  · exact none_mod h
theorem men_ext {d : Option TypeDesc} {m k : Option Value} (h : menX P W d m k = some (.mod v W')) : Ext W W' := by
  unfold menX at h
  split at h
  · unfold men1 at h
    split at h
    · refine bif_mod (fun h => ?_) none_mod h
      unfold men2 at h
      split at h
      · unfold men3 at h
        split at h
        · exact bif_mod (fun h => by cases h; exact .put _ _ _) none_mod h
        · exact none_mod h
      · cases h; exact .put _ _ _
      · exact none_mod h
    · exact none_mod h
  · exact none_mod h
theorem ens_ext {m s x : Option Value} (h : ensX W m s x = some (.mod v W')) : Ext W W' := by
  unfold ensX at h
  split at h
  · unfold ens1 at h
    split at h
    · unfold ens2 at h
      split at h
      · unfold ens3 at h
        split at h
        · cases h; exact .put _ _ _
        · exact none_mod h
      · exact none_mod h
    · exact none_mod h
  · exact none_mod h
theorem nxt_ext {b : Bool} {x : Option Value} (h : nxtX W b x = some (.mod v W')) : Ext W W' := by
  unfold nxtX at h
  split at h
  · unfold nxt1 at h
    split at h
    · unfold nxt2 at h
      split at h
      · refine bif_mod none_mod (fun h => ?_) h
        unfold nxt3 at h
        split at h
        · exact val_mod h
        · exact bif_mod (fun h => by cases h; exact .put _ _ _) none_mod h
        · exact none_mod h
      · exact none_mod h
    · exact none_mod h
  · exact none_mod h
theorem st_ext {a x : Option Value} {s : Option Nat} (h : stX W a x s = some (.mod v W')) : Ext W W' := by
  unfold stX at h
  split at h
  · exact bif_mod (fun h => modO_mod (fun _ q => storeX_ext q) h) none_mod h
  · exact none_mod h
theorem xop_ext {ty : TypeId} {op : Op} (h : xop P fr W ty op = some (.mod v W')) : Ext W W' := by
  cases op <;> simp only [xop] at h
  all_goals first
    | exact none_mod h
    | exact st_ext h
    | exact upd_ext h
    | exact men_ext h
    | exact ens_ext h
    | exact nxt_ext h
    | skip
  case move => cases h
  case assign => cases h
  case pick => unfold pickX at h; split at h <;> cases h
  case alloc => unfold allocX at h; split at h <;> cases h
  case box => unfold boxX at h; split at h <;> cases h
  case build => unfold bldX at h; split at h <;> first | exact valO_mod h | cases h
  case buildSlice =>
    unfold bslX at h
    split at h
    · unfold bsl1 at h
      split at h
      · unfold bsl2 at h
        split at h
        · exact bif_mod (fun h => by cases h) none_mod h
        · exact none_mod h
      · exact none_mod h
    · exact none_mod h
  case load => unfold ldX at h; split at h <;> first | exact valO_mod h | cases h
  case nilCheck => unfold nilX at h; split at h <;> first | exact val_mod h | cases h
  case binOp =>
    unfold binX at h
    split at h
    · refine bif_mod valF_mod (fun h => ?_) h
      unfold eqW at h
      split at h <;> first | exact val_mod h | exact none_mod h
    · exact none_mod h
  case unOp => unfold unX at h; split at h <;> first | exact bif_mod valF_mod none_mod h | exact none_mod h
  case convert =>
    unfold convX at h
    split at h
    · unfold strBytes at h; split at h <;> cases h
    · unfold bytesStr at h
      split at h
      · unfold strO at h; split at h <;> first | exact val_mod h | exact none_mod h
      · exact none_mod h
    · unfold convF at h; split at h <;> first | exact bif_mod valF_mod none_mod h | exact none_mod h
    · exact none_mod h
  case sliceToArrayPointer => unfold s2aX at h; split at h <;> first | exact bif_mod val_mod none_mod h | exact none_mod h
  case makeInterface => unfold ifaceX at h; split at h <;> first | exact none_mod h | exact val_mod h
  case makeFunc => unfold mkfX at h; split at h <;> first | exact none_mod h | exact val_mod h
  case makeMap => unfold mkmX at h; split at h <;> cases h
  case makeSlice =>
    unfold mksX at h
    split at h
    · unfold mks1 at h; split at h <;> first | exact bif_mod (fun h => by cases h) none_mod h | exact none_mod h
    · exact none_mod h
  case slice =>
    unfold slcX at h
    split at h
    · unfold sliceX at h
      split at h
      · split at h
        · unfold slS at h; split at h <;> first | exact bif_mod val_mod none_mod h | exact none_mod h
        · exact none_mod h
      · split at h
        · split at h
          · unfold slL at h; split at h <;> first | exact bif_mod val_mod none_mod h | exact none_mod h
          · refine bif_mod (fun h => ?_) none_mod h
            unfold slM at h; split at h <;> first | exact bif_mod val_mod none_mod h | exact none_mod h
        · exact none_mod h
      · split at h
        · unfold slA at h; split at h <;> first | exact bif_mod val_mod none_mod h | exact none_mod h
        · exact none_mod h
      · exact none_mod h
    · exact none_mod h
  case fieldAddr =>
    unfold fadX at h
    split at h
    · unfold fad1 at h
      split at h
      · unfold fadd at h; split at h <;> first | exact val_mod h | exact none_mod h
      · exact none_mod h
    · exact none_mod h
  case field =>
    unfold fldX at h
    split at h
    · unfold fld1 at h; split at h <;> first | exact valO_mod h | exact none_mod h
    · exact none_mod h
  case indexAddr =>
    unfold iadX at h
    split at h
    · unfold iad1 at h; split at h <;> first | exact bif_mod val_mod none_mod h | exact none_mod h
    · unfold iad1 at h; split at h <;> first | exact bif_mod val_mod none_mod h | exact none_mod h
    · exact none_mod h
  case index =>
    unfold idxX at h
    split at h
    · unfold idx1 at h; split at h <;> first | exact bif_mod valO_mod none_mod h | exact none_mod h
    · unfold byteO at h; split at h <;> first | exact val_mod h | exact none_mod h
    · exact none_mod h
  case lookup =>
    unfold lkuX at h
    split at h
    · unfold lku1 at h
      split at h
      · refine bif_mod (fun h => ?_) none_mod h
        unfold lku2 at h; split at h <;> first | exact val_mod h | exact none_mod h
      · exact none_mod h
    · exact none_mod h
  case range =>
    unfold rngX at h
    split at h
    · unfold rng1 at h; split at h <;> cases h
    · exact none_mod h
  case entry =>
    unfold entX at h
    split at h
    · unfold ent1 at h
      split at h
      · unfold ent2 at h
        split at h
        · refine bif_mod (fun h => ?_) none_mod h
          unfold entO at h; split at h <;> first | exact val_mod h | exact none_mod h
        · exact none_mod h
      · exact none_mod h
    · exact none_mod h
  case typeAssert =>
    unfold asrX at h
    split at h
    · exact none_mod h
    · refine bif_mod val_mod (fun h => ?_) h
      unfold asr1 at h; split at h <;> first | exact val_mod h | exact none_mod h
    · exact none_mod h
  case extract => unfold extX at h; split at h <;> first | exact valO_mod h | exact none_mod h
  case call c =>
    unfold calX at h
    split at h
    · unfold bltX at h; split at h <;> first | exact builtin_ext h | exact none_mod h
    · unfold callV at h
      split at h
      · cases h
      · exact bif_mod (fun h => by cases h) none_mod h
      · exact none_mod h
    · exact none_mod h
  case defer =>
    unfold defX at h
    split at h
    · unfold defV at h; split at h <;> cases h
    · exact none_mod h
  case panic => unfold panX at h; split at h <;> cases h

/-! ### more of the heap -/
def Sub (W W' : XW) : Prop := ∀ n o, W.get n = some o → W'.get n = some o
theorem hideAll_sub (W : XW) : ∀ l, Sub (hideAll W l) W
  | [] => fun _ _ h => h
  | n :: l => fun m o h => by
    rcases XW.get_put (hideAll_sub (W.put n none) l m o h) with ⟨_, q⟩ | ⟨_, q⟩
    · cases q
    · exact q
theorem hideAll_not (W : XW) : ∀ l n, n ∈ l → (hideAll W l).get n = none
  | m :: l, n, h => by
    by_cases hm : n ∈ l
    · exact hideAll_not _ l n hm
    · rcases List.mem_cons.1 h with rfl | h
      · cases e : (hideAll (W.put n none) l).get n with
        | none => exact e
        | some o =>
          rcases XW.get_put (hideAll_sub _ l n o e) with ⟨_, q⟩ | ⟨q, _⟩
          · cases q
          · exact absurd rfl q
      · exact absurd h hm
theorem loadX_mono {t : TypeId} {p u : Value} (hs : Sub W W') (h : loadX P W t p = some u) : loadX P W' t p = some u := by
  unfold loadX at h ⊢
  split at h
  · rename_i n o
    split at h
    · rename_i c e f hg
      simp only [hs _ _ hg]
      exact h
    · cases h
  · cases h
theorem srcX_mono {s n : Nat} {x : Value} {l : List Value} (hs : Sub W W') (h : srcX W s n x = some l) : srcX W' s n x = some l := by
  unfold srcX at h ⊢
  split at h
  · exact h
  · rename_i b o
    simp only
    cases q : Nat.beq n 0 with
    | true => rw [q] at h; exact h
    | false =>
      rw [q] at h
      simp only [cond_false] at h ⊢
      split at h
      · rename_i c e f hg
        simp only [hs _ _ hg]
        exact h
      · cases h
  · exact h
  · cases h
theorem mapGet_mono {x : Value} {q : List MapEntry × Nat} (hs : Sub W W') (h : mapGet W x = some q) : mapGet W' x = some q := by
  unfold mapGet at h ⊢
  split at h
  · exact h
  · rename_i r
    split at h
    · rename_i es c hg
      simp only [hs _ _ hg]
      exact h
    · cases h
  · cases h
theorem rowIs_mono {cap : Nat} {t : TypeId} {a : Option Addr} (hs : Sub W W') (h : rowIs W cap t a = true) : rowIs W' cap t a = true := by
  unfold rowIs at h ⊢
  split at h
  · exact h
  · rename_i a
    cases q : isOpen cap with
    | false => rfl
    | true =>
      rw [q] at h
      simp only [Bool.not_true, Bool.false_or] at h ⊢
      split at h
      · rename_i c e f hg
        simp only [hs _ _ hg]
        exact h
      · cases h
theorem xop_mono {ty : TypeId} {op : Op} {r : XR} (hs : Sub W W') (hc : calmOp op = true) (h : xop P fr W ty op = some r) : xop P fr W' ty op = some r := by
  cases op <;> first | (exact absurd hc Bool.false_ne_true) | exact h | skip
  case load t a =>
    simp only [xop, ldX] at h ⊢
    cases ha : ev fr a with
    | none => rw [ha] at h; cases h
    | some p =>
      rw [ha] at h
      simp only at h ⊢
      cases hl : loadX P W t p with
      | none => rw [hl] at h; cases h
      | some u => rw [hl] at h; rw [loadX_mono hs hl]; exact h
  case convert s d x =>
    simp only [xop, convX] at h ⊢
    split at h
    · exact h
    · unfold bytesStr at h ⊢
      split at h
      · rename_i a n c _ _
        cases hl : srcX W 1 n (.slice a n c) with
        | none => rw [hl] at h; cases h
        | some u => rw [hl] at h; rw [srcX_mono hs hl]; exact h
      · cases h
    · rename_i q1 q2 q3 q4 q5 q6
      exact h
    · cases h
  case slice t x lo hi mx =>
    simp only [xop, slcX] at h ⊢
    split at h
    · rename_i v hv
      simp only [sliceX] at h ⊢
      split at h
      · exact h
      · rename_i el ht
        split at h
        · rename_i a len cap
          split at h
          · simp only [slL] at h ⊢
            split at h
            · rename_i s l hh q1 q2 q3
              cases hq : rowIs W cap el a with
              | false => rw [hq] at h; simp only [Bool.false_and, cond_false] at h; cases h
              | true => rw [hq] at h; rw [rowIs_mono hs hq]; exact h
            · cases h
          · exact h
        · cases h
      · exact h
      · cases h
    · cases h
  case lookup t m k ok =>
    simp only [xop, lkuX] at h ⊢
    split at h
    · rename_i kt el mv kv q1 q2 q3
      simp only [lku1] at h ⊢
      cases hl : mapGet W mv with
      | none => rw [hl] at h; cases h
      | some u => rw [hl] at h; rw [mapGet_mono hs hl]; exact h
    · cases h
  case call c =>
    obtain ⟨cl, args, ats⟩ := c
    simp only [xop, calX] at h ⊢
    cases cl <;> first | (exact absurd hc Bool.false_ne_true) | skip
    rename_i b
    cases b <;> first | (exact absurd hc Bool.false_ne_true) | skip
    simp only [bltX] at h ⊢
    split at h
    · rename_i vs hv
      simp only [builtinX] at h ⊢
      split at h
      all_goals first | (cases h; done) | skip
      · rename_i x _
        simp only [lenB] at h ⊢
        split at h
        · exact h
        · cases hl : mapGet W x with
          | none => rw [hl] at h; cases h
          | some u => rw [hl] at h; rw [mapGet_mono hs hl]; exact h
        · exact h
        · exact h
        · cases h
      all_goals first | (rename_i hb; cases hb; done) | (rename_i hb _; cases hb; done) | (rename_i hb _ _; cases hb; done) | contradiction
    · cases h
end
end Go.Proofs.YthlkgmdkabelpaaGreatDoor.X
