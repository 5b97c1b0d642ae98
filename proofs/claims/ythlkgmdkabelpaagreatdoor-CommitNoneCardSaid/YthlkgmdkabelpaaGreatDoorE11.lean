/-
  Entries, iterators, assertions, calls; every operation. Over any program. No condition.
-/
import Derived.Test.YthlkgmdkabelpaaGreatDoorE10
import Derived.Lib.UnsafeStr
namespace Go.Proofs.YthlkgmdkabelpaaGreatDoor.X
open Go Go.RowKit
set_option linter.unusedVariables false

section
variable {P : Program} {ρ : Ren} {W : XW} {w : World} {fr : XF} {e : Operand → Value}
theorem sim_delete {ats : Array TypeId} {ty : TypeId} {m k m' k' : Value} {r : XR} (hH : HR P ρ W.get w) (hm : VR ρ m m') (hk : VR ρ k k') (h : delB P W m k (undO P ats[0]?) = some r) : XOk P ρ W w (do pure (.value (← Builtin.delete_ ats ty #[m', k']))) r := by
  cases h0 : ats[0]? with
  | none => rw [h0] at h; cases h
  | some t =>
    rw [h0] at h
    simp only [undO] at h
    unfold delB at h
    split at h
    · rename_i kt el ht
      split at h
      · rename_i n
        unfold del1 at h
        split at h
        · rename_i es c hg
          cases hko : keyOk P kt k es.isEmpty with
          | false => rw [hko] at h; cases h
          | true =>
            rw [hko] at h
            simp only [cond_true] at h
            obtain ⟨hkf, hck⟩ := keyOk_run (w := w) hko
            have hke := hk.flatEq hkf
            obtain ⟨i, hr, rfl⟩ := hm.mapInv
            obtain ⟨es', g1, g2⟩ := mapAt hH hr hg
            cases hfx : findX P kt k es with
            | none => rw [hfx] at h; cases h
            | some q =>
              rw [hfx] at h
              obtain ⟨r', f1, f2⟩ := findX_rel (w := w) g2 hfx
              have hck' : (Instr.checkKey es'.toArray.isEmpty 10000 kt k').run P w = .ok () w := by rw [hke, empty_eq g2]; exact hck
              rw [← hke] at f1
              cases f2 with
              | none =>
                cases h
                -- the map is laid back as it was
                refine ⟨.tuple #[], .inl ?_, fun x hx => by cases hx; exact .flat 1 _ rfl⟩
                have hid : setO w i.b (.map es'.toArray c) = w := by
                  have hlt := lt_of_heap g1
                  have hx : w.heap.setIfInBounds i.b (.map es'.toArray c) = w.heap := by
                    apply Array.ext_getElem?
                    intro j
                    by_cases hj : i.b = j
                    · subst hj
                      rw [Array.getElem?_setIfInBounds_self, if_pos hlt, g1]
                    · rw [Array.getElem?_setIfInBounds_ne hj]
                  unfold setO
                  rw [hx]
                rw [Sem.run_bind]
                simp only [Builtin.delete_, h0, List.getElem?_toArray, List.getElem?_cons_zero, List.getElem?_cons_succ, Sem.run_bind, run_und ht, Result.andThen_ok, run_getMap g1, hck', f1, run_setMap g1, hid, Sem.run_pure]
              | some j u u' hu =>
                cases h
                refine upd_okV (v' := .tuple #[]) (.flat 1 _ rfl) hH hr hg g1 (g2.erase j) ?_
                simp only [Builtin.delete_, h0, List.getElem?_toArray, List.getElem?_cons_zero, List.getElem?_cons_succ, Sem.run_bind, run_und ht, Result.andThen_ok, run_getMap g1, hck', f1, run_setMap g1, Sem.run_pure]
                rw [List.eraseIdxIfInBounds_toArray]
        · cases h
      · cases h
    · cases h
theorem ERs.findIdx {ρ : Ren} {born : Int} : ∀ {l l' : List MapEntry}, ERs ρ l l' → l'.findIdx? (fun e => (e.born : Int) == born) = l.findIdx? (fun e => (e.born : Int) == born)
  | _, _, .nil => rfl
  | _, _, .cons a a' l l' hk hv hb hs => by rw [List.findIdx?_cons, List.findIdx?_cons, hb, hs.findIdx]
theorem sim_entryStore {t : TypeId} {m s x : Operand} {r : XR} (hH : HR P ρ W.get w) (hE : Ev ρ fr e) (h : ensX W (ev fr m) (ev fr s) (ev fr x) = some r) : XOk P ρ W w (do Instr.entryStore t (e m) (e s) (e x); pure .skip) r := by
  unfold ensX at h
  split at h
  · rename_i n k born v hm hs hx
    unfold ens1 at h
    split at h
    · rename_i es c hg
      have hse := (hE s _ hs).int
      have hxe := hE x _ hx
      obtain ⟨i, hr, hme⟩ := (hE m _ hm).mapInv
      obtain ⟨es', g1, g2⟩ := mapAt hH hr hg
      cases hf : es.findIdx? (fun e => (e.born : Int) == born) with
      | none => rw [hf] at h; cases h
      | some j =>
        rw [hf] at h
        simp only [ens2] at h
        cases hj : es[j]? with
        | none => rw [hj] at h; cases h
        | some en =>
          rw [hj] at h
          cases h
          obtain ⟨en', e1, e2, e3, e4⟩ := g2.get j en hj
          refine upd_ok rfl hH hr hg g1 (g2.set j (e := ⟨en.key, v, en.born⟩) (e' := ⟨en'.key, e x, en'.born⟩) e2 hxe e4) ?_
          unfold Instr.entryStore
          rw [hme, hse]
          have hfi : es'.toArray.findIdx? (fun e => (e.born : Int) == born) = some j := by rw [List.findIdx?_toArray, g2.findIdx, hf]
          simp only [Sem.run_bind, Result.andThen_ok, run_getMap g1, asInt, asIntOf, Sem.run_pure, hfi]
          rw [run_setMap g1, modify_eq _ e1]
    · cases h
  · cases h
theorem run_getIter {b : Nat} {q : Option Nat} {since stepped : Nat} {seen : Array Nat} (h : w.heap[b]? = some (.mapIter q since seen stepped)) : (getObj b).run P w = .ok (.mapIter q since seen stepped) w := by
  simp only [getObj, Sem.run, h]
theorem iterAt (hH : HR P ρ W.get w) {n m since stepped : Nat} {seen : List Nat} {i : RI} (hr : ρ n = some i) (hg : W.get n = some (.iter m since seen stepped)) : ∃ q, ρ m = some q ∧ w.heap[i.b]? = some (.mapIter (some q.b) since seen.toArray stepped) ∧ i.s = 0 := by
  obtain ⟨ob, h1, h2⟩ := hH.obj n i _ hr hg
  cases h2 with
  | iter _ _ _ _ q h hs => exact ⟨q, h, h1, hs⟩
theorem sim_range {t : TypeId} {x : Operand} {r : XR} (hH : HR P ρ W.get w) (hE : Ev ρ fr e) (h : rngX W (P.underlying t) (ev fr x) = some r) : XOk P ρ W w (do pure (.value (← Instr.range t (e x)))) r := by
  unfold rngX at h
  split at h
  · rename_i kt el n ht hx
    unfold rng1 at h
    split at h
    · rename_i es c hg
      cases h
      obtain ⟨i, hr, hxe⟩ := (hE x _ hx).mapInv
      obtain ⟨es', g1, g2⟩ := mapAt hH hr hg
      refine xnew (i := ⟨w.heap.size, 0, 0, 0, 0⟩) hH rfl (u := .pointer (some ⟨w.heap.size, 0, none⟩)) ?_ (fun hn => .iter n c [] c i (rset_le _ hn _ _ hr) rfl) new_ptr
      unfold Instr.range
      rw [hxe]
      simp only [Sem.run_bind, run_und ht, Result.andThen_ok, run_getMap g1, Sem.run_pure]
      rfl
    · cases h
  · cases h
theorem ERs.filter {ρ : Ren} {p : Nat → Bool} : ∀ {l l' : List MapEntry}, ERs ρ l l' → ERs ρ (l.filter fun e => p e.born) (l'.filter fun e => p e.born)
  | _, _, .nil => .nil
  | _, _, .cons a a' l l' hk hv hb hs => by
    rw [List.filter_cons, List.filter_cons, hb]
    cases p a.born with
    | true => exact .cons _ _ _ _ hk hv hb hs.filter
    | false => exact hs.filter
theorem ERs.all {ρ : Ren} {p : Nat → Bool} : ∀ {l l' : List MapEntry}, ERs ρ l l' → (l'.all fun e => p e.born) = (l.all fun e => p e.born)
  | _, _, .nil => rfl
  | _, _, .cons a a' l l' hk hv hb hs => by rw [List.all_cons, List.all_cons, hb, hs.all]
theorem notIn_eq {seen : List Nat} : (fun e : MapEntry => !seen.toArray.contains e.born) = notIn seen := by
  funext e
  unfold notIn
  congr 1
  rw [List.contains_toArray]
  induction seen with
  | nil => rfl
  | cons a l ih =>
    rw [List.contains_cons, List.any_cons, ih]
    congr 1
    cases q : Nat.beq a e.born with
    | true => have := Nat.eq_of_beq_eq_true q; subst this; simp
    | false =>
      have : a ≠ e.born := fun h => by subst h; rw [Nat.beq_refl] at q; cases q
      simp
      exact fun h => this h.symm
theorem sim_next {x : Operand} {s : Bool} {ty : TypeId} {r : XR} (hH : HR P ρ W.get w) (hE : Ev ρ fr e) (h : nxtX W s (ev fr x) = some r) : XOk P ρ W w (do pure (.value (← Instr.next (e x) s ty))) r := by
  unfold nxtX at h
  split at h
  · rename_i n hx
    unfold nxt1 at h
    split at h
    · rename_i m since seen last hg
      unfold nxt2 at h
      split at h
      · rename_i es c hgm
        obtain ⟨i, hr, hxe⟩ := (hE x _ hx).ptrInv
        obtain ⟨q, hq, hit, hs0⟩ := iterAt hH hr hg
        obtain ⟨es', g1, g2⟩ := mapAt hH hq hgm
        cases hc : (!seen.isEmpty && !es.isEmpty && es.all (fun e => Nat.ble last e.born)) with
        | true => rw [hc] at h; cases h
        | false =>
          rw [hc] at h
          simp only [cond_false] at h
          have hc' : (!seen.toArray.isEmpty && !es'.toArray.isEmpty && es'.toArray.all (fun e => decide (e.born ≥ last))) = false := by
            rw [← hc, empty_eq g2, List.isEmpty_toArray, List.all_toArray]
            congr 1
            have : (fun e : MapEntry => decide (e.born ≥ last)) = fun e => Nat.ble last e.born := by
              funext e
              cases h1 : Nat.ble last e.born with
              | true => exact decide_eq_true (Nat.le_of_ble_eq_true h1)
              | false => exact decide_eq_false fun h2 => by rw [Nat.ble_eq_true_of_le h2] at h1; cases h1
            rw [this]
            exact g2.all (p := fun b => Nat.ble last b)
          have hleft : es'.toArray.filter (fun e => !seen.toArray.contains e.born) = (es'.filter (notIn seen)).toArray := by rw [notIn_eq, List.filter_toArray]
          have hfil := g2.filter (p := fun b => !(seen.any fun n => Nat.beq n b))
          have hfe : (es.filter fun e => !(seen.any fun n => Nat.beq n e.born)) = es.filter (notIn seen) := rfl
          have hfe' : (es'.filter fun e => !(seen.any fun n => Nat.beq n e.born)) = es'.filter (notIn seen) := rfl
          rw [hfe, hfe'] at hfil
          rw [Nat.zero_add, hs0] at hxe
          unfold nxt3 at h
          split at h
          · rename_i hnil
            rw [hnil] at hfil
            generalize he' : es'.filter (notIn seen) = L at hfil hleft
            cases hfil
            cases h
            refine xv (u := .tuple #[.bool false]) ?_ (.flat 8 _ rfl)
            unfold Instr.next
            rw [hxe]
            simp only [Sem.run_bind, Result.andThen_ok, run_getIter hit, run_getMap g1]
            rw [if_neg (by rw [hc']; exact Bool.false_ne_true)]
            simp only [Sem.run_bind, Sem.run_pure, Result.andThen_ok, hleft]
            simp [choose, Sem.run, Question.forced]
          · rename_i en hone
            rw [hone] at hfil
            generalize he' : es'.filter (notIn seen) = L at hfil hleft
            cases hfil with
            | cons _ en' _ _ hk hv hb hs' =>
              cases hs'
              cases hlt : Nat.blt en.born since with
              | false => rw [hlt] at h; cases h
              | true =>
                rw [hlt] at h
                cases h
                have hlt' : en'.born < since := by rw [hb]; exact Nat.le_of_ble_eq_true hlt
                intro _
                obtain ⟨r1, r2⟩ := hH.put hr (by rw [hg]; simp) (.iter m since (seen ++ [en.born]) c) (setO_keep w i.b (.mapIter (some q.b) since (seen ++ [en.born]).toArray c)) (setO_at hit) (.iter _ _ _ _ q hq hs0)
                refine ⟨.tuple #[.bool true, en'.key, en'.val], ρ, _, gv ?_, r2, r1, .tuple [_, _, _] [_, _, _] (.cons _ _ _ _ (.flat 1 _ rfl) (.cons _ _ _ _ hk (.cons _ _ _ _ hv .nil)))⟩
                unfold Instr.next
                rw [hxe]
                simp only [Sem.run_bind, Result.andThen_ok, run_getIter hit, run_getMap g1]
                rw [if_neg (by rw [hc']; exact Bool.false_ne_true)]
                have hold : (#[en'].filter fun e => decide (e.born < since)) = #[en'] := by simp [hlt']
                have hnew : (#[en'].filter fun e => decide (e.born ≥ since)) = #[] := by simp; omega
                have hl2 : es'.toArray.filter (fun e => !seen.toArray.contains e.born) = #[en'] := hleft
                simp only [Sem.run_bind, Sem.run_pure, Result.andThen_ok, hl2, hold, hnew]
                have hch : (choose (.mapNext ((if (#[en'] : Array MapEntry).isEmpty = true then #[none] else #[]) ++ (#[en'] ++ #[] : Array MapEntry).map some).size)).run P w = .ok 0 w := by simp [choose, Sem.run, Question.forced]
                rw [hch, Result.andThen_ok]
                have hst : ∀ o, (setObj i.b o).run P w = .ok () (setO w i.b o) := fun o => by simp only [setObj, Sem.run, hit, setO]
                have hcand : ((if (#[en'] : Array MapEntry).isEmpty = true then #[none] else #[]) ++ (#[en'] ++ #[] : Array MapEntry).map some)[0]? = some (some en') := by simp
                rw [hcand]
                simp only []
                rw [Sem.run_bind, hst, Result.andThen_ok, hb]
                rw [show seen.toArray.push en.born = (seen ++ [en.born]).toArray by simp]
                rfl
          · cases h
      · cases h
    · cases h
  · cases h
theorem sim_entry {x : Operand} {r : XR} (hH : HR P ρ W.get w) (hE : Ev ρ fr e) (h : entX W (ev fr x) = some r) : XOk P ρ W w (do pure (.value (← Instr.entry (e x)))) r := by
  unfold entX at h
  split at h
  · rename_i n hx
    unfold ent1 at h
    split at h
    · rename_i m since seen stepped hg
      unfold ent2 at h
      split at h
      · rename_i es c st hgm hlast
        obtain ⟨i, hr, hxe⟩ := (hE x _ hx).ptrInv
        obtain ⟨q, hq, hit, hs0⟩ := iterAt hH hr hg
        obtain ⟨es', g1, g2⟩ := mapAt hH hq hgm
        rw [Nat.zero_add, hs0] at hxe
        cases hc : Nat.beq c stepped with
        | false => rw [hc] at h; cases h
        | true =>
          rw [hc] at h
          simp only [cond_true] at h
          have hcs := Nat.eq_of_beq_eq_true hc
          subst hcs
          have hfind : ∀ {l l' : List MapEntry}, ERs ρ l l' → (l.find? (fun e => Nat.beq e.born st) = none ∧ l'.find? (fun e => e.born == st) = none) ∨ ∃ a a', l.find? (fun e => Nat.beq e.born st) = some a ∧ l'.find? (fun e => e.born == st) = some a' ∧ VR ρ a.key a'.key ∧ VR ρ a.val a'.val := by
            intro l l' hl
            induction hl with
            | nil => exact .inl ⟨rfl, rfl⟩
            | cons a a' l l' hk hv hb hs ih =>
              rw [List.find?_cons, List.find?_cons, hb]
              cases hq : Nat.beq a.born st with
              | true =>
                have : (a.born == st) = true := by rw [Nat.eq_of_beq_eq_true hq]; simp
                rw [this]
                exact .inr ⟨a, a', rfl, rfl, hk, hv⟩
              | false =>
                have : (a.born == st) = false := by
                  cases hz : (a.born == st) with
                  | false => rfl
                  | true => rw [eq_of_beq hz, Nat.beq_refl] at hq; cases hq
                rw [this]
                exact ih
          rcases hfind g2 with ⟨q1, q2⟩ | ⟨a, a', q1, q2, hk, hv⟩
          · rw [q1] at h; cases h
          · rw [q1] at h
            cases h
            refine xv (u := .tuple #[a'.key, a'.val]) ?_ (.tuple [_, _] [_, _] (.cons _ _ _ _ hk (.cons _ _ _ _ hv .nil)))
            unfold Instr.entry
            rw [hxe]
            have hback : seen.toArray.back? = some st := by rw [List.back?_toArray]; exact hlast
            have hfa : es'.toArray.find? (fun e => e.born == st) = some a' := by rw [List.find?_toArray]; exact q2
            simp only [Sem.run_bind, Result.andThen_ok, run_getIter hit, run_getMap g1, hback]
            rw [if_neg (by simp)]
            simp only [Sem.run_bind, Sem.run_pure, Result.andThen_ok, hfa]
      · cases h
    · cases h
  · cases h
theorem sim_assert {x : Operand} {xt t : TypeId} {ok : Bool} {r : XR} (hE : Ev ρ fr e) (h : asrX P t ok (ev fr x) (P.underlying t) = some r) : XOk P ρ W w (do pure (.value (← Instr.typeAssert (e x) xt t ok))) r := by
  unfold asrX at h
  split at h
  · cases h
  · rename_i u v d hni hx hud
    obtain ⟨v', hxe, hv⟩ := (hE x _ hx).ifaceInv
    have notI : ∀ ms, d ≠ .interface ms := fun ms e => hni ms e
    cases hq : Nat.beq u t with
    | true =>
      rw [hq] at h
      cases h
      have := Nat.eq_of_beq_eq_true hq
      subst this
      refine xv (u := okV ok v' true) ?_ (okV_rel hv)
      unfold Instr.typeAssert
      rw [hxe, Sem.run_bind, run_und hud, Result.andThen_ok]
      cases d <;> first | exact absurd rfl (notI _) | skip
      all_goals
        simp only []
        rw [if_pos trivial]
        cases ok <;> rfl
    | false =>
      rw [hq] at h
      simp only [cond_false] at h
      have hne : u ≠ t := fun e => by subst e; rw [Nat.beq_refl] at hq; cases hq
      unfold asr1 at h
      split at h
      · rename_i z hz
        cases h
        obtain ⟨_, _, _, hzf⟩ := zero_info hz
        refine xv (u := .tuple #[z, .bool false]) ?_ (.tuple [_, _] [_, _] (.cons _ _ _ _ (.flat 8 _ hzf) (.cons _ _ _ _ (.flat 1 _ rfl) .nil)))
        unfold Instr.typeAssert
        rw [hxe, Sem.run_bind, run_und hud, Result.andThen_ok]
        cases d <;> first | exact absurd rfl (notI _) | skip
        all_goals
          simp only []
          rw [if_neg hne]
          simp only [if_true, Sem.run_bind, run_zero hz, Result.andThen_ok, Sem.run_pure]
      · cases h
  · cases h
theorem sim_s2a {t : TypeId} {x : Operand} {r : XR} (hE : Ev ρ fr e) (h : s2aX (P.underlying t) (ev fr x) = some r) : XOk P ρ W w (do pure (.value (← Instr.arrayAt t (e x)))) r := by
  unfold s2aX at h
  split at h
  · rename_i n el a len cap hu hx
    cases hq : (Nat.ble n len && Nat.blt 0 n) with
    | false => rw [hq] at h; cases h
    | true =>
      rw [hq] at h
      cases h
      simp only [Bool.and_eq_true] at hq
      have h1 := Nat.le_of_ble_eq_true hq.1
      have h2 : 0 < n := Nat.le_of_ble_eq_true hq.2
      obtain ⟨b, o, rfl⟩ := (hE x _ hx).sliceAddr
      obtain ⟨i, hr, hcase⟩ := (hE x _ hx).sliceInv
      have key : ∃ cap', e x = .slice (some ⟨i.b, o + i.s, none⟩) len cap' := by
        rcases hcase with ⟨_, q⟩ | ⟨_, c, q, _⟩ | ⟨_, q, _⟩ | ⟨_, q, _⟩
        · exact ⟨_, q⟩
        · exact ⟨_, q⟩
        · omega
        · omega
      obtain ⟨cap', hxe⟩ := key
      refine xv (u := .pointer (some ⟨i.b, o + i.s, none⟩)) ?_ (.ptr _ _ _ hr)
      unfold Instr.arrayAt
      rw [hxe, Sem.run_bind, run_und hu, Result.andThen_ok]
      simp only []
      rw [if_neg (by omega)]
      rfl
  · cases h
/-! ### strings out of bytes that are not copied -/
theorem liesAt_bytesO {el : TypeId} (hc : P.cellsOf el = 1) (count off n : Nat) (hn : off + n ≤ count) : liesAt P P.depth el count off el n = true := by
  have hd : P.depth = (2 * (P.types.size + Made.depth) + 1) + 1 := rfl
  rw [hd]
  simp only [liesAt, Bool.or_eq_true]
  left
  rw [hd]
  simp [rowAt, hc, hn, sameLayout, Nat.mod_one]
theorem run_unsafeStr {ats : Array TypeId} {pt ty el : TypeId} {k : IntKind} {g o cells : Nat} (h0 : ats[0]? = some pt) (hp : P.underlying pt = some (.pointer el)) (hc : P.cellsOf el = 1) (hsh : w.shape? g = some (el, cells)) (l : List UInt8) (hl : l.length ≠ 0) (hn : o + l.length ≤ cells) (h63 : l.length ≤ 9223372036854775807)
    (hcell : ∀ j x, l[j]? = some x → w.cell? ((⟨g, o, none⟩ : Addr).add j) = some (.int .u8 x.toNat)) :
    (Builtin.unsafeString_ ats ty #[.pointer (some ⟨g, o, none⟩), .int k l.length]).run P w = .ok (.string ⟨l.toArray⟩) (w.freeze ⟨g, o, none⟩ l.length) := by
  have hlb := Lib.run_loadBytes (P := P) w l ⟨g, o, none⟩ .empty hcell
  have hlies := liesAt_bytesO (P := P) hc (cells / P.cellsOf el) o l.length (by rw [hc]; simpa using hn)
  have h63' : ¬ (9223372036854775807 : Int) < (l.length : Int) := by omega
  have hdef : Builtin.unsafeString_ ats ty #[.pointer (some ⟨g, o, none⟩), .int k l.length] =
      (do
        let n ← asInt (.int k l.length)
        let some pt := ats[0]? | stuck "unsafe.String: no argument types"
        if n < 0 then runtimePanic (.error "unsafe.String: len out of range")
        if n > IntKind.i64.max then unsupported (.unsafePointer "String: a length above the largest int")
        if n = 0 then pure (.string .empty)
        else if ← variablesAt ⟨g, o, none⟩ (← elemOf pt) n.toNat then do
          let s ← loadBytes ⟨g, o, none⟩ .empty n.toNat
          freeze ⟨g, o, none⟩ n.toNat
          pure (.string s)
        else unsupported (.unsafePointer "String: not so many bytes at ptr")) := rfl
  rw [hdef]
  have hmax : IntKind.i64.max = 9223372036854775807 := rfl
  have hneg : ¬ (l.length : Int) < 0 := by omega
  simp [asInt, asIntOf, hmax, h63', hneg, hl, variablesAt, hsh, elemOf, run_und hp, hlies, hlb, h0]
theorem freeze_at {b o n : Nat} {c : Array Value} {t : TypeId} {lo hi : Nat} (hn : n ≠ 0) (h : w.heap[b]? = some (.cells c t (lo, hi))) :
    (w.freeze ⟨b, o, none⟩ n).heap[b]? = some (.cells c t (if lo == hi then (o, o + n) else (min lo o, max hi (o + n)))) := by
  unfold World.freeze
  rw [if_neg hn]
  simp only [Array.getElem?_modify, h]
  simp
theorem freeze_keep (b o n : Nat) : Keeps (fun k => k = b) w (w.freeze ⟨b, o, none⟩ n) := by
  unfold World.freeze
  split
  · exact Keeps.refl _ _
  · exact ⟨rfl, rfl, rfl, by simp, fun k hk hne => by
      simp only [Array.getElem?_modify]
      rw [if_neg (fun e => hne e.symm)]⟩
theorem sim_unsafeString {ats : Array TypeId} {ty : TypeId} {p n p' n' : Value} {r : XR} (hH : HR P ρ W.get w) (hp : VR ρ p p') (hn : VR ρ n n') (h : ustB P W p n (undO P ats[0]?) = some r) :
    XOk P ρ W w (do pure (.value (← Builtin.unsafeString_ ats ty #[p', n']))) r := by
  cases h0 : ats[0]? with
  | none => rw [h0] at h; cases h
  | some t =>
    rw [h0] at h
    simp only [undO] at h
    unfold ustB at h
    split at h
    · rename_i pe ht
      split at h
      · rename_i k
        cases h
        have h1 := hp.of_flat 1 rfl
        have h2 := hn.int
        subst h1
        subst h2
        refine xv (u := .string .empty) ?_ (.flat 1 _ rfl)
        have hmax : IntKind.i64.max = 9223372036854775807 := rfl
        have hdef : Builtin.unsafeString_ ats ty #[.pointer none, .int k (Int.ofNat 0)] =
            (do
              let n ← asInt (.int k (Int.ofNat 0))
              let some pt := ats[0]? | stuck "unsafe.String: no argument types"
              if n < 0 then runtimePanic (.error "unsafe.String: len out of range")
              if n > IntKind.i64.max then unsupported (.unsafePointer "String: a length above the largest int")
              if n = 0 then pure (.string .empty)
              else runtimePanic (.error "unsafe.String: ptr is nil and len is not zero")) := rfl
        rw [hdef]
        simp [asInt, asIntOf, hmax, h0]
      · rename_i b k m
        have h2 := hn.int
        subst h2
        obtain ⟨i, hr, rfl⟩ := hp.ptrInv
        unfold ust1 at h
        split at h
        · rename_i c el f hg
          cases q : (Nat.ble (m + 1) c.length && Nat.beq el pe && Nat.beq f.1 0 && Nat.beq (P.cellsOf pe) 1 && Nat.ble (m + 1) 1099511627776) with
          | false => rw [q] at h; cases h
          | true =>
            rw [q] at h
            simp only [cond_true] at h
            simp only [Bool.and_eq_true] at q
            obtain ⟨⟨⟨⟨q1, q2⟩, q3⟩, q4⟩, q5⟩ := q
            have q1 := Nat.le_of_ble_eq_true q1
            have q2 := Nat.eq_of_beq_eq_true q2
            have q3 := Nat.eq_of_beq_eq_true q3
            have q4 := Nat.eq_of_beq_eq_true q4
            have q5 := Nat.le_of_ble_eq_true q5
            subst q2
            cases hb : bytesOf (c.take (m + 1)) with
            | none => rw [hb] at h; cases h
            | some bs =>
              rw [hb] at h
              cases h
              intro _
              have hbs := bytesOf_eq hb
              have hbl : bs.length = m + 1 := by
                have := congrArg List.length hbs
                rw [List.length_take, length_bvs] at this
                omega
              obtain ⟨ob, hb1, hb2⟩ := hH.obj b i _ hr hg
              cases hb2 with
              | cells _ _ _ c' f' hz hrr hk hl hv hf hq hm =>
                obtain ⟨lo, hi⟩ := f'
                have hcell : ∀ (j : Nat) (x : UInt8), bs[j]? = some x → w.cell? ((⟨i.b, 0 + i.s, none⟩ : Addr).add j) = some (.int .u8 x.toNat) := fun j x hj => by
                  have hj' : j < m + 1 := by rw [← hbl]; exact (List.getElem?_eq_some_iff.1 hj).1
                  have e1 : (c.take (m + 1))[j]? = some (bv x) := by rw [hbs]; simp [bvs, hj]
                  rw [List.getElem?_take, if_pos hj'] at e1
                  obtain ⟨v', y1, y2⟩ := hv j _ e1
                  have y3 := y2.int
                  subst y3
                  rw [addr_add, cell_of_heap hb1, Nat.zero_add]
                  exact y1
                have hsh : w.shape? i.b = some (el, c'.size) := by simp [World.shape?, hb1]
                have hrun := run_unsafeStr (w := w) (ty := ty) (k := k) h0 ht q4 hsh bs (by omega) (by omega) (by omega) hcell
                rw [hbl] at hrun
                obtain ⟨r1, r2⟩ := hH.put hr (by rw [hg]; simp) (.cells c el (0, Nat.max f.2 (m + 1))) (freeze_keep i.b (0 + i.s) (m + 1)) (freeze_at (o := 0 + i.s) (n := m + 1) (by omega) hb1) (by
                  refine .cells _ _ _ _ _ hz hrr hk hl hv (fun j hj g1 g2 => ⟨Nat.zero_le _, ?_⟩) ⟨?_, fun _ => ?_⟩ hm
                  · show j < max f.2 (m + 1)
                    by_cases hlh : lo = hi
                    · subst hlh
                      simp at g1 g2
                      omega
                    · rw [if_neg (by simpa using hlh)] at g1 g2
                      simp only at g1 g2
                      rcases Nat.lt_or_ge j (m + 1) with g | g
                      · omega
                      · -- the last frozen cell lies in the row
                        have hhi : i.s + j < hi := by omega
                        have hqz : hi ≤ i.z := hq.2 q3
                        have hlohi : lo ≤ hi := hq.1
                        rcases Nat.lt_or_ge (i.s + j) lo with g3 | g3
                        · have := hf (hi - 1 - i.s) (by omega) (show lo ≤ i.s + (hi - 1 - i.s) by omega) (show i.s + (hi - 1 - i.s) < hi by omega)
                          omega
                        · have := hf j (by omega) g3 hhi
                          omega
                  · split
                    · exact Nat.le_add_right _ _
                    · show min lo (0 + i.s) ≤ max hi (0 + i.s + (m + 1))
                      omega
                  · have h3 := hq.2 q3
                    simp only at h3
                    split
                    · show 0 + i.s + (m + 1) ≤ i.z
                      omega
                    · show max hi (0 + i.s + (m + 1)) ≤ i.z
                      omega)
                refine ⟨_, ρ, _, gv ?_, r2, r1, .flat 1 (.string ⟨bs.toArray⟩) rfl⟩
                exact hrun
        · cases h
      · cases h
    · cases h
theorem sim_usd {ats : Array TypeId} {ty : TypeId} {x x' : Value} {r : XR} (hx : VR ρ x x') (h : usd x = some r) : XOk P ρ W w (do pure (.value (← Builtin.unsafeSliceData_ ats ty #[x']))) r := by
  unfold usd at h
  split at h
  · rename_i a n c
    cases q : (Nat.beq n 0 || Nat.beq c 0) with
    | true => rw [q] at h; cases h
    | false =>
      rw [q] at h
      cases h
      simp only [Bool.or_eq_false_iff] at q
      have hn : n ≠ 0 := fun e => by rw [e] at q; cases q.1
      have hc : c ≠ 0 := fun e => by rw [e] at q; cases q.2
      obtain ⟨b, o, rfl⟩ := hx.sliceAddr
      obtain ⟨i, hr, hcase⟩ := hx.sliceInv
      rcases hcase with ⟨_, rfl⟩ | ⟨_, c', rfl, q2, _⟩ | ⟨_, q2, _⟩ | ⟨_, q2, _⟩
      · exact xv (Lib.run_unsafeSliceData_row w ats ty _ n c hc) (.ptr _ _ _ hr)
      · exact xv (Lib.run_unsafeSliceData_row w ats ty _ n c' (by omega)) (.ptr _ _ _ hr)
      · omega
      · omega
  · have := hx.of_flat 1 rfl
    subst this
    cases h
    exact xv (Lib.run_unsafeSliceData_nil w ats ty _ _) (.flat 1 _ rfl)
  · cases h
theorem vrs_flat {l m : List Value} (h : VRs ρ l m) (hf : l.all flatV = true) : m = l := h.of_flat 8 fun u hu => by
  rw [List.all_eq_true] at hf
  exact hf u hu
theorem sim_builtin {b : Builtin} {ats : Array TypeId} {ty : TypeId} {cs : Array Bool} {args args' : List Value} {r : XR} (hH : HR P ρ W.get w) (ha : VRs ρ args args') (h : builtinX P W b ats ty args = some r) : XOk P ρ W w (builtin b ats ty cs args'.toArray) r := by
  unfold builtinX at h
  split at h
  · cases ha with
    | cons _ x' _ _ hx hs =>
      cases hs
      exact sim_len hH hx h
  · cases ha with
    | cons _ v' _ _ hv hs =>
      cases hs with
      | cons _ x' _ _ hx hs =>
        cases hs
        rename_i v x
        cases hn : notInt (undO P ats[1]?) with
        | false => rw [hn] at h; cases h
        | true => rw [hn] at h; exact sim_append hH hv hx hn h
  · cases ha with
    | cons _ v' _ _ hv hs =>
      cases hs with
      | cons _ x' _ _ hx hs =>
        cases hs
        exact sim_copy hH hv hx h
  · cases ha with
    | cons _ v' _ _ hv hs =>
      cases hs with
      | cons _ x' _ _ hx hs =>
        cases hs
        exact sim_delete hH hv hx h
  · cases ha with
    | cons _ x' _ _ hx hs =>
      cases hs
      exact sim_clear hH hx h
  · cases hf : args.all flatV with
    | false => rw [hf] at h; cases h
    | true => rw [hf] at h; rw [vrs_flat ha hf]; exact xvF h
  · cases hf : args.all flatV with
    | false => rw [hf] at h; cases h
    | true => rw [hf] at h; rw [vrs_flat ha hf]; exact xvF h
  · cases ha with
    | cons _ x' _ _ hx hs =>
      cases hs
      exact sim_usd hx h
  · cases ha with
    | cons _ v' _ _ hv hs =>
      cases hs with
      | cons _ x' _ _ hx hs =>
        cases hs
        exact sim_unsafeString hH hv hx h
  · cases h
theorem sim_call {c : Call} {ty : TypeId} {r : XR} (hH : HR P ρ W.get w) (hE : Ev ρ fr e) (h : calX P fr W ty c.args.toList c.argTypes c.callee = some r) : XOk P ρ W w (do let d ← resolve e c ty; invoke d.target d.args) r := by
  obtain ⟨cl, args, ats⟩ := c
  unfold calX at h
  split at h
  · rename_i b hb
    simp only at hb
    subst hb
    cases ha : evs fr args.toList with
    | none => simp only [ha] at h; cases h
    | some vs =>
      simp only [ha] at h
      have hvs := evs_arr hE ha
      have := sim_builtin (cs := args.map fun | .const _ => true | _ => false) hH hvs h
      rw [Array.toArray_toList] at this
      exact this
  · rename_i f hf
    simp only at hf
    subst hf
    unfold callV at h
    split at h
    · rename_i g a cap vs hfe ha
      cases h
      obtain ⟨xs', cs', hx, h1, h2⟩ := (hE f _ hfe).funcInv
      have hvs := evs_arr hE ha
      refine ⟨xs' ++ (args.map e).toList ++ cs', ?_, (h1.append hvs).append h2⟩
      show ((Deferred.ofValue (e f) (args.map e)) >>= fun d => invoke d.target d.args).run P w = _
      rw [hx]
      show (callFunc g ((xs'.toArray ++ args.map e) ++ cs'.toArray)).run P w = _
      congr 2
      apply Array.ext'
      simp
    · rename_i l a cap vs hfe ha
      obtain ⟨i, hr, hx⟩ := (hE f _ hfe).yieldInv
      cases q : (a.isEmpty && cap.isEmpty) with
      | false => rw [q] at h; cases h
      | true =>
        rw [q] at h
        cases h
        have hvs := evs_arr hE ha
        refine ⟨i, (args.map e).toList, hr, ?_, hvs⟩
        show ((Deferred.ofValue (e f) (args.map e)) >>= fun d => invoke d.target d.args).run P w = _
        rw [hx]
        show (Instr.yield i.b (#[] ++ args.map e)).run P w = _
        congr 2
        apply Array.ext'
        simp
    · cases h
  · cases h
theorem sim_defer {c : Call} {ty : TypeId} {r : XR} (hE : Ev ρ fr e) (h : defX fr c.args.toList c.callee = some r) : XOk P ρ W w (do pure (.defer (← resolve e c ty))) r := by
  obtain ⟨cl, args, ats⟩ := c
  unfold defX at h
  split at h
  · rename_i f hf
    simp only at hf
    subst hf
    unfold defV at h
    split at h
    · rename_i g a cap vs hfe ha
      cases h
      obtain ⟨xs', cs', hx, h1, h2⟩ := (hE f _ hfe).funcInv
      have hvs := evs_arr hE ha
      refine ⟨xs' ++ (args.map e).toList, cs', ?_, h1.append hvs, h2⟩
      show ((Deferred.ofValue (e f) (args.map e)) >>= fun d => pure (Next.defer d)).run P w = _
      rw [hx]
      show Result.ok (Next.defer ⟨.fn (.func g) cs'.toArray, xs'.toArray ++ args.map e⟩) w = _
      congr 3
      apply Array.ext'
      simp
    · cases h
  · cases h
theorem sim_panic {x : Operand} {r : XR} (hE : Ev ρ fr e) (h : panX (ev fr x) = some r) : XOk P ρ W w (do pure (.value (← Instr.panic (e x)))) r := by
  unfold panX at h
  split at h
  · rename_i t v hx
    cases h
    have hv := hE x _ hx
    obtain ⟨v', hxe, _⟩ := hv.ifaceInv
    refine ⟨e x, ?_, hv⟩
    rw [hxe]
    rfl
  · cases h
/-- every operation -/
theorem xop_sim {o : Oper} {r : XR} (hH : HR P ρ W.get w) (hE : Ev ρ fr e) (h : xop P fr W o.type o.op = some r) : XOk P ρ W w (execOp e o) r := by
  obtain ⟨dst, op, type, pos, after, guard⟩ := o
  simp only at h
  cases op <;> simp only [xop] at h <;> first | cases h | skip
  case move x => exact ⟨e x, .inl rfl, fun v hv => hE x v hv⟩
  case assign x => exact ⟨e x, .inl rfl, fun v hv => hE x v hv⟩
  case pick c a b => exact sim_pick hE h
  case alloc t => exact sim_alloc hH h
  case box t x =>
    cases hx : ev fr x with
    | none => rw [hx] at h; cases h
    | some v => rw [hx] at h; exact sim_box hH (hE x v hx) h
  case build t ps =>
    cases hp : evP fr ps.toList with
    | none => rw [hp] at h; cases h
    | some l =>
      rw [hp] at h
      have := sim_build (w := w) (W := W) (hE.evP hp) h
      have e1 : (ps.toList.map fun (i, x) => (i, e x)).toArray = ps.map fun (i, x) => (i, e x) := by
        apply Array.ext'
        simp
      rw [e1] at this
      exact this
  case buildSlice t n ps =>
    have := sim_buildSlice hH hE h
    have e1 : (ps.toList.map fun (i, x) => (i, e x)).toArray = ps.map fun (i, x) => (i, e x) := by
      apply Array.ext'
      simp
    rw [e1] at this
    exact this
  case insert t m k v => exact sim_update hH hE h
  case load t a => exact sim_load hH hE h
  case store t a x => exact sim_store hH hE h
  case nilCheck x =>
    refine sim_nilCheck (x := x) (fun a ha => ?_) hE h
    simp only [execOp, ha]
  case binOp op t x y yt => exact sim_bin hE h
  case unOp op t x => exact sim_un hE h
  case convert s d x => exact sim_convert hH hE h
  case sliceToArrayPointer t x => exact sim_s2a hE h
  case makeInterface t x => exact sim_iface hE h
  case makeFunc f a c => exact sim_makeFunc hE h
  case makeMap t r => exact sim_makeMap hH hE h
  case makeSlice t l c => exact sim_makeSlice hH hE h
  case slice t x lo hi mx => exact sim_slice hH hE h
  case fieldAddr s x f => exact sim_fieldAddr hE h
  case field t x f => exact sim_field hE h
  case indexAddr t x i => exact sim_indexAddr hE h
  case index t x i => exact sim_index hE h
  case lookup t m k ok => exact sim_lookup hH hE h
  case mapUpdate t m k v => exact sim_update hH hE h
  case mapEntry t m k => exact sim_mapEntry hH hE h
  case entryStore t m s x => exact sim_entryStore hH hE h
  case range t x => exact sim_range hH hE h
  case next it s => exact sim_next hH hE h
  case entry it => exact sim_entry hH hE h
  case typeAssert x xt t ok => exact sim_assert hE h
  case extract t i => exact sim_extract hE h
  case call c => exact sim_call hH hE h
  case defer c => exact sim_defer hE h
  case panic x => exact sim_panic hE h
end
end Go.Proofs.YthlkgmdkabelpaaGreatDoor.X
