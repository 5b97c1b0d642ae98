/-
  Maps: look-ups, updates, entries, iterators. Over any program. No condition.
-/
import Derived.Test.YthlkgmdkabelpaaGreatDoorE9
namespace Go.Proofs.YthlkgmdkabelpaaGreatDoor.X
open Go Go.RowKit
set_option linter.unusedVariables false

section
variable {P : Program} {ρ : Ren} {W : XW} {w : World} {fr : XF} {e : Operand → Value}
theorem pureS_bind {α β : Type} : ∀ (S : Sem α) (f : α → Sem β), pureS P (S.bind f) = (pureS P S).bind fun a => pureS P (f a)
  | .pure a, f => rfl
  | .program k, f => by simp only [Sem.bind, pureS]; exact pureS_bind (k P) f
  | .mark _ k, f => by simp only [Sem.bind, pureS]; exact pureS_bind k f
  | .choose q k, f => by
    simp only [Sem.bind, pureS]
    cases q.forced with
    | true => simp only [cond_true]; exact pureS_bind (k 0) f
    | false => rfl
  | .load _ _ _, _ => rfl
  | .store _ _ _ _, _ => rfl
  | .new _ _, _ => rfl
  | .shape _ _, _ => rfl
  | .freeze _ _ _, _ => rfl
  | .frozen _ _, _ => rfl
  | .getObj _ _, _ => rfl
  | .setObj _ _ _, _ => rfl
  | .sys _ _, _ => rfl
  | .halt _, _ => rfl
theorem pureS_bind' {α β : Type} (S : Sem α) (f : α → Sem β) : pureS P (S >>= f) = (pureS P S).bind fun a => pureS P (f a) := pureS_bind S f
inductive FK (ρ : Ren) : Option (Nat × Value) → Option (Nat × Value) → Prop
  | none : FK ρ none none
  | some (i : Nat) (v v' : Value) (h : VR ρ v v') : FK ρ (some (i, v)) (some (i, v'))
theorem findNow_rel {d : TypeDesc} {k : Value} : ∀ {es es' : List MapEntry}, ERs ρ es es' → es.all (fun e => flatV e.key) = true → ∀ i,
    (Instr.findNow d k es i = none ∧ Instr.findNow d k es' i = none) ∨ ∃ r r', Instr.findNow d k es i = some r ∧ Instr.findNow d k es' i = some r' ∧ FK ρ r r'
  | _, _, .nil, _, i => .inr ⟨none, none, rfl, rfl, .none⟩
  | _, _, .cons e e' l l' hk hv hb hs, h, i => by
    simp only [List.all_cons, Bool.and_eq_true] at h
    have hkk := hk.flatEq h.1
    unfold Instr.findNow
    rw [hkk]
    cases Instr.sameNow d k e.key with
    | none => exact .inl ⟨rfl, rfl⟩
    | some b =>
      cases b with
      | true => exact .inr ⟨_, _, rfl, rfl, .some i _ _ hv⟩
      | false => exact findNow_rel hs h.2 (i + 1)
theorem findAsking_rel {kt : TypeId} {k : Value} (w : World) : ∀ {es es' : List MapEntry}, ERs ρ es es' → es.all (fun e => flatV e.key) = true → ∀ i r, pureS P (Instr.findAsking kt k es i) = some r →
    ∃ r', (Instr.findAsking kt k es' i).run P w = .ok r' w ∧ FK ρ r r'
  | _, _, .nil, _, i, r, h => by
    unfold Instr.findAsking at h
    cases h
    exact ⟨none, rfl, .none⟩
  | _, _, .cons e e' l l' hk hv hb hs, hf, i, r, h => by
    simp only [List.all_cons, Bool.and_eq_true] at hf
    have hkk := hk.flatEq hf.1
    unfold Instr.findAsking at h ⊢
    rw [pureS_bind'] at h
    rw [hkk, Sem.run_bind]
    cases hq : pureS P (Op.equal kt k e.key) with
    | none => rw [hq] at h; cases h
    | some b =>
      rw [hq] at h
      rw [run_pureS hq, Result.andThen_ok]
      cases b with
      | true =>
        cases h
        exact ⟨_, rfl, .some i _ _ hv⟩
      | false => exact findAsking_rel w hs hf.2 (i + 1) r h
theorem findX_rel {kt : TypeId} {k : Value} {es es' : List MapEntry} {r : Option (Nat × Value)} (hes : ERs ρ es es') (h : findX P kt k es = some r) : ∃ r', (Instr.findKey kt k es').run P w = .ok r' w ∧ FK ρ r r' := by
  unfold findX at h
  cases hf : es.all (fun e => flatV e.key) with
  | false => rw [hf] at h; cases h
  | true =>
    rw [hf] at h
    simp only [cond_true] at h
    unfold Instr.findKey at h ⊢
    rw [pureS_bind'] at h
    rw [Sem.run_bind]
    cases hu : pureS P (underlying kt) with
    | none => rw [hu] at h; cases h
    | some d =>
      rw [hu] at h
      rw [run_pureS hu, Result.andThen_ok]
      simp only [Option.bind_some] at h
      rcases findNow_rel (d := d) (k := k) hes hf 0 with ⟨q1, q2⟩ | ⟨r1, r2, q1, q2, q3⟩
      · rw [q1] at h
        rw [q2]
        exact findAsking_rel w hes hf 0 r h
      · rw [q1] at h
        rw [q2]
        cases h
        exact ⟨r2, rfl, q3⟩
theorem keyOk_run {kt : TypeId} {k : Value} {b : Bool} (h : keyOk P kt k b = true) : flatV k = true ∧ (Instr.checkKey b 10000 kt k).run P w = .ok () w := by
  unfold keyOk at h
  simp only [Bool.and_eq_true] at h
  refine ⟨h.1, ?_⟩
  cases hq : pureS P (Instr.checkKey b 10000 kt k) with
  | none => rw [hq] at h; cases h.2
  | some u => exact run_pureS hq w
theorem empty_eq {es es' : List MapEntry} (h : ERs ρ es es') : es'.toArray.isEmpty = es.isEmpty := by
  cases h with
  | nil => rfl
  | cons => rfl
theorem mapAt (hH : HR P ρ W.get w) {n c : Nat} {i : RI} {es : List MapEntry} (hr : ρ n = some i) (hg : W.get n = some (.map es c)) : ∃ es' : List MapEntry, w.heap[i.b]? = some (.map es'.toArray c) ∧ ERs ρ es es' := by
  obtain ⟨ob, h1, h2⟩ := hH.obj n i _ hr hg
  cases h2 with
  | map _ es' _ h => exact ⟨es', h1, h⟩
theorem run_getMap {b : Nat} {es : Array MapEntry} {c : Nat} (h : w.heap[b]? = some (.map es c)) : (getObj b).run P w = .ok (.map es c) w := by
  simp only [getObj, Sem.run, h]
def lkV (ok : Bool) (z : Value) : Option (Nat × Value) → Value
  | some (_, v) => okV ok v true
  | none => okV ok z false
theorem lookup_run {t kt el : TypeId} {x k z : Value} {ok : Bool} {es : List MapEntry} {q : Option (Nat × Value)} (ht : P.underlying t = some (.map kt el)) (hz : zeroOf P el = some z)
    (hx : (x = .map none ∧ es = []) ∨ ∃ b c, x = .map (some b) ∧ w.heap[b]? = some (.map es.toArray c)) (hc : (Instr.checkKey es.toArray.isEmpty 10000 kt k).run P w = .ok () w) (hf : (Instr.findKey kt k es).run P w = .ok q w) :
    (Instr.lookup t x k ok).run P w = .ok (lkV ok z q) w := by
  unfold Instr.lookup
  rw [Sem.run_bind, run_und ht, Result.andThen_ok]
  rcases hx with ⟨rfl, rfl⟩ | ⟨b, c, rfl, hb⟩
  · simp only [Sem.run_bind, Sem.run_pure, Result.andThen_ok]
    rw [hc, Result.andThen_ok, hf, Result.andThen_ok]
    cases q with
    | none =>
      simp only [Sem.run_bind, run_zero hz, Sem.run_pure, Result.andThen_ok]
      cases ok <;> rfl
    | some q =>
      simp only [Sem.run_bind, Sem.run_pure, Result.andThen_ok]
      cases ok <;> rfl
  · simp only [Sem.run_bind, Sem.run_pure, Result.andThen_ok, run_getMap hb]
    rw [hc, Result.andThen_ok, hf, Result.andThen_ok]
    cases q with
    | none =>
      simp only [Sem.run_bind, run_zero hz, Sem.run_pure, Result.andThen_ok]
      cases ok <;> rfl
    | some q =>
      simp only [Sem.run_bind, Sem.run_pure, Result.andThen_ok]
      cases ok <;> rfl
theorem okV_rel {ok b : Bool} {v v' : Value} (hv : VR ρ v v') : VR ρ (okV ok v b) (okV ok v' b) := by
  cases ok with
  | false => exact hv
  | true => exact .tuple [_, _] [_, _] (.cons _ _ _ _ hv (.cons _ _ _ _ (.flat 1 _ rfl) .nil))
theorem sim_lookup {t : TypeId} {m k : Operand} {ok : Bool} {r : XR} (hH : HR P ρ W.get w) (hE : Ev ρ fr e) (h : lkuX P W ok (P.underlying t) (ev fr m) (ev fr k) = some r) : XOk P ρ W w (do pure (.value (← Instr.lookup t (e m) (e k) ok))) r := by
  unfold lkuX at h
  split at h
  · rename_i kt el mv kv ht hm hk
    unfold lku1 at h
    split at h
    · rename_i es c z hmg hz
      cases hko : keyOk P kt kv es.isEmpty with
      | false => rw [hko] at h; cases h
      | true =>
        rw [hko] at h
        simp only [cond_true] at h
        obtain ⟨hkf, hck⟩ := keyOk_run (w := w) hko
        have hke := (hE k _ hk).flatEq hkf
        obtain ⟨_, _, _, hzf⟩ := zero_info hz
        have main : ∀ es' : List MapEntry, ERs ρ es es' → ((e m = .map none ∧ es' = []) ∨ ∃ b c, e m = .map (some b) ∧ w.heap[b]? = some (.map es'.toArray c)) → XOk P ρ W w (do pure (.value (← Instr.lookup t (e m) (e k) ok))) r := fun es' hes hx => by
          cases hfx : findX P kt kv es with
          | none => rw [hfx] at h; cases h
          | some q =>
            rw [hfx] at h
            obtain ⟨r', f1, f2⟩ := findX_rel (w := w) hes hfx
            have hrun := lookup_run (ok := ok) (k := e k) ht hz hx (by rw [hke, empty_eq hes]; exact hck) (by rw [hke]; exact f1)
            cases f2 with
            | none => cases h; exact xv hrun (okV_rel (.flat 8 _ hzf))
            | some i v v' hv => cases h; exact xv hrun (okV_rel hv)
        unfold mapGet at hmg
        split at hmg
        · cases hmg
          exact main [] .nil (.inl ⟨(hE m _ hm).of_flat 1 rfl, rfl⟩)
        · rename_i n
          obtain ⟨i, hr, hme⟩ := (hE m _ hm).mapInv
          split at hmg
          · rename_i es2 c2 hg
            cases hmg
            obtain ⟨es', g1, g2⟩ := mapAt hH hr hg
            exact main es' g2 (.inr ⟨_, _, hme, g1⟩)
          · cases hmg
        · cases hmg
    · cases h
  · cases h

/-! ### a map changed -/
def setO (w : World) (b : Nat) (o : Obj) : World := { w with heap := w.heap.setIfInBounds b o }
theorem setO_keep (w : World) (b : Nat) (o : Obj) : Keeps (fun k => k = b) w (setO w b o) :=
  ⟨rfl, rfl, rfl, by simp [setO], fun k hk hn => by
    show (w.heap.setIfInBounds b o)[k]? = _
    rw [Array.getElem?_setIfInBounds_ne (fun e => hn e.symm)]⟩
theorem setO_at {b : Nat} {o o' : Obj} (h : w.heap[b]? = some o') : (setO w b o).heap[b]? = some o := by
  have := lt_of_heap h
  show (w.heap.setIfInBounds b o)[b]? = _
  rw [Array.getElem?_setIfInBounds_self, if_pos this]
theorem run_setMap {b : Nat} {es : Array MapEntry} {c : Nat} {o : Obj} (h : w.heap[b]? = some (.map es c)) : (setObj b o).run P w = .ok () (setO w b o) := by
  simp only [setObj, Sem.run, h, setO]
theorem ERs.get {ρ : Ren} : ∀ {l l' : List MapEntry}, ERs ρ l l' → ∀ (i : Nat) (e : MapEntry), l[i]? = some e → ∃ e' : MapEntry, l'[i]? = some e' ∧ VR ρ e.key e'.key ∧ VR ρ e.val e'.val ∧ e'.born = e.born
  | _, _, .nil, i, e, h => by simp at h
  | _, _, .cons a a' l l' hk hv hb hs, 0, e, h => by simp at h; subst h; exact ⟨a', rfl, hk, hv, hb⟩
  | _, _, .cons a a' l l' hk hv hb hs, i + 1, e, h => by simpa using hs.get i e (by simpa using h)
theorem ERs.set {ρ : Ren} : ∀ {l l' : List MapEntry}, ERs ρ l l' → ∀ i {e e' : MapEntry}, VR ρ e.key e'.key → VR ρ e.val e'.val → e'.born = e.born → ERs ρ (l.set i e) (l'.set i e')
  | _, _, .nil, i, e, e', _, _, _ => .nil
  | _, _, .cons a a' l l' hk hv hb hs, 0, e, e', h1, h2, h3 => .cons _ _ _ _ h1 h2 h3 hs
  | _, _, .cons a a' l l' hk hv hb hs, i + 1, e, e', h1, h2, h3 => .cons _ _ _ _ hk hv hb (hs.set i h1 h2 h3)
theorem ERs.append {ρ : Ren} : ∀ {l l' m m' : List MapEntry}, ERs ρ l l' → ERs ρ m m' → ERs ρ (l ++ m) (l' ++ m')
  | _, _, _, _, .nil, k => k
  | _, _, _, _, .cons a a' l l' hk hv hb hs, k => .cons _ _ _ _ hk hv hb (hs.append k)
theorem ERs.erase {ρ : Ren} : ∀ {l l' : List MapEntry}, ERs ρ l l' → ∀ i, ERs ρ (l.eraseIdx i) (l'.eraseIdx i)
  | _, _, .nil, i => .nil
  | _, _, .cons a a' l l' hk hv hb hs, 0 => hs
  | _, _, .cons a a' l l' hk hv hb hs, i + 1 => .cons _ _ _ _ hk hv hb (hs.erase i)
theorem modify_eq {l : List MapEntry} {i : Nat} {e : MapEntry} (f : MapEntry → MapEntry) (h : l[i]? = some e) : l.toArray.modify i f = (l.set i (f e)).toArray := by
  apply Array.ext'
  apply List.ext_getElem?
  intro j
  rw [Array.getElem?_toList, Array.getElem?_modify]
  show _ = (l.set i (f e))[j]?
  rw [List.getElem?_set]
  by_cases hj : i = j
  · subst hj
    obtain ⟨h1, h2⟩ := List.getElem?_eq_some_iff.1 h
    simp [h1, h2]
  · simp [hj]
theorem stays_run {old new : Value} (h : keyStays old new = true) : (Instr.keyThatStays old new).run P w = .ok new w := by
  unfold keyStays at h
  simp only [Bool.and_eq_true] at h
  unfold Instr.keyThatStays
  rw [if_pos h.2]
  rfl
theorem upd_ok {S : Sem Unit} {n c c2 : Nat} {i : RI} {es es2 es' es2' : List MapEntry} {v : Value} (hv : v = undef) (hH : HR P ρ W.get w) (hr : ρ n = some i) (hg : W.get n = some (.map es c)) (hb : w.heap[i.b]? = some (.map es'.toArray c)) (h2 : ERs ρ es2 es2')
    (hS : S.run P w = .ok () (setO w i.b (.map es2'.toArray c2))) : XOk P ρ W w (do S; pure .skip) (.mod v (W.put n (some (.map es2 c2)))) := fun _ => by
  subst hv
  obtain ⟨q1, q2⟩ := hH.put hr (by rw [hg]; simp) (.map es2 c2) (setO_keep w i.b _) (setO_at hb) (.map es2 es2' c2 h2)
  exact ⟨undef, ρ, _, gu hS, q2, q1, vr_undef⟩
theorem upd_okV {S : Sem Value} {n c c2 : Nat} {i : RI} {es es2 es' es2' : List MapEntry} {v v' : Value} (hv : VR ρ v v') (hH : HR P ρ W.get w) (hr : ρ n = some i) (hg : W.get n = some (.map es c)) (hb : w.heap[i.b]? = some (.map es'.toArray c)) (h2 : ERs ρ es2 es2')
    (hS : S.run P w = .ok v' (setO w i.b (.map es2'.toArray c2))) : XOk P ρ W w (do pure (.value (← S))) (.mod v (W.put n (some (.map es2 c2)))) := fun _ => by
  obtain ⟨q1, q2⟩ := hH.put hr (by rw [hg]; simp) (.map es2 c2) (setO_keep w i.b _) (setO_at hb) (.map es2 es2' c2 h2)
  exact ⟨v', ρ, _, gv hS, q2, q1, hv⟩
theorem sim_update {t : TypeId} {m k x : Operand} {r : XR} (hH : HR P ρ W.get w) (hE : Ev ρ fr e) (h : updX P W (P.underlying t) (ev fr m) (ev fr k) (ev fr x) = some r) : XOk P ρ W w (do Instr.mapUpdate t (e m) (e k) (e x); pure .skip) r := by
  unfold updX at h
  split at h
  · rename_i kt el n kv v ht hm hk hx
    unfold upd1 at h
    split at h
    · rename_i es c hg
      cases hko : keyOk P kt kv false with
      | false => rw [hko] at h; cases h
      | true =>
        rw [hko] at h
        simp only [cond_true] at h
        obtain ⟨hkf, hck⟩ := keyOk_run (w := w) hko
        have hke := (hE k _ hk).flatEq hkf
        have hxe := hE x _ hx
        obtain ⟨i, hr, hme⟩ := (hE m _ hm).mapInv
        obtain ⟨es', g1, g2⟩ := mapAt hH hr hg
        cases hfx : findX P kt kv es with
        | none => rw [hfx] at h; cases h
        | some q =>
          rw [hfx] at h
          obtain ⟨r', f1, f2⟩ := findX_rel (w := w) g2 hfx
          cases f2 with
          | none =>
            cases h
            refine upd_ok rfl hH hr hg g1 (g2.append (.cons ⟨kv, v, c⟩ ⟨kv, e x, c⟩ _ _ (.flat 8 _ hkf) hxe rfl .nil)) ?_
            unfold Instr.mapUpdate
            rw [hme, hke]
            simp only [Sem.run_bind, run_und ht, Result.andThen_ok, run_getMap g1, hck, f1, Sem.run_pure]
            rw [run_setMap g1]
            simp
          | some j u u' hu =>
            simp only [upd2] at h
            cases hj : es[j]? with
            | none => rw [hj] at h; cases h
            | some en =>
              rw [hj] at h
              simp only [upd3] at h
              cases hks : keyStays en.key kv with
              | false => rw [hks] at h; cases h
              | true =>
                rw [hks] at h
                cases h
                obtain ⟨en', e1, e2, e3, e4⟩ := g2.get j en hj
                have hkeq : en'.key = en.key := e2.flatEq (by unfold keyStays at hks; simp only [Bool.and_eq_true] at hks; exact hks.1)
                refine upd_ok rfl hH hr hg g1 (g2.set j (e := ⟨kv, v, en.born⟩) (e' := ⟨kv, e x, en'.born⟩) (.flat 8 _ hkf) hxe e4) ?_
                unfold Instr.mapUpdate
                rw [hme, hke]
                have hst : (Instr.keyThatStays (((es'.toArray[j]?).map (·.key)).getD kv) kv).run P w = .ok kv w := by
                  rw [List.getElem?_toArray, e1]
                  simp only [Option.map_some, Option.getD_some, hkeq]
                  exact stays_run hks
                simp only [Sem.run_bind, run_und ht, Result.andThen_ok, run_getMap g1, hck, f1, hst, Sem.run_pure]
                rw [run_setMap g1, modify_eq _ e1]
    · cases h
  · cases h
theorem sim_mapEntry {t : TypeId} {m k : Operand} {r : XR} (hH : HR P ρ W.get w) (hE : Ev ρ fr e) (h : menX P W (P.underlying t) (ev fr m) (ev fr k) = some r) : XOk P ρ W w (do pure (.value (← Instr.mapEntry t (e m) (e k)))) r := by
  unfold menX at h
  split at h
  · rename_i kt el n kv ht hm hk
    unfold men1 at h
    split at h
    · rename_i es c z hg hz
      cases hko : keyOk P kt kv false with
      | false => rw [hko] at h; cases h
      | true =>
        rw [hko] at h
        simp only [cond_true] at h
        obtain ⟨hkf, hck⟩ := keyOk_run (w := w) hko
        have hke := (hE k _ hk).flatEq hkf
        obtain ⟨i, hr, hme⟩ := (hE m _ hm).mapInv
        obtain ⟨es', g1, g2⟩ := mapAt hH hr hg
        obtain ⟨_, _, _, hzf⟩ := zero_info hz
        cases hfx : findX P kt kv es with
        | none => rw [hfx] at h; cases h
        | some q =>
          rw [hfx] at h
          obtain ⟨r', f1, f2⟩ := findX_rel (w := w) g2 hfx
          cases f2 with
          | none =>
            cases h
            refine upd_okV (v' := .tuple #[z, goInt c]) (.tuple [_, _] [_, _] (.cons _ _ _ _ (.flat 8 _ hzf) (.cons _ _ _ _ (.flat 1 _ rfl) .nil))) hH hr hg g1 (g2.append (.cons ⟨kv, z, c⟩ ⟨kv, z, c⟩ _ _ (.flat 8 _ hkf) (.flat 8 _ hzf) rfl .nil)) ?_
            unfold Instr.mapEntry
            rw [hme, hke]
            simp only [Sem.run_bind, run_und ht, Result.andThen_ok, run_getMap g1, hck, f1, Sem.run_pure, run_zero hz]
            rw [run_setMap g1]
            simp
          | some j u u' hu =>
            simp only [men2] at h
            cases hj : es[j]? with
            | none => rw [hj] at h; cases h
            | some en =>
              rw [hj] at h
              simp only [men3] at h
              cases hks : keyStays en.key kv with
              | false => rw [hks] at h; cases h
              | true =>
                rw [hks] at h
                cases h
                obtain ⟨en', e1, e2, e3, e4⟩ := g2.get j en hj
                have hkeq : en'.key = en.key := e2.flatEq (by unfold keyStays at hks; simp only [Bool.and_eq_true] at hks; exact hks.1)
                refine upd_okV (v' := .tuple #[u', goInt en'.born]) (.tuple [_, _] [_, _] (.cons _ _ _ _ hu (.cons _ _ _ _ (by rw [e4]; exact .flat 1 _ rfl) .nil))) hH hr hg g1 (g2.set j (e := ⟨kv, en.val, en.born⟩) (e' := ⟨kv, en'.val, en'.born⟩) (.flat 8 _ hkf) e3 e4) ?_
                unfold Instr.mapEntry
                rw [hme, hke]
                have hst : (Instr.keyThatStays (((es'.toArray[j]?).map (·.key)).getD kv) kv).run P w = .ok kv w := by
                  rw [List.getElem?_toArray, e1]
                  simp only [Option.map_some, Option.getD_some, hkeq]
                  exact stays_run hks
                simp only [Sem.run_bind, run_und ht, Result.andThen_ok, run_getMap g1, hck, f1, hst, Sem.run_pure]
                rw [run_setMap g1, modify_eq _ e1, List.getElem?_toArray, e1]
                rfl
    · cases h
  · cases h
end
end Go.Proofs.YthlkgmdkabelpaaGreatDoor.X
