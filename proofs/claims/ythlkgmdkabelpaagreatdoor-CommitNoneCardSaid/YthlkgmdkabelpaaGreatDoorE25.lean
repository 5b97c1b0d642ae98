/-
  What is known of two functions of the libraries: the hash of a string, the check of a builder's copies: as hooks of the abstract machine. Over any program. No condition.
-/
import Derived.Test.YthlkgmdkabelpaaGreatDoorE24
import Derived.Test.YthlkgmdkabelpaaGreatDoorGModel
namespace Go.Proofs.YthlkgmdkabelpaaGreatDoor.X
open Go Go.RowKit
set_option linter.unusedVariables false

/-! ### the hash, carried out word by word -/
def fN {α : Type} (n : Nat) (k : Nat → α) : α := match n with
  | 0 => k 0
  | m + 1 => k (m + 1)
def fW {α : Type} (x : W32) (k : W32 → α) : α := fN x.toNat fun n => k (BitVec.ofNat 32 n)
def schedF {α : Type} (b : List UInt8) : Nat → List W32 → (List W32 → α) → α
  | 0, W, k => k W
  | i + 1, W, k => fW (nextW b W) fun x => schedF b i (W ++ [x]) k
def rndsF {α : Type} (W : List W32) : Nat → Nat → S8 → (S8 → α) → α
  | 0, _, s, k => k s
  | n + 1, i, s, k => fW (rT s (wAt kc i) (wAt W i)) fun t => fW (t + rU s) fun x => fW (s.d + t) fun y => rndsF W n (i + 1) ⟨x, s.a, s.b, s.c, y, s.e, s.f, s.g⟩ k
def fS {α : Type} (s : S8) (k : S8 → α) : α := fW s.a fun a => fW s.b fun b => fW s.c fun c => fW s.d fun d => fW s.e fun e => fW s.f fun f => fW s.g fun g => fW s.h fun h => k ⟨a, b, c, d, e, f, g, h⟩
def blkF {α : Type} (s : S8) (b : List UInt8) (k : S8 → α) : α := schedF b 64 [] fun W => rndsF W 64 0 s fun t => fS (addS s t) k
def blksF {α : Type} (m : List UInt8) : Nat → Nat → S8 → (S8 → α) → α
  | 0, _, s, k => k s
  | n + 1, i, s, k => blkF s ((m.drop (64 * i)).take 64) fun s => blksF m n (i + 1) s k
def fL {α : Type} : List UInt8 → List UInt8 → (List UInt8 → α) → α
  | [], acc, k => k acc.reverse
  | x :: l, acc, k => fN x.toNat fun n => fL l (UInt8.ofNat n :: acc) k
def shaF {α : Type} (l : List UInt8) (k : List UInt8 → α) : α := fL l [] fun l => blksF (padL l) ((padL l).length / 64) 0 (S8.of iv) fun s => fL (s.list.flatMap bytesW) [] k
theorem fN_eq {α : Type} (n : Nat) (k : Nat → α) : fN n k = k n := by cases n <;> rfl
theorem fW_eq {α : Type} (x : W32) (k : W32 → α) : fW x k = k x := by
  unfold fW
  rw [fN_eq]
  simp
theorem schedF_eq {α : Type} (b : List UInt8) (k : List W32 → α) : ∀ (n i : Nat), schedF b n (sched b i) k = k (sched b (i + n))
  | 0, i => rfl
  | n + 1, i => by
    unfold schedF
    rw [fW_eq]
    have := schedF_eq b k n (i + 1)
    rw [show i + 1 + n = i + (n + 1) by omega] at this
    exact this
theorem rndsF_eq {α : Type} (W : List W32) (s : S8) (k : S8 → α) : ∀ (n i : Nat), rndsF W n i (rnds W s i) k = k (rnds W s (i + n))
  | 0, i => rfl
  | n + 1, i => by
    unfold rndsF
    rw [fW_eq, fW_eq, fW_eq]
    have := rndsF_eq W s k n (i + 1)
    rw [show i + 1 + n = i + (n + 1) by omega] at this
    exact this
theorem fS_eq {α : Type} (s : S8) (k : S8 → α) : fS s k = k s := by
  unfold fS
  simp only [fW_eq]
theorem blkF_eq {α : Type} (s : S8) (b : List UInt8) (k : S8 → α) : blkF s b k = k (blk s b) := by
  unfold blkF
  have h1 := schedF_eq b (fun W => rndsF W 64 0 s fun t => fS (addS s t) k) 64 0
  rw [show sched b 0 = [] from rfl] at h1
  rw [h1]
  have h2 := rndsF_eq (sched b (0 + 64)) s (fun t => fS (addS s t) k) 64 0
  rw [show rnds (sched b (0 + 64)) s 0 = s from rfl] at h2
  rw [h2, fS_eq]
  rfl
theorem blksF_eq {α : Type} (m : List UInt8) (k : S8 → α) : ∀ (n i : Nat), blksF m n i (blks m i) k = k (blks m (i + n))
  | 0, i => rfl
  | n + 1, i => by
    unfold blksF
    rw [blkF_eq]
    have := blksF_eq m k n (i + 1)
    rw [show i + 1 + n = i + (n + 1) by omega] at this
    exact this
theorem fL_eq {α : Type} (k : List UInt8 → α) : ∀ (l acc : List UInt8), fL l acc k = k (acc.reverse ++ l)
  | [], acc => by simp [fL]
  | x :: l, acc => by
    unfold fL
    rw [fN_eq, fL_eq k l]
    simp
theorem shaF_eq {α : Type} (l : List UInt8) (k : List UInt8 → α) : shaF l k = k (sha l) := by
  unfold shaF
  rw [fL_eq]
  have := blksF_eq (padL l) (fun s => fL (s.list.flatMap bytesW) [] k) ((padL l).length / 64) 0
  rw [show blks (padL l) 0 = S8.of iv from rfl, Nat.zero_add] at this
  simp only [List.reverse_nil, List.nil_append]
  rw [this, fL_eq]
  simp [sha]
def hashOut (W : XW) (h : List UInt8) : Option (Value × XW) := some (.agg (bvs h).toArray, W)
def hSum (args : List Value) (W : XW) : Option (Value × XW) := match args with
  | [.string s] => bif Nat.ble s.size 140737488351232 then shaF s.data.toList (hashOut W) else none
  | _ => none

/-! ### a builder's copies -/
def ccFresh (W : XW) (n o : Nat) : Option XW → Option (Value × XW)
  | some W' => some (.tuple #[], W')
  | none => none
def ccCell (P : Program) (bt : TypeId) (W : XW) (n o len : Nat) (e : TypeId) : Option Value → Option (Value × XW)
  | some (.pointer none) => bif liesAt P P.depth e (len / P.cellsOf e) o bt 1 then ccFresh W n o (storeX W n o [.pointer (some ⟨n, o, none⟩)]) else none
  | some (.pointer (some ⟨m, p, none⟩)) => bif Nat.beq n m && Nat.beq o p then some (.tuple #[], W) else none
  | _ => none
def ccObj (P : Program) (bt : TypeId) (W : XW) (n o : Nat) : Option XObj → Option (Value × XW)
  | some (.cells c e _) => ccCell P bt W n o c.length e c[o]?
  | _ => none
def hCopyCheck (P : Program) (bt : TypeId) (args : List Value) (W : XW) : Option (Value × XW) := match args with
  | [.pointer (some ⟨n, o, none⟩)] => ccObj P bt W n o (W.get n)
  | _ => none

section
variable {P : Program}
theorem HR.keep {ρ : Ren} {G : GH} {w w' : World} (h : HR P ρ G w) (hk : Keeps noBlock w w') : HR P ρ G w' :=
  ⟨fun n i o h1 h2 => let ⟨ob, q1, q2⟩ := h.obj n i o h1 h2; ⟨ob, hk.heap q1 (fun e => e), q2⟩, h.inj⟩
theorem Step.keep {ρ : Ren} {G : GH} {nx : Nat} {w w' : World} (hk : Keeps noBlock w w') : Step ρ G nx w ρ G nx w' :=
  ⟨.refl _, hk.mono fun _ _ e => e.elim, fun _ h => .inl h, fun _ h => .inl h, Nat.le_refl _⟩
theorem flat_bvs : ∀ l : List UInt8, (bvs l).all (flatN 7) = true
  | [] => rfl
  | x :: l => by
    simp only [bvs, List.map_cons, List.all_cons]
    rw [show flatN 7 (bv x) = true from rfl]
    exact flat_bvs l
theorem hSum_ext {args : List Value} {W W' : XW} {v : Value} (h : hSum args W = some (v, W')) : Ext W W' := by
  unfold hSum at h
  split at h
  · rename_i s
    cases hb : Nat.ble s.size 140737488351232 <;> rw [hb] at h
    · cases h
    · rw [cond_true, shaF_eq] at h
      cases h
      exact .refl _
  · cases h
theorem hSum_sim {f : FuncId} (hc : ∀ (s : ByteArray) (w : World), s.size ≤ 140737488351232 → Calls P f #[.string s] w fun e w' => e = .returned (.agg (bvs (sha s.data.toList)).toArray) ∧ Keeps noBlock w w')
    {args : List Value} {W W' : XW} {v : Value} (h : hSum args W = some (v, W')) {ρ : Ren} {args' : List Value} {w : World} {m : Nat} (hH : HR P ρ W.get w) (hA : VRs ρ args args') : CallsIn Fence.wide m P f args'.toArray w (QF P ρ W w (.ret v) W') := by
  unfold hSum at h
  split at h
  · rename_i s
    cases hb : Nat.ble s.size 140737488351232 <;> rw [hb] at h
    · cases h
    · rw [cond_true, shaF_eq] at h
      cases h
      have hle := Nat.le_of_ble_eq_true hb
      cases hA with
      | cons _ x _ l' h1 h2 =>
        cases h2
        have : x = .string s := h1.of_flat 1 rfl
        subst this
        refine CallsIn.mono (callsIn_wide.2 (hc s w hle)) fun e w' ⟨he, hk⟩ => ?_
        subst he
        exact ⟨ρ, .keep hk, hH.keep hk, .flat 8 _ (by
          show (bvs _).toArray.toList.all (flatN 7) = true
          rw [List.toList_toArray]
          exact flat_bvs _)⟩
  · cases h
theorem rowAt_shift {fits : TypeId → Bool} {e : TypeId} {count count' off n q : Nat} : ∀ {d : Nat}, rowAt P fits d e count off n = true → q + count ≤ count' → rowAt P fits d e count' (off + q * P.cellsOf e) n = true
  | 0, h, _ => by cases h
  | d + 1, h, hc => by
    unfold rowAt at h ⊢
    by_cases hs : P.cellsOf e = 0
    · simp [hs] at h
    · have hp : 0 < P.cellsOf e := Nat.pos_of_ne_zero hs
      simp only [hs, if_false] at h ⊢
      rw [Nat.add_mul_mod_self_right, Nat.add_mul_div_right _ _ hp]
      simp only [Bool.or_eq_true, Bool.and_eq_true, decide_eq_true_eq] at h ⊢
      rcases h with ⟨⟨h1, h2⟩, h3⟩ | ⟨h1, h2⟩
      · exact .inl ⟨⟨h1, by omega⟩, h3⟩
      · exact .inr ⟨by omega, h2⟩
theorem liesAt_shift {e : TypeId} {count count' off q : Nat} (hc : q + count ≤ count') : ∀ {d : Nat} {u : TypeId} {n : Nat}, liesAt P d e count off u n = true → liesAt P d e count' (off + q * P.cellsOf e) u n = true
  | 0, _, _, h => by cases h
  | d + 1, u, n, h => by
    unfold liesAt at h ⊢
    simp only [Bool.or_eq_true] at h ⊢
    rcases h with h | h
    · exact .inl (rowAt_shift h hc)
    · right
      cases hu : P.underlying u with
      | none => rw [hu] at h; cases h
      | some t =>
        rw [hu] at h
        cases t <;> first | (cases h; done) | skip
        exact liesAt_shift hc h
theorem hCopyCheck_ext {bt : TypeId} {args : List Value} {W W' : XW} {v : Value} (h : hCopyCheck P bt args W = some (v, W')) : Ext W W' := by
  unfold hCopyCheck at h
  split at h
  · unfold ccObj at h
    split at h
    · unfold ccCell at h
      split at h
      · rename_i n o _ _ _ _ _ _
        revert h
        generalize liesAt _ _ _ _ _ _ _ = b
        intro h
        cases b
        · cases h
        · simp only [cond_true] at h
          unfold ccFresh at h
          split at h
          · rename_i W1 hs; cases h; exact storeX_ext hs
          · cases h
      · revert h
        generalize (_ && _ : Bool) = b
        intro h
        cases b <;> cases h
        exact .refl _
      · cases h
    · cases h
  · cases h
theorem hCopyCheck_sim {f : FuncId} {bt : TypeId}
    (hu : ∀ (b q : Nat) (w : World), w.cell? ⟨b, q, none⟩ = some (.pointer (some ⟨b, q, none⟩)) → Calls P f #[.pointer (some ⟨b, q, none⟩)] w fun e w' => e = .returned (.tuple #[]) ∧ w' = w)
    (hf : ∀ (b q z : Nat) (e : TypeId) (w : World), w.cell? ⟨b, q, none⟩ = some (.pointer none) → w.shape? b = some (e, z) → q < z → liesAt P P.depth e (z / P.cellsOf e) q bt 1 = true → w.frozen? ⟨b, q, none⟩ = false →
      Calls P f #[.pointer (some ⟨b, q, none⟩)] w fun e w' => e = .returned (.tuple #[]) ∧ w' = w.setCell ⟨b, q, none⟩ (.pointer (some ⟨b, q, none⟩)))
    {args : List Value} {W W' : XW} {v : Value} (h : hCopyCheck P bt args W = some (v, W')) {ρ : Ren} {args' : List Value} {w : World} {m : Nat} (hH : HR P ρ W.get w) (hA : VRs ρ args args') : CallsIn Fence.wide m P f args'.toArray w (QF P ρ W w (.ret v) W') := by
  unfold hCopyCheck at h
  split at h
  · rename_i n o
    cases hA with
    | cons _ x _ l' h1 h2 =>
      cases h2
      obtain ⟨i, hi, rfl⟩ : ∃ i, ρ n = some i ∧ x = .pointer (some ⟨i.b, o + i.s, none⟩) := by
        cases h1 with
        | flat k _ hk => cases k <;> simp [flatN] at hk
        | ptr _ _ i hi => exact ⟨i, hi, rfl⟩
      unfold ccObj at h
      split at h
      · rename_i c e fr hg
        obtain ⟨c', f', hb, hz, hr, hk, hl, hrow⟩ := cellsAt hH hi hg
        unfold ccCell at h
        split at h
        · rename_i _ hv
          cases hq : liesAt P P.depth e (c.length / P.cellsOf e) o bt 1 <;> rw [hq] at h
          · cases h
          · simp only [cond_true] at h
            unfold ccFresh at h
            split at h
            · rename_i W1 hs
              cases h
              obtain ⟨v', y1, y2⟩ := hrow o _ hv
              have y3 : v' = .pointer none := y2.of_flat 1 rfl
              subst y3
              have ho : o < c.length := (List.getElem?_eq_some_iff.1 hv).1
              have hs1 := shiftAt hH hi hg
              obtain ⟨ob, hb2, hff⟩ := frozenAt hH hi hg
              rw [hb] at hb2
              cases hb2
              obtain ⟨hff, _⟩ := hff _ _ _ rfl
              obtain ⟨cc, ee, ff, hg2, hl2, hfr2, _, hW1⟩ := storeX_put hs
              rw [hg] at hg2
              cases hg2
              obtain ⟨s1, s2, s3⟩ := storeX_sim hH hi hs (.cons _ _ _ _ (.ptr n o i hi) .nil)
              have hlies : liesAt P P.depth e (i.z / P.cellsOf e) (o + i.s) bt 1 = true := by
                by_cases hce : P.cellsOf e = 0
                · rw [hce] at hq ⊢
                  simp only [Nat.div_zero] at hq ⊢
                  have := liesAt_shift (q := 0) (count' := 0) (by omega) hq
                  have hno : ∀ d u n off, liesAt P d e 0 off u n = true → False := fun d => by
                    induction d with
                    | zero => intro u n off h; cases h
                    | succ d ih =>
                      intro u n off h
                      unfold liesAt at h
                      simp only [Bool.or_eq_true] at h
                      rcases h with h | h
                      · cases hd : P.depth with
                        | zero => rw [hd] at h; cases h
                        | succ dd => rw [hd] at h; unfold rowAt at h; simp [hce] at h
                      · cases hu' : P.underlying u with
                        | none => rw [hu'] at h; cases h
                        | some t =>
                          rw [hu'] at h
                          cases t <;> first | (cases h; done) | skip
                          exact ih _ _ _ h
                  exact (hno _ _ _ _ hq).elim
                · have hke : P.cellsOf e = i.k := by
                    cases hinf : P.info? e with
                    | none => simp [Program.cellsOf, hinf] at hce
                    | some t => simp [Program.cellsOf, hinf, hk t hinf]
                  have hp : 0 < i.k := by rw [← hke]; exact Nat.pos_of_ne_zero hce
                  have hdiv : i.s = i.s / i.k * i.k := by have := Nat.div_add_mod i.s i.k; rw [hs1, Nat.add_zero, Nat.mul_comm] at this; exact this.symm
                  have hcount : i.s / i.k + c.length / P.cellsOf e ≤ i.z / P.cellsOf e := by
                    have a1 := Nat.add_mul_div_right c.length (i.s / i.k) hp
                    rw [← hdiv] at a1
                    rw [hke, Nat.add_comm, ← a1]
                    exact Nat.div_le_div_right (by omega)
                  have := liesAt_shift (P := P) hcount hq
                  rw [hke, ← hdiv] at this
                  rw [hke]
                  exact this
              have hcall := hf i.b (o + i.s) i.z e w (by rw [cell_of_heap hb, Nat.add_comm]; exact y1) (by simp [World.shape?, hb, hz]) (by omega) hlies (by
                simp only [World.frozen?, hb]
                cases q : (decide (f'.1 ≤ o + i.s) && decide (o + i.s < f'.2)) with
                | false => rfl
                | true =>
                  simp only [Bool.and_eq_true, decide_eq_true_eq] at q
                  exact absurd (hff o (by omega) (by omega) (by omega)) (hfr2 o (Nat.le_refl _) (by simp)))
              refine CallsIn.mono (callsIn_wide.2 hcall) fun en w' ⟨he, hw⟩ => ?_
              subst he hw
              have hset : w.setCells i.b (o + i.s) [.pointer (some ⟨i.b, o + i.s, none⟩)] = w.setCell ⟨i.b, o + i.s, none⟩ (.pointer (some ⟨i.b, o + i.s, none⟩)) := rfl
              rw [hset] at s2 s3
              exact ⟨ρ, s3, s2, .flat 8 _ rfl⟩
            · cases h
        · rename_i _ m' p hv
          cases hq : (Nat.beq n m' && Nat.beq o p) <;> rw [hq] at h
          · cases h
          · cases h
            simp only [Bool.and_eq_true] at hq
            have e1 := Nat.eq_of_beq_eq_true hq.1
            have e2 := Nat.eq_of_beq_eq_true hq.2
            subst e1 e2
            obtain ⟨v', y1, y2⟩ := hrow o _ hv
            have y3 : v' = .pointer (some ⟨i.b, o + i.s, none⟩) := by
              cases y2 with
              | flat k _ hk => cases k <;> simp [flatN] at hk
              | ptr _ _ i' hi' => rw [hi] at hi'; cases hi'; rfl
            subst y3
            refine CallsIn.mono (callsIn_wide.2 (hu i.b (o + i.s) w (by rw [Nat.add_comm i.s o] at y1; rw [cell_of_heap hb]; exact y1))) fun en w' ⟨he, hw⟩ => ?_
            subst he hw
            exact ⟨ρ, .refl _ _ _ _, hH, .flat 8 _ rfl⟩
        · cases h
      · cases h
  · cases h
end
end Go.Proofs.YthlkgmdkabelpaaGreatDoor.X
