/-
  NetWhole: the law's walk: it returns true, and writes nothing that was there. No condition.
-/
import Derived.Test.YthhimnihgkegiaaNScript
namespace Go.Proofs.Ythhimnihgkegiaa
open Go Go.RowKit Go.ChangeShapes Go.WideShapes Go.ChangeAt
set_option linter.unusedVariables false

/-- the copies of messages l, the first of which has number k -/
def sufL (many D : Int) : List MsgD → Nat → List Pc
  | [], _ => []
  | m :: l, k => if 0 ≤ m.2.1 ∧ m.2.1 < many then ⟨m.1, m.2.1, m.2.2, 10 * k + D, k⟩ :: sufL many D l (k + 1) else sufL many D l (k + 1)
theorem sufL_snoc (many D : Int) (m : MsgD) : ∀ (l : List MsgD) (k : Nat), sufL many D (l ++ [m]) k = sufL many D l k ++ (if 0 ≤ m.2.1 ∧ m.2.1 < many then [⟨m.1, m.2.1, m.2.2, 10 * ((k + l.length : Nat) : Int) + D, k + l.length⟩] else [])
  | [], k => by simp [sufL]
  | x :: l, k => by
    simp only [List.cons_append, sufL, sufL_snoc many D m l (k + 1), List.length_cons]
    have e : k + 1 + l.length = k + (l.length + 1) := by omega
    rw [e]
    split <;> rfl
theorem sufL_sn (many D : Int) : ∀ (l : List MsgD) (k : Nat), ∀ p ∈ sufL many D l k, k ≤ p.sn ∧ p.sn < k + l.length ∧ p.at_ = 10 * (p.sn : Int) + D
  | [], k, p, h => by simp [sufL] at h
  | m :: l, k, p, h => by
    have ih := sufL_sn many D l (k + 1) p
    simp only [sufL] at h
    split at h
    · rcases List.mem_cons.1 h with rfl | h
      · simp
      · have := ih h; simp only [List.length_cons]; omega
    · have := ih h; simp only [List.length_cons]; omega
theorem insP_last (p : Pc) : ∀ l : List Pc, (∀ x ∈ l, ltB p x = false) → insP p l = l ++ [p]
  | [], _ => rfl
  | x :: l, h => by
    simp only [insP, h x (by simp), List.cons_append]
    rw [insP_last p l (fun y hy => h y (by simp [hy]))]; rfl
def whS (many D : Int) (l : List MsgD) (k : Nat) : NS := ⟨many, [⟨false, 0, D⟩], sufL many D (l.take k) 0, k⟩
theorem whS_step (many D : Int) (hD : 0 ≤ D) (l : List MsgD) (k : Nat) (hk : k < l.length) : (whS many D l k).send (10 * (k : Int)) l[k].1 l[k].2.1 l[k].2.2 = whS many D l (k + 1) := by
  have htr : (whS many D l k).tr = ⟨false, 0, D⟩ := by
    unfold NS.tr whS; simp [Nat.mod_one]
  have hn0 : nCop 0 = 1 := by decide
  unfold NS.send NS.drops
  rw [htr]
  have hm : max D 0 = D := by omega
  simp only [hn0, hm, addC]
  unfold whS
  simp only [List.take_succ_eq_append_getElem hk, sufL_snoc, Bool.false_or]
  have hlen : (l.take k).length = k := by simp; omega
  rw [hlen, Nat.zero_add]
  by_cases hv : 0 ≤ l[k].2.1 ∧ l[k].2.1 < many
  · rw [if_pos hv, if_neg (by simp; omega)]
    congr 1
    unfold cop
    rw [show (10 * (k : Int) + D + ((0 : Nat) : Int)) = 10 * (k : Int) + D by omega]
    refine insP_last _ _ fun x hx => ?_
    obtain ⟨h1, h2, h3⟩ := sufL_sn many D _ 0 x hx
    rw [hlen] at h2
    rw [ltB_not]
    simp only
    omega
  · rw [if_neg hv, if_pos (by simp; omega), List.append_nil]
theorem wh_next {many D : Int} {l : List MsgD} {k : Nat} (hk : k < l.length) (hv : 0 ≤ l[k].2.1 ∧ l[k].2.1 < many) : sufL many D (l.drop k) k = ⟨l[k].1, l[k].2.1, l[k].2.2, 10 * k + D, k⟩ :: sufL many D (l.drop (k + 1)) (k + 1) := by
  rw [List.drop_eq_getElem_cons hk, sufL, if_pos hv]
theorem wh_skip {many D : Int} {l : List MsgD} {k : Nat} (hk : k < l.length) (hv : ¬ (0 ≤ l[k].2.1 ∧ l[k].2.1 < many)) : sufL many D (l.drop k) k = sufL many D (l.drop (k + 1)) (k + 1) := by
  rw [List.drop_eq_getElem_cons hk, sufL, if_neg hv]
def whR (many D : Int) (l : List MsgD) (k : Nat) : NS := ⟨many, [⟨false, 0, D⟩], sufL many D (l.drop k) k, l.length⟩
theorem wh_len (many D : Int) : ∀ (l : List MsgD) (k : Nat), (sufL many D l k).length ≤ l.length
  | [], k => by simp [sufL]
  | m :: l, k => by
    have := wh_len many D l (k + 1)
    simp only [sufL]; split <;> simp <;> omega

def WhRel1 (w : World) (b L : Nat) (many D : Int) (l : List MsgD) (i : Value) (wr : World) : Prop :=
  ∃ k : Nat, i = .int .i64 (k : Int) ∧ k ≤ l.length ∧ Net1 wr b L (whS many D l k) ∧ Keeps (from_ L) w wr
def WhRel2 (w : World) (b L : Nat) (many D : Int) (l : List MsgD) (i : Value) (wr : World) : Prop :=
  ∃ k : Nat, i = .int .i64 (k : Int) ∧ k ≤ l.length ∧ Net1 wr b L (whR many D l k) ∧ Keeps (from_ L) w wr

set_option maxRecDepth 100000 in
set_option maxHeartbeats 2000000 in
theorem whole_walk (l0 : List MsgD) (v : Value) (n d : Int) (w : World) (hl : Msgs w v l0) (hn : (Lit.int .u8 n).wf = true) (hd : (Lit.int .u16 d).wf = true) :
    Calls Try.prog 6 #[v, .int .u8 n, .int .u16 d] w fun e w' => e = .returned (.bool true) ∧ Below w.heap.size w w' := by
  obtain ⟨o, cap, rfl, hlc, hcm, hcells, hfit⟩ := hl
  obtain ⟨hn0, hn1⟩ := inU8_of hn
  obtain ⟨hd0, hd1⟩ := inU16_of hd
  clear hn hd hfit
  obtain ⟨N, hN⟩ : ∃ N : Nat, N = min l0.length 30 := ⟨_, rfl⟩
  obtain ⟨l, hl⟩ : ∃ l, l = l0.take 30 := ⟨_, rfl⟩
  have hll : l.length = N := by rw [hl, hN]; simp; omega
  have hNl : N ≤ l0.length := by omega
  have hN30 : N ≤ 30 := by omega
  have HC := Lib.hid (show 0 < N → ∃ b off, o = some ⟨b, off, none⟩ ∧ b < w.heap.size ∧ ∀ i (h : i < l.length), w.cell? ⟨b, off + i * 3, none⟩ = some (.int .i64 l[i].1) ∧ w.cell? ⟨b, off + i * 3 + 1, none⟩ = some (.int .i64 l[i].2.1) ∧ w.cell? ⟨b, off + i * 3 + 2, none⟩ = some (.string (str l[i].2.2)) from fun hp => by
    obtain ⟨b, off, ho, hb, hc⟩ := hcells (by omega)
    refine ⟨b, off, ho, hb, fun i hi => ?_⟩
    have hi0 : i < l0.length := by omega
    have he : l[i] = l0[i] := by subst hl; simp
    rw [he]
    exact ⟨hc i hi0 0 _ rfl, hc i hi0 1 _ rfl, hc i hi0 2 _ rfl⟩)
  have hmin : (if (30 : Int) < (l0.length : Int) then (30 : Int) else (l0.length : Int)) = (N : Int) := by split <;> omega
  have hsl := fun W => run_slice_to_any (P := Try.prog) 45 31 3 Try.underlying45 (by kernel_rfl) o l0.length cap N .i64 (by omega) W
  have HLL := Lib.hid hll
  clear hcells hl hll hN
  go_enter Try.func6, Try.ntmps6
  go_wp2_with fail
  refine (sanity_any w).mono ?_
  rintro e w1 ⟨rfl, k1⟩
  have z1 := k1.size
  have K1 := Lib.hid k1
  clear k1
  obtain ⟨many, hmany⟩ : ∃ x, x = n % 5 := ⟨_, rfl⟩
  obtain ⟨D, hD⟩ : ∃ x, x = d % 1000 := ⟨_, rfl⟩
  have hD0 : 0 ≤ D ∧ D < 1000 := by omega
  have hmm : 0 ≤ many ∧ many < 5 := by omega
  have hr1 : n % 5 = many := hmany.symm
  have hr2 : d % 1000 = D := hD.symm
  have HROW := Lib.hid (lit_row w1 [⟨false, 0, D⟩] (by simp))
  clear hmany hD
  go_wp2_with fail
  refine (new_in _ many _ [⟨false, 0, D⟩] HROW.out (by simp)).mono ?_
  rintro e w2 ⟨b, rfl, hn2, k2⟩
  have k2' := ((Keeps.refl noBlock w1).alloc _).trans k2
  have z2 := k2'.size
  obtain ⟨L, hL⟩ : ∃ L, L = w1.heap.size + 1 := ⟨_, rfl⟩
  have hn2' : Net1 w2 b L (whS many D l 0) := by rw [hL]; simpa [whS, newS, sufL] using hn2
  have hLw : L ≤ w2.heap.size := by have := k2.size; simp at this; omega
  have hwL : w.heap.size ≤ L := by omega
  have HN2 := Lib.hid hn2'
  have K2 := Lib.hid (K1.out.trans k2')
  clear hn2 k2 k2' hn2' hL
  go_wp2_with fail
  go_loopw [10] (WhRel1 w2 b L many D l) (fun i _ => N - (intOf i).toNat)
  case atStart => exact ⟨0, rfl, Nat.zero_le _, HN2.out, Keeps.refl _ _⟩
  case round =>
    obtain ⟨k, rfl, hkl, hn3, hk3⟩ := hrel
    have z3 := hk3.size
    rw [HLL.out] at hkl
    have HN3 := Lib.hid hn3
    have HK3 := Lib.hid hk3
    clear hn3 hk3
    by_cases hlt : k < N
    · obtain ⟨bb, off, rfl, hb, hc⟩ := HC.out (by omega)
      have hltl : k < l.length := by rw [HLL.out]; exact hlt
      obtain ⟨c0, c1, c2⟩ := hc k hltl
      have kk : Keeps (from_ w.heap.size) w wr := (K2.out.any' _).trans (HK3.out.lower hwL)
      have hnb : ¬ from_ w.heap.size bb := fun e => by have : w.heap.size ≤ bb := e; omega
      have c0 := kk.cell c0 hnb
      have c1 := kk.cell c1 hnb
      have c2 := kk.cell c2 hnb
      have hst := whS_step many D hD0.1 l k hltl
      obtain ⟨m, hm⟩ : ∃ m, m = l[k] := ⟨_, rfl⟩
      rw [← hm] at c0 c1 c2 hst
      obtain ⟨fr, to_, tx⟩ := m
      simp only at c0 c1 c2 hst
      have HST := Lib.hid hst
      have hi0 : (0 : Int) ≤ (k : Int) := by omega
      have hi1 : (k : Int) < (N : Int) := by omega
      have hfine : (whS many D l k).Fine 30 := ⟨by have := wh_len many D (l.take k) 0; simp [whS] at this ⊢; omega, by simp [whS]; omega, by simp [whS], by intro t ht; simp [whS] at ht; subst ht; show D ≤ _; omega⟩
      have HF := Lib.hid hfine
      clear hst hm kk hnb hc hfine
      go_wp2_with fail
      refine (send_in wr b L _ 30 (10 * (k : Int)) fr to_ tx HN3.out (by omega) HF.out (by omega) (by omega)).mono ?_
      rintro e w4 ⟨rfl, hn4, k4⟩
      rw [HST.out] at hn4
      have HN4 := Lib.hid hn4
      have K4 := Lib.hid k4
      clear hn4 k4
      go_wp2_with fail
      go_roundw
      case rel => exact ⟨k + 1, by simp, by have := HLL.out; omega, HN4.out, HK3.out.trans K4.out⟩
      case measure => simp [intOf]; omega
    · obtain rfl : k = N := by omega
      have hn5 : Net1 wr b L (whR many D l 0) := by
        have h := HN3.out
        have e : whS many D l k = whR many D l 0 := by unfold whS whR; rw [← HLL.out, List.take_length]; rfl
        rw [e] at h; exact h
      have HN5 := Lib.hid hn5
      clear hlt hn5
      obtain ⟨wo, rfl⟩ : ∃ wo : World, wo = wr := ⟨_, rfl⟩
      go_wp2_with fail
      go_loopw [11] (WhRel2 wo b L many D l) (fun i _ => k - (intOf i).toNat)
      case atStart => exact ⟨0, rfl, Nat.zero_le _, HN5.out, Keeps.refl _ _⟩
      case round =>
        obtain ⟨j, rfl, hjl, hn6, hk6⟩ := hrel
        have z6 := hk6.size
        rw [HLL.out] at hjl
        have HN6 := Lib.hid hn6
        have HK6 := Lib.hid hk6
        clear hn6 hk6
        by_cases hlt : j < k
        · obtain ⟨bb, off, rfl, hb, hc⟩ := HC.out (by omega)
          have hltl : j < l.length := by rw [HLL.out]; exact hlt
          obtain ⟨c0, c1, c2⟩ := hc j hltl
          have kk : Keeps (from_ w.heap.size) w wr := (K2.out.any' _).trans ((HK3.out.trans HK6.out).lower hwL)
          have hnb : ¬ from_ w.heap.size bb := fun e => by have : w.heap.size ≤ bb := e; omega
          have HNB := Lib.hid (show ¬ from_ L bb from fun e => by have : L ≤ bb := e; omega)
          have c0 := kk.cell c0 hnb
          have c1 := kk.cell c1 hnb
          have c2 := kk.cell c2 hnb
          obtain ⟨m, hm⟩ : ∃ m, m = l[j] := ⟨_, rfl⟩
          have hnx : 0 ≤ m.2.1 ∧ m.2.1 < many → sufL many D (l.drop j) j = ⟨m.1, m.2.1, m.2.2, 10 * j + D, j⟩ :: sufL many D (l.drop (j + 1)) (j + 1) := fun h => by rw [hm] at h ⊢; exact wh_next hltl h
          have hsk : ¬ (0 ≤ m.2.1 ∧ m.2.1 < many) → sufL many D (l.drop j) j = sufL many D (l.drop (j + 1)) (j + 1) := fun h => by rw [hm] at h; exact wh_skip hltl h
          rw [← hm] at c0 c1 c2
          obtain ⟨fr, to_, tx⟩ := m
          simp only at c0 c1 c2 hnx hsk
          have HNX := Lib.hid hnx
          have HSK := Lib.hid hsk
          have hi0 : (0 : Int) ≤ (j : Int) := by omega
          have hi1 : (j : Int) < (k : Int) := by omega
          have hbw : bb < wr.heap.size := by omega
          have hfine : (whR many D l j).Fine 30 := ⟨by have h := wh_len many D (l.drop j) j; rw [List.length_drop] at h; have := HLL.out; show (sufL many D (l.drop j) j).length ≤ _; omega, by have := HLL.out; simp [whR]; omega, by simp [whR], by intro t ht; simp [whR] at ht; subst ht; show D ≤ _; omega⟩
          have HF := Lib.hid hfine
          clear hm kk hnb hc hnx hsk hfine
          by_cases hv : 0 ≤ to_ ∧ to_ < many
          · obtain ⟨hv1, hv2⟩ := hv
            have hrm : whR many D l j = ⟨many, [⟨false, 0, D⟩], ⟨fr, to_, tx, 10 * j + D, j⟩ :: sufL many D (l.drop (j + 1)) (j + 1), l.length⟩ := by unfold whR; rw [HNX.out ⟨hv1, hv2⟩]
            have hval : nextVal (whR many D l j).w = .tuple #[.agg #[.int .i64 fr, .int .i64 to_, .string (str tx)], .int .i64 (10 * (j : Int) + D), .bool true] := by rw [hrm]; rfl
            have hnxt : (whR many D l j).next = whR many D l (j + 1) := by rw [hrm]; rfl
            have HV := Lib.hid hval
            have HXT := Lib.hid hnxt
            clear hrm hval hnxt
            go_wp2_with fail
            refine (next_in wr b L _ 30 HN6.out (by omega) HF.out (by omega)).mono ?_
            rintro e w7 ⟨rfl, hn7, k7⟩
            rw [HV.out]
            rw [HXT.out] at hn7
            have c0 := k7.cell c0 HNB.out
            have c1 := k7.cell c1 HNB.out
            have c2 := k7.cell c2 HNB.out
            have hbw7 : bb < w7.heap.size := by have := k7.size; omega
            have HN7 := Lib.hid hn7
            have K7 := Lib.hid k7
            have hw10 : IntKind.i64.wrap (10 * (j : Int)) = 10 * (j : Int) := IntWalk.i64_in _ (by omega)
            have hw11 : IntKind.i64.wrap (10 * (j : Int) + D) = 10 * (j : Int) + D := IntWalk.i64_in _ (by omega)
            clear hn7 k7
            go_wp2_with fail
            go_quiet (fail)
            go_wp2_with fail
            go_roundw
            case rel =>
              have hq := ((Keeps.refl noBlock w7).alloc (.cells #[.int .i64 fr, .int .i64 to_, .string (str tx)] 31)).drewN nq
              exact ⟨j + 1, by simp, by have := HLL.out; omega, HN7.out.keep hq, (HK6.out.trans K7.out).trans (hq.any' _)⟩
            case measure => simp [intOf]; omega
          · have hsame : whR many D l j = whR many D l (j + 1) := by unfold whR; rw [HSK.out hv]
            have hn7 := HN6.out
            rw [hsame] at hn7
            have HN7 := Lib.hid hn7
            clear hsame hn7
            by_cases hv1 : to_ < 0
            · clear hv
              go_wp2_with fail
              go_roundw
              case rel => exact ⟨j + 1, by simp, by have := HLL.out; omega, HN7.out, HK6.out⟩
              case measure => simp [intOf]; omega
            · have hv2 : many ≤ to_ := by omega
              clear hv
              go_wp2_with fail
              go_roundw
              case rel => exact ⟨j + 1, by simp, by have := HLL.out; omega, HN7.out, HK6.out⟩
              case measure => simp [intOf]; omega
        · obtain rfl : j = k := by omega
          have hlen0 : (whR many D l j).w.length = 0 := by show (sufL many D (l.drop j) j).length = 0; rw [List.drop_eq_nil_of_le (by rw [HLL.out]; omega)]; rfl
          have HL0 := Lib.hid hlen0
          clear hlt hlen0
          go_wp2_with fail
          refine (waiting_in wr b L _ HN6.out).mono ?_
          rintro e w' ⟨rfl, rfl⟩
          rw [HL0.out]
          go_wp2_with fail
          go_ret
          exact ⟨rfl, ((K2.out.any' _).trans ((HK3.out.trans HK6.out).lower hwL)).below (Nat.le_refl _) (fun k hk e => by have : w.heap.size ≤ k := e; omega)⟩
end Go.Proofs.Ythhimnihgkegiaa
