/-
  NetOwn: the law's walk: it returns true, and writes nothing that was there. No condition.
-/
import Derived.Test.YthhimnihgkegiaaNScript
namespace Go.Proofs.Ythhimnihgkegiaa
open Go Go.RowKit Go.ChangeShapes Go.WideShapes Go.ChangeAt
set_option linter.unusedVariables false

theorem trs_set : ∀ (l : List Tr) (k : Nat) (t : Tr), (((trs l).set (k * 3) (.bool t.lost)).set (k * 3 + 1) (.int .i64 t.copies)).set (k * 3 + 2) (.int .i64 t.delay) = trs (l.set k t)
  | [], k, t => by simp [trs]
  | x :: l, 0, t => by simp [trs, trv]
  | x :: l, k + 1, t => by
    have := trs_set l k t
    have e1 : (k + 1) * 3 = k * 3 + 3 := by omega
    rw [e1]
    simpa [trs, trv] using this
def ownS (s0 : NS) : Nat → NS
  | 0 => s0
  | k + 1 => (ownS s0 k).send k k 0 []
def ownN (s0 : NS) : Nat → NS
  | 0 => s0
  | k + 1 => (ownN s0 k).next
theorem ownS_fine {s0 : NS} (h : s0.Fine 0) : ∀ k, (ownS s0 k).Fine k
  | 0 => h
  | k + 1 => (ownS_fine h k).send _ _ _ _
theorem ownN_fine {s0 : NS} {n : Nat} (h : s0.Fine n) : ∀ k, (ownN s0 k).Fine n
  | 0 => h
  | k + 1 => (ownN_fine h k).next

/-- the script, changed -/
def OwRel1 (w : World) (a b L g : Nat) (sv : Value) (n : Nat) (s : NS) (i : Value) (wr : World) : Prop :=
  ∃ (k : Nat) (l : List Tr), i = .int .i64 (k : Int) ∧ k ≤ n ∧ l.length = n ∧ wr.ownsRow 0 42 3 sv n (trs l) ∧ Net2 wr a b L s s ∧ Keeps (fun k => k = g) w wr
def OwRel2 (w : World) (a b L : Nat) (s : NS) (n : Nat) (i : Value) (wr : World) : Prop :=
  ∃ k : Nat, i = .int .i64 (k : Int) ∧ k ≤ n ∧ Net2 wr a b L (ownS s k) (ownS s k) ∧ Keeps (from_ L) w wr
def OwRel3 (w : World) (a b L : Nat) (s : NS) (i : Value) (wr : World) : Prop :=
  ∃ k : Nat, i = .int .i64 (k : Int) ∧ k ≤ 300 ∧ Net2 wr a b L (ownN s k) (ownN s k) ∧ Keeps (from_ L) w wr

set_option maxRecDepth 100000 in
set_option maxHeartbeats 4000000 in
theorem own_walk (l0 : List Tr) (v : Value) (c : Int) (w : World) (hl : Trs w v l0) (hc : (Lit.int .u8 c).wf = true) :
    Calls Try.prog 8 #[v, .int .u8 c] w fun e w' => e = .returned (.bool true) ∧ Below w.heap.size w w' := by
  obtain ⟨i0, hi, hz0, hz1, hz2⟩ := info_parts infoTr
  obtain ⟨hc0, hc1⟩ := inU8_of hc
  obtain ⟨o, cap, hv, _⟩ := id hl
  subst hv
  have HL := Lib.hid hl
  clear hl hc
  obtain ⟨C, hC⟩ : ∃ C : Nat, c % 30 = C := ⟨(c % 30).toNat, by omega⟩
  have hC30 : C < 30 := by omega
  go_enter Try.func8, Try.ntmps8
  go_wp2_with fail
  refine (sanity_any w).mono ?_
  rintro e w1 ⟨rfl, k1⟩
  have z1 := k1.size
  have K1 := Lib.hid k1
  have hs1 : Trs w1 (.slice o l0.length cap) l0 := by
    obtain ⟨o', cap', h1, h2, h3, h4, h5⟩ := HL.out
    simp only [Value.slice.injEq] at h1
    obtain ⟨rfl, _, rfl⟩ := h1
    refine ⟨o, cap, rfl, h2, h3, fun hp => ?_, h5⟩
    obtain ⟨b, off, ho, hb, hcc⟩ := h4 hp
    exact ⟨b, off, ho, by omega, fun i hi j u hu => k1.cell (hcc i hi j u hu) (fun e => e)⟩
  have HS1 := Lib.hid hs1
  clear k1 hs1
  go_wp2_with fail
  refine (script_any w1 _ l0 HS1.out).mono ?_
  rintro e w2 ⟨sv, rfl, hrow, k2⟩
  have z2 := k2.size
  have K2 := Lib.hid (K1.out.trans k2)
  obtain ⟨s, hs⟩ : ∃ s, s = scriptL l0 := ⟨_, rfl⟩
  have hs12 : s.length ≤ 12 := by rw [hs]; exact length_scriptL l0
  have hfin : (newS 1 s).Fine 0 := by rw [hs]; exact script_fine 1 l0
  rw [← hs] at hrow
  obtain ⟨o3, cap3, hv3, _, _, hform⟩ := owns_form hrow
  subst hv3
  have HR := Lib.hid hrow
  have HF := Lib.hid hfin
  clear hrow k2 hs hfin
  go_wp2_with fail
  refine (new_in w2 1 _ s (owns_zero HR.out) (by omega)).mono ?_
  rintro e w3 ⟨n, rfl, hn3, k3⟩
  have z3 := k3.size
  have HN3 := Lib.hid hn3
  have K3 := Lib.hid (K2.out.trans k3)
  have HR3 := Lib.hid (k3.owns HR.out (fun _ _ e => e))
  have HM := Lib.hid (show (w3.alloc (.cells #[] 42)).ownsRow 0 42 3 (.slice (some ⟨w3.heap.size, 0, none⟩) 0 0) 0 [] from World.ownsRow_made w3 #[] 0 (Nat.zero_le _) (by simp [maxLen]) (by simp))
  clear hn3 k3
  rcases hform with ⟨rfl, hn0, rfl⟩ | ⟨g, cur, hg, hh, _⟩
  · have hs0 : s = [] := List.eq_nil_of_length_eq_zero hn0
    subst hs0
    clear hn0
    go_wp2_with fail
    obtain ⟨w4, hw4⟩ : ∃ w4 : World, w4 = w3.alloc (.cells #[] 42) := ⟨_, rfl⟩
    have k34 : Keeps noBlock w3 w4 := by rw [hw4]; exact (Keeps.refl _ _).alloc _
    have z4 : w3.heap.size ≤ w4.heap.size := k34.size
    have HN4 := Lib.hid (HN3.out.keep k34)
    have K4 := Lib.hid (K3.out.trans k34)
    have HR4 := Lib.hid (World.ownsRow_nil w4 0 42 3)
    have HO4 := Lib.hid (show w4.ownsRow 0 42 3 (.slice (some ⟨w3.heap.size, 0, none⟩) 0 0) 0 [] by rw [hw4]; exact HM.out)
    have hgw : w.heap.size ≤ n := by have := HN3.out.le.1; omega
    rw [← hw4]
    clear k34 hw4
    refine (new_2 w4 n w2.heap.size (newS 1 []) 1 _ [] HN4.out (by omega) HO4.out (by decide)).mono ?_
    rintro e w5 ⟨m, rfl, hn5, k5⟩
    have z5 := k5.size
    have HN5 := Lib.hid hn5
    have K5 := Lib.hid (K4.out.trans k5)
    have HR5 := Lib.hid (k5.owns HR4.out (fun _ _ e => e))
    obtain ⟨L, hL⟩ : ∃ L, L = w2.heap.size := ⟨_, rfl⟩
    have hwL : w.heap.size ≤ L := by omega
    have hL5 : L ≤ w5.heap.size := by omega
    rw [← hL] at HN5
    clear hn5 k5 hL
    go_wp2_with fail
    go_loopw [9] (OwRel1 w5 n m L n (.slice none 0 0) 0 (newS 1 [])) (fun i _ => 0 - (intOf i).toNat)
    case atStart => exact ⟨0, [], rfl, Nat.zero_le _, rfl, HR5.out, HN5.out, Keeps.refl _ _⟩
    case round =>
      obtain ⟨k, l, rfl, hkl, hll, hrow, hn6, hk6⟩ := hrel
      have z6 := hk6.size
      have HR6 := Lib.hid hrow
      have HN6 := Lib.hid hn6
      have HK6 := Lib.hid hk6
      have HLL := Lib.hid hll
      clear hn6 hk6 hll
      by_cases hlt : k < 0
      · exfalso; simp at hlt
      · obtain rfl : k = 0 := by omega
        clear hlt hrow
        rw [show ((0 : Nat) : Int) = (0 : Int) from rfl]
        obtain ⟨wo, rfl⟩ : ∃ wo : World, wo = wr := ⟨_, rfl⟩
        go_wp2_with fail
        go_loopw [10] (OwRel2 wo n m L (newS 1 []) C) (fun i _ => C - (intOf i).toNat)
        case atStart => exact ⟨0, rfl, Nat.zero_le _, HN6.out, Keeps.refl _ _⟩
        case round =>
          obtain ⟨j, rfl, hjC, hn7, hk7⟩ := hrel
          have z7 := hk7.size
          have HN7 := Lib.hid hn7
          have HK7 := Lib.hid hk7
          clear hn7 hk7
          by_cases hlt : j < C
          · have hi1 : (j : Int) < (C : Int) := by omega
            go_wp2_with fail
            refine (send_2 wr n m L _ _ j j j 0 [] HN7.out (by omega) (ownS_fine HF.out j) (by omega) (by omega)).mono ?_
            rintro e w8 ⟨rfl, hn8, k8⟩
            have z8 := k8.size
            have HN8 := Lib.hid hn8.swap
            have K8 := Lib.hid k8
            clear hn8 k8
            go_wp2_with fail
            refine (send_2 w8 m n L _ _ j j j 0 [] HN8.out (by omega) (ownS_fine HF.out j) (by omega) (by omega)).mono ?_
            rintro e w9 ⟨rfl, hn9, k9⟩
            have HN9 := Lib.hid hn9.swap
            have K9 := Lib.hid k9
            clear hn9 k9
            go_wp2_with fail
            go_roundw
            case rel => exact ⟨j + 1, by simp, by omega, HN9.out, (HK7.out.trans K8.out).trans K9.out⟩
            case measure => simp [intOf]; omega
          · obtain rfl : j = C := by omega
            clear hlt
            obtain ⟨wp, rfl⟩ : ∃ wp : World, wp = wr := ⟨_, rfl⟩
            obtain ⟨s1, hs1⟩ : ∃ s1, s1 = ownS (newS 1 []) j := ⟨_, rfl⟩
            have hfs : s1.Fine 30 := by rw [hs1]; exact (ownS_fine HF.out j).mono (by omega)
            have hn7 := HN7.out
            rw [← hs1] at hn7
            have HFS := Lib.hid hfs
            have HNA := Lib.hid hn7
            clear hs1 hfs hn7
            go_wp2_with fail
            go_loopw [11] (OwRel3 wp n m L s1) (fun i _ => 300 - (intOf i).toNat)
            case atStart => exact ⟨0, rfl, Nat.zero_le _, HNA.out, Keeps.refl _ _⟩
            case round =>
              obtain ⟨q, rfl, hq300, hn8, hk8⟩ := hrel
              have z8 := hk8.size
              have HN8 := Lib.hid hn8
              have HK8 := Lib.hid hk8
              clear hn8 hk8
              by_cases hlt : q < 300
              · have hi1 : (q : Int) < 300 := by omega
                cases hqw : (ownN s1 q).w with
                | nil =>
                  have HQV := Lib.hid hqw
                  clear hqw
                  go_wp2_with fail
                  refine (next_2 wr n m L _ _ 30 HN8.out (by omega) (ownN_fine HFS.out q) (by omega)).mono ?_
                  rintro e w9 ⟨rfl, hn9, k9⟩
                  rw [HQV.out]
                  unfold nextVal
                  simp only
                  obtain ⟨w10, hw10⟩ : ∃ w10 : World, w10 = w9.alloc (.cells #[.int .i64 0, .int .i64 0, .string ByteArray.empty] 31) := ⟨_, rfl⟩
                  have hq9 : Keeps noBlock w9 w10 := by rw [hw10]; exact (Keeps.refl _ _).alloc _
                  have hb10 : w10.heap[w9.heap.size]? = some (.cells #[.int .i64 0, .int .i64 0, .string ByteArray.empty] 31 (0, 0)) := by rw [hw10]; exact heap_alloc_at
                  have z9 := k9.size
                  have z10 : w9.heap.size < w10.heap.size := by rw [hw10]; simp
                  have HN9 := Lib.hid ((hn9.hole hq9).swap)
                  have K9 := Lib.hid (k9.trans (hq9.any' _))
                  have HB10 := Lib.hid hb10
                  have HW10 := Lib.hid hw10
                  clear hn9 k9 hb10 hq9 hw10
                  go_wp2_with fail
                  rw [← HW10.out]
                  refine (next_2X w10 m n L w9.heap.size _ _ 30 HN9.out (by omega) z10 (ownN_fine HFS.out q) (by omega)).mono ?_
                  rintro e w11 ⟨rfl, hn11, k11⟩
                  rw [HQV.out]
                  unfold nextVal
                  simp only
                  have z11 := k11.size
                  have hb11 := k11.heap HB10.out (fun e => e.2 rfl)
                  have c0 : w11.cell? ⟨w9.heap.size, 0, none⟩ = some (.int .i64 0) := by rw [cell_of_heap hb11]; rfl
                  have c1 : w11.cell? ⟨w9.heap.size, 1, none⟩ = some (.int .i64 0) := by rw [cell_of_heap hb11]; rfl
                  have c2 : w11.cell? ⟨w9.heap.size, 2, none⟩ = some (.string ByteArray.empty) := by rw [cell_of_heap hb11]; rfl
                  have hlz : w9.heap.size < w11.heap.size := by omega
                  have hq11 := (Keeps.refl noBlock w11).alloc (.cells #[.int .i64 0, .int .i64 0, .string ByteArray.empty] 31)
                  have HN11 := Lib.hid (hn11.swap.keep hq11)
                  have K11 := Lib.hid ((k11.mono (T := from_ L) (fun k _ e => e.1)).trans (hq11.any' _))
                  clear hn11 k11 hb11 hq11
                  go_wp2_with fail
                  go_roundw
                  case rel => exact ⟨q + 1, by simp, by omega, HN11.out, (HK8.out.trans K9.out).trans K11.out⟩
                  case measure => simp [intOf]; omega
                | cons p rest =>
                  have HQV := Lib.hid hqw
                  clear hqw
                  go_wp2_with fail
                  refine (next_2 wr n m L _ _ 30 HN8.out (by omega) (ownN_fine HFS.out q) (by omega)).mono ?_
                  rintro e w9 ⟨rfl, hn9, k9⟩
                  rw [HQV.out]
                  unfold nextVal
                  simp only
                  obtain ⟨w10, hw10⟩ : ∃ w10 : World, w10 = w9.alloc (.cells #[.int .i64 p.fr, .int .i64 p.to_, .string (str p.tx)] 31) := ⟨_, rfl⟩
                  have hq9 : Keeps noBlock w9 w10 := by rw [hw10]; exact (Keeps.refl _ _).alloc _
                  have hb10 : w10.heap[w9.heap.size]? = some (.cells #[.int .i64 p.fr, .int .i64 p.to_, .string (str p.tx)] 31 (0, 0)) := by rw [hw10]; exact heap_alloc_at
                  have z9 := k9.size
                  have z10 : w9.heap.size < w10.heap.size := by rw [hw10]; simp
                  have HN9 := Lib.hid ((hn9.hole hq9).swap)
                  have K9 := Lib.hid (k9.trans (hq9.any' _))
                  have HB10 := Lib.hid hb10
                  have HW10 := Lib.hid hw10
                  clear hn9 k9 hb10 hq9 hw10
                  go_wp2_with fail
                  rw [← HW10.out]
                  refine (next_2X w10 m n L w9.heap.size _ _ 30 HN9.out (by omega) z10 (ownN_fine HFS.out q) (by omega)).mono ?_
                  rintro e w11 ⟨rfl, hn11, k11⟩
                  rw [HQV.out]
                  unfold nextVal
                  simp only
                  have z11 := k11.size
                  have hb11 := k11.heap HB10.out (fun e => e.2 rfl)
                  have c0 : w11.cell? ⟨w9.heap.size, 0, none⟩ = some (.int .i64 p.fr) := by rw [cell_of_heap hb11]; rfl
                  have c1 : w11.cell? ⟨w9.heap.size, 1, none⟩ = some (.int .i64 p.to_) := by rw [cell_of_heap hb11]; rfl
                  have c2 : w11.cell? ⟨w9.heap.size, 2, none⟩ = some (.string (str p.tx)) := by rw [cell_of_heap hb11]; rfl
                  have hlz : w9.heap.size < w11.heap.size := by omega
                  have hq11 := (Keeps.refl noBlock w11).alloc (.cells #[.int .i64 p.fr, .int .i64 p.to_, .string (str p.tx)] 31)
                  have HN11 := Lib.hid (hn11.swap.keep hq11)
                  have K11 := Lib.hid ((k11.mono (T := from_ L) (fun k _ e => e.1)).trans (hq11.any' _))
                  clear hn11 k11 hb11 hq11
                  go_wp2_with fail
                  go_roundw
                  case rel => exact ⟨q + 1, by simp, by omega, HN11.out, (HK8.out.trans K9.out).trans K11.out⟩
                  case measure => simp [intOf]; omega
              · obtain rfl : q = 300 := by omega
                clear hlt
                go_wp2_with fail
                go_ret
                exact ⟨rfl, ((K5.out.any' _).trans ((HK6.out.mono (T := from_ w.heap.size) (fun k _ e => by have e2 : k = n := e; rw [e2]; show w.heap.size ≤ n; omega)).trans (((HK7.out.trans HK8.out)).lower hwL))).below (Nat.le_refl _) (fun k hk e => by have : w.heap.size ≤ k := e; omega)⟩
  · subst hg
    have hgl : g < w3.heap.size := by have := lt_of_heap hh; omega
    have hgL : g < w2.heap.size := lt_of_heap hh
    have HCC := Lib.hid (show ∀ j u, (trs s)[j]? = some u → (w3.alloc (.cells #[] 42)).cell? ((⟨g, 0, none⟩ : Addr).add j) = some u from fun j u hu => by
      have := HR3.out.cells (g := g) rfl j u hu
      rw [addr_add] at this ⊢
      rw [World.cell?_alloc_old _ _ _ (Nat.ne_of_lt hgl)]; exact this)
    clear hh
    go_wp2_with (at_builtin; refine wpList_append_own _ rfl _ _ 22 rfl 0 42 i0 _ 3 24 Try.underlying22 hi hz0 hz1 hz2 rfl (by decide) _ _ _ rfl HM.out ⟨g, 0, none⟩ s.length cap3 (trs s) rfl (length_trs s) HCC.out (oneCell_trs s) (by simp only [maxLen]; omega) (by omega) (by simp) ?_; intro v4 w4 hown4 hgrow4 _; obtain ⟨o4, cap4, hv4, _⟩ := owns_form hown4; subst hv4; have HO4 := Lib.hid hown4; have HG4 := Lib.hid hgrow4; clear hown4 hgrow4)
    have z4 : w3.heap.size ≤ w4.heap.size := by have := HG4.out.size; simp at this; omega
    have k34 : Keeps noBlock w3 w4 := ((Keeps.refl noBlock w3).alloc _).grown HG4.out fun j e hj => by have := own_slice.1 e; omega
    have HN4 := Lib.hid (HN3.out.keep k34)
    have K4 := Lib.hid (K3.out.trans k34)
    have HR4 := Lib.hid (owns_zero (k34.owns HR3.out (fun _ _ e => e)))
    have HO4 := Lib.hid (show w4.ownsRow 0 42 3 (.slice o4 s.length cap4) s.length (trs s) by have := HO4.out; simpa using this)
    have hgw : w.heap.size ≤ g := by have := (HR.out.lt g rfl).1; omega
    clear k34
    refine (new_2 w4 n w2.heap.size (newS 1 s) 1 _ s HN4.out (by omega) HO4.out (by omega)).mono ?_
    rintro e w5 ⟨m, rfl, hn5, k5⟩
    have z5 := k5.size
    have HN5 := Lib.hid hn5
    have K5 := Lib.hid (K4.out.trans k5)
    have HR5 := Lib.hid (k5.owns HR4.out (fun _ _ e => e))
    obtain ⟨L, hL⟩ : ∃ L, L = w2.heap.size := ⟨_, rfl⟩
    have hwL : w.heap.size ≤ L := by omega
    have hL5 : L ≤ w5.heap.size := by omega
    have hgL' : g < L := by omega
    rw [← hL] at HN5
    clear hn5 k5 hL hgL
    go_wp2_with fail
    go_loopw [9] (OwRel1 w5 n m L g (.slice (some ⟨g, 0, none⟩) s.length cap3) s.length (newS 1 s)) (fun i _ => s.length - (intOf i).toNat)
    case atStart => exact ⟨0, s, rfl, Nat.zero_le _, rfl, HR5.out, HN5.out, Keeps.refl _ _⟩
    case round =>
      obtain ⟨k, l, rfl, hkl, hll, hrow, hn6, hk6⟩ := hrel
      have z6 := hk6.size
      have HR6 := Lib.hid hrow
      have HN6 := Lib.hid hn6
      have HK6 := Lib.hid hk6
      have HLL := Lib.hid hll
      clear hn6 hk6 hll
      by_cases hlt : k < s.length
      · have hltl : k < l.length := by rw [HLL.out]; exact hlt
        obtain ⟨t, ht⟩ : ∃ t, t = l[k] := ⟨_, rfl⟩
        have hat := owns_tr (by rw [HLL.out]; exact hrow) k hltl
        rw [← ht] at hat
        obtain ⟨c0, c1, c2⟩ := hat
        have hfz := owns_free hrow
        have hi0 : (0 : Int) ≤ (k : Int) := by omega
        have hi1 : (k : Int) < (s.length : Int) := by omega
        have hkb : k ≤ 12 := by omega
        clear hrow ht
        go_wp2_with fail
        go_roundw
        case rel =>
          have h1 := (((HR6.out.stored (k * 3) (.bool (!t.lost))).1.stored (k * 3 + 1) (.int .i64 0)).1.stored (k * 3 + 2) (.int .i64 3)).1
          rw [show ((((trs l).set (k * 3) (.bool (!t.lost))).set (k * 3 + 1) (.int .i64 0)).set (k * 3 + 2) (.int .i64 3)) = trs (l.set k ⟨!t.lost, 0, 3⟩) from trs_set l k ⟨!t.lost, 0, 3⟩] at h1
          have h2 := (((Keeps.refl (fun k => k = g) wr).setCell (p := ⟨g, k * 3, none⟩) (fun _ => rfl) (.bool (!t.lost))).setCell (p := ⟨g, k * 3 + 1, none⟩) (fun _ => rfl) (.int .i64 0)).setCell (p := ⟨g, k * 3 + 2, none⟩) (fun _ => rfl) (.int .i64 3)
          exact ⟨k + 1, l.set k ⟨!t.lost, 0, 3⟩, by simp, by omega, by rw [List.length_set]; exact HLL.out, h1, HN6.out.low h2 (fun j e => by have e2 : j = g := e; rw [e2]; exact hgL'), HK6.out.trans h2⟩
        case measure => simp [intOf]; omega
      · obtain rfl : k = s.length := by omega
        clear hlt hrow
        obtain ⟨wo, rfl⟩ : ∃ wo : World, wo = wr := ⟨_, rfl⟩
        go_wp2_with fail
        go_loopw [10] (OwRel2 wo n m L (newS 1 s) C) (fun i _ => C - (intOf i).toNat)
        case atStart => exact ⟨0, rfl, Nat.zero_le _, HN6.out, Keeps.refl _ _⟩
        case round =>
          obtain ⟨j, rfl, hjC, hn7, hk7⟩ := hrel
          have z7 := hk7.size
          have HN7 := Lib.hid hn7
          have HK7 := Lib.hid hk7
          clear hn7 hk7
          by_cases hlt : j < C
          · have hi1 : (j : Int) < (C : Int) := by omega
            go_wp2_with fail
            refine (send_2 wr n m L _ _ j j j 0 [] HN7.out (by omega) (ownS_fine HF.out j) (by omega) (by omega)).mono ?_
            rintro e w8 ⟨rfl, hn8, k8⟩
            have z8 := k8.size
            have HN8 := Lib.hid hn8.swap
            have K8 := Lib.hid k8
            clear hn8 k8
            go_wp2_with fail
            refine (send_2 w8 m n L _ _ j j j 0 [] HN8.out (by omega) (ownS_fine HF.out j) (by omega) (by omega)).mono ?_
            rintro e w9 ⟨rfl, hn9, k9⟩
            have HN9 := Lib.hid hn9.swap
            have K9 := Lib.hid k9
            clear hn9 k9
            go_wp2_with fail
            go_roundw
            case rel => exact ⟨j + 1, by simp, by omega, HN9.out, (HK7.out.trans K8.out).trans K9.out⟩
            case measure => simp [intOf]; omega
          · obtain rfl : j = C := by omega
            clear hlt
            obtain ⟨wp, rfl⟩ : ∃ wp : World, wp = wr := ⟨_, rfl⟩
            obtain ⟨s1, hs1⟩ : ∃ s1, s1 = ownS (newS 1 s) j := ⟨_, rfl⟩
            have hfs : s1.Fine 30 := by rw [hs1]; exact (ownS_fine HF.out j).mono (by omega)
            have hn7 := HN7.out
            rw [← hs1] at hn7
            have HFS := Lib.hid hfs
            have HNA := Lib.hid hn7
            clear hs1 hfs hn7
            go_wp2_with fail
            go_loopw [11] (OwRel3 wp n m L s1) (fun i _ => 300 - (intOf i).toNat)
            case atStart => exact ⟨0, rfl, Nat.zero_le _, HNA.out, Keeps.refl _ _⟩
            case round =>
              obtain ⟨q, rfl, hq300, hn8, hk8⟩ := hrel
              have z8 := hk8.size
              have HN8 := Lib.hid hn8
              have HK8 := Lib.hid hk8
              clear hn8 hk8
              by_cases hlt : q < 300
              · have hi1 : (q : Int) < 300 := by omega
                cases hqw : (ownN s1 q).w with
                | nil =>
                  have HQV := Lib.hid hqw
                  clear hqw
                  go_wp2_with fail
                  refine (next_2 wr n m L _ _ 30 HN8.out (by omega) (ownN_fine HFS.out q) (by omega)).mono ?_
                  rintro e w9 ⟨rfl, hn9, k9⟩
                  rw [HQV.out]
                  unfold nextVal
                  simp only
                  obtain ⟨w10, hw10⟩ : ∃ w10 : World, w10 = w9.alloc (.cells #[.int .i64 0, .int .i64 0, .string ByteArray.empty] 31) := ⟨_, rfl⟩
                  have hq9 : Keeps noBlock w9 w10 := by rw [hw10]; exact (Keeps.refl _ _).alloc _
                  have hb10 : w10.heap[w9.heap.size]? = some (.cells #[.int .i64 0, .int .i64 0, .string ByteArray.empty] 31 (0, 0)) := by rw [hw10]; exact heap_alloc_at
                  have z9 := k9.size
                  have z10 : w9.heap.size < w10.heap.size := by rw [hw10]; simp
                  have HN9 := Lib.hid ((hn9.hole hq9).swap)
                  have K9 := Lib.hid (k9.trans (hq9.any' _))
                  have HB10 := Lib.hid hb10
                  have HW10 := Lib.hid hw10
                  clear hn9 k9 hb10 hq9 hw10
                  go_wp2_with fail
                  rw [← HW10.out]
                  refine (next_2X w10 m n L w9.heap.size _ _ 30 HN9.out (by omega) z10 (ownN_fine HFS.out q) (by omega)).mono ?_
                  rintro e w11 ⟨rfl, hn11, k11⟩
                  rw [HQV.out]
                  unfold nextVal
                  simp only
                  have z11 := k11.size
                  have hb11 := k11.heap HB10.out (fun e => e.2 rfl)
                  have c0 : w11.cell? ⟨w9.heap.size, 0, none⟩ = some (.int .i64 0) := by rw [cell_of_heap hb11]; rfl
                  have c1 : w11.cell? ⟨w9.heap.size, 1, none⟩ = some (.int .i64 0) := by rw [cell_of_heap hb11]; rfl
                  have c2 : w11.cell? ⟨w9.heap.size, 2, none⟩ = some (.string ByteArray.empty) := by rw [cell_of_heap hb11]; rfl
                  have hlz : w9.heap.size < w11.heap.size := by omega
                  have hq11 := (Keeps.refl noBlock w11).alloc (.cells #[.int .i64 0, .int .i64 0, .string ByteArray.empty] 31)
                  have HN11 := Lib.hid (hn11.swap.keep hq11)
                  have K11 := Lib.hid ((k11.mono (T := from_ L) (fun k _ e => e.1)).trans (hq11.any' _))
                  clear hn11 k11 hb11 hq11
                  go_wp2_with fail
                  go_roundw
                  case rel => exact ⟨q + 1, by simp, by omega, HN11.out, (HK8.out.trans K9.out).trans K11.out⟩
                  case measure => simp [intOf]; omega
                | cons p rest =>
                  have HQV := Lib.hid hqw
                  clear hqw
                  go_wp2_with fail
                  refine (next_2 wr n m L _ _ 30 HN8.out (by omega) (ownN_fine HFS.out q) (by omega)).mono ?_
                  rintro e w9 ⟨rfl, hn9, k9⟩
                  rw [HQV.out]
                  unfold nextVal
                  simp only
                  obtain ⟨w10, hw10⟩ : ∃ w10 : World, w10 = w9.alloc (.cells #[.int .i64 p.fr, .int .i64 p.to_, .string (str p.tx)] 31) := ⟨_, rfl⟩
                  have hq9 : Keeps noBlock w9 w10 := by rw [hw10]; exact (Keeps.refl _ _).alloc _
                  have hb10 : w10.heap[w9.heap.size]? = some (.cells #[.int .i64 p.fr, .int .i64 p.to_, .string (str p.tx)] 31 (0, 0)) := by rw [hw10]; exact heap_alloc_at
                  have z9 := k9.size
                  have z10 : w9.heap.size < w10.heap.size := by rw [hw10]; simp
                  have HN9 := Lib.hid ((hn9.hole hq9).swap)
                  have K9 := Lib.hid (k9.trans (hq9.any' _))
                  have HB10 := Lib.hid hb10
                  have HW10 := Lib.hid hw10
                  clear hn9 k9 hb10 hq9 hw10
                  go_wp2_with fail
                  rw [← HW10.out]
                  refine (next_2X w10 m n L w9.heap.size _ _ 30 HN9.out (by omega) z10 (ownN_fine HFS.out q) (by omega)).mono ?_
                  rintro e w11 ⟨rfl, hn11, k11⟩
                  rw [HQV.out]
                  unfold nextVal
                  simp only
                  have z11 := k11.size
                  have hb11 := k11.heap HB10.out (fun e => e.2 rfl)
                  have c0 : w11.cell? ⟨w9.heap.size, 0, none⟩ = some (.int .i64 p.fr) := by rw [cell_of_heap hb11]; rfl
                  have c1 : w11.cell? ⟨w9.heap.size, 1, none⟩ = some (.int .i64 p.to_) := by rw [cell_of_heap hb11]; rfl
                  have c2 : w11.cell? ⟨w9.heap.size, 2, none⟩ = some (.string (str p.tx)) := by rw [cell_of_heap hb11]; rfl
                  have hlz : w9.heap.size < w11.heap.size := by omega
                  have hq11 := (Keeps.refl noBlock w11).alloc (.cells #[.int .i64 p.fr, .int .i64 p.to_, .string (str p.tx)] 31)
                  have HN11 := Lib.hid (hn11.swap.keep hq11)
                  have K11 := Lib.hid ((k11.mono (T := from_ L) (fun k _ e => e.1)).trans (hq11.any' _))
                  clear hn11 k11 hb11 hq11
                  go_wp2_with fail
                  go_roundw
                  case rel => exact ⟨q + 1, by simp, by omega, HN11.out, (HK8.out.trans K9.out).trans K11.out⟩
                  case measure => simp [intOf]; omega
              · obtain rfl : q = 300 := by omega
                clear hlt
                go_wp2_with fail
                go_ret
                exact ⟨rfl, ((K5.out.any' _).trans ((HK6.out.mono (T := from_ w.heap.size) (fun k _ e => by have e2 : k = g := e; rw [e2]; show w.heap.size ≤ g; omega)).trans (((HK7.out.trans HK8.out)).lower hwL))).below (Nat.le_refl _) (fun k hk e => by have : w.heap.size ≤ k := e; omega)⟩
#print axioms own_walk
end Go.Proofs.Ythhimnihgkegiaa
