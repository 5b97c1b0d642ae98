/-
  The walk through NetPlays. No condition.
-/
import Derived.Test.YthhimnihgkegiaaNPair
import Derived.Test.YthhimnihgkegiaaNScript
import Derived.Test.YthhimnihgkegiaaNArgs
namespace Go.Proofs.Ythhimnihgkegiaa
open Go Go.RowKit
set_option linter.unusedVariables false

theorem nextVal_form (l : List Pc) : ∃ (f t : Int) (sx : ByteArray) (at_ : Int) (is : Bool), nextVal l = .tuple #[.agg #[.int .i64 f, .int .i64 t, .string sx], .int .i64 at_, .bool is] := by
  cases l with
  | nil => exact ⟨_, _, _, _, _, rfl⟩
  | cons p l => exact ⟨_, _, _, _, _, rfl⟩
/-- the loop of NetPlays -/
def PlRel (w3 : World) (a b L : Nat) (N : Nat) (i : Value) (wr : World) : Prop :=
  ∃ (k : Nat) (s : NS), i = .int .i64 (k : Int) ∧ k ≤ N ∧ k ≤ 60 ∧ s.Fine k ∧ Pair wr a b (from_ L) s s ∧ Keeps (from_ L) w3 wr

set_option maxRecDepth 100000 in
set_option maxHeartbeats 4000000 in
theorem plays_walk (c : Int) (l0 : List Tr) (v : Value) (acts : List NActD) (v1 : Value) (w : World) (hc : (Lit.int .u8 c).wf = true) (hl : Trs w v l0) (hacts : NActs w v1 acts) :
    Calls Try.prog 3 #[.int .u8 c, v, v1] w fun e w' => e = .returned (.bool true) ∧ Below w.heap.size w w' := by
  obtain ⟨hc0, hc1⟩ := inU8_of hc
  obtain ⟨o, cap, hv, _⟩ := id hl
  subst hv
  obtain ⟨o1, cap1, rfl, hlc1, hcm1, hcells1, hfit1⟩ := hacts
  have HL := Lib.hid hl
  have htl : (acts.length : Int) ≤ 9223372036854775807 := by omega
  have HC := Lib.hid hcells1
  have HFIT := Lib.hid hfit1
  obtain ⟨N, hN⟩ : ∃ N, N = acts.length := ⟨_, rfl⟩
  have HNN := Lib.hid hN
  rw [← hN] at htl hlc1 ⊢
  obtain ⟨C, hC⟩ : ∃ C : Int, c % 7 - 1 = C := ⟨_, rfl⟩
  have hcm : c.tmod 7 = c % 7 := Int.tmod_eq_emod_of_nonneg hc0
  clear hcells1 hfit1 hl hc hN
  go_enter Try.func3, Try.ntmps3
  go_wp2_with fail
  refine (sanity_any w).mono ?_
  rintro e w1 ⟨rfl, k1⟩
  have z1 := k1.size
  have K1 := Lib.hid k1
  have hs1 : Trs w1 (.slice o l0.length cap) l0 := by
    obtain ⟨o', cap', h1, h2, h3, h4, h5⟩ := HL.out
    simp only [Value.slice.injEq] at h1
    obtain ⟨rfl, _, rfl⟩ := h1
    refine ⟨o, cap, rfl, h2, h3, fun hp => ?_, h5⟩
    obtain ⟨b, off, ho, hb, hcc⟩ := h4 hp
    exact ⟨b, off, ho, by omega, fun i hi j u hu => k1.cell (hcc i hi j u hu) (fun e => e)⟩
  have HS1 := Lib.hid hs1
  clear k1 hs1
  go_wp2_with fail
  refine (script_any w1 _ l0 HS1.out).mono ?_
  rintro e w2 ⟨sv, rfl, hrow, k2⟩
  have z2 := k2.size
  have K2 := Lib.hid (K1.out.trans k2)
  obtain ⟨sc, hs⟩ : ∃ s, s = scriptL l0 := ⟨_, rfl⟩
  have hs12 : sc.length ≤ 12 := by rw [hs]; exact length_scriptL l0
  have hfin : (newS C sc).Fine 0 := by rw [hs]; exact script_fine C l0
  rw [← hs] at hrow
  obtain ⟨o3, cap3, hv3, _, _, hform3⟩ := owns_form hrow
  subst hv3
  have HR := Lib.hid hrow
  have HF := Lib.hid hfin
  clear hrow k2 hs hfin hform3
  go_wp2_with fail
  refine (new_in w2 C _ sc (owns_zero HR.out) (by omega)).mono ?_
  rintro e w3 ⟨a, rfl, hn3, k3⟩
  have z3 := k3.size
  obtain ⟨L, hL⟩ : ∃ L, L = w2.heap.size := ⟨_, rfl⟩
  have hwL : w.heap.size ≤ L := by omega
  have hL3 : L ≤ w3.heap.size := by omega
  have HR3 := Lib.hid (owns_zero (k3.owns HR.out (fun _ _ e => e)))
  have K3 := Lib.hid (K2.out.trans k3)
  rw [← hL] at hn3
  have HN3 := Lib.hid hn3
  clear hn3 k3 hL
  go_wp2_with fail
  refine (new_pair w3 a L _ C _ sc HN3.out hL3 HR3.out (by omega)).mono ?_
  rintro e w4 ⟨b, rfl, hp4, k4⟩
  have z4 := k4.size
  have K4 := Lib.hid (K3.out.trans k4)
  have HP4 := Lib.hid hp4
  have hL4 : L ≤ w4.heap.size := by omega
  clear hp4 k4
  go_wp2_with fail
  go_loopw [11] (PlRel w4 a b L N) (fun i _ => N - (intOf i).toNat)
  case atStart => exact ⟨0, newS C sc, rfl, Nat.zero_le _, by omega, HF.out, HP4.out, Keeps.refl _ _⟩
  case round =>
    obtain ⟨k, s, rfl, hkN, hk60, hfk, hpk, hkk⟩ := hrel
    have z5 := hkk.size
    have HFK := Lib.hid hfk
    have HPK := Lib.hid hpk
    have HKK := Lib.hid hkk
    have hLr : L ≤ wr.heap.size := by omega
    have kk : Keeps (from_ w.heap.size) w wr := (K4.out.any' _).trans (hkk.lower hwL)
    have HK := Lib.hid kk
    clear hfk hpk hkk kk
    by_cases hlt : k < N ∧ k < 60
    · obtain ⟨hlt, hlt60⟩ := hlt
      obtain ⟨bb, off, rfl, hb, hcc⟩ := HC.out (by rw [← HNN.out]; omega)
      have hc := hcc k (by rw [← HNN.out]; exact hlt)
      have hfit := HFIT.out _ (List.getElem_mem (by rw [← HNN.out]; exact hlt : k < acts.length))
      obtain ⟨t, ht⟩ : ∃ t, t = acts[k]'(by rw [← HNN.out]; exact hlt) := ⟨_, rfl⟩
      rw [← ht] at hc hfit
      obtain ⟨kd, nw, fr, to_, tx⟩ := t
      have hbf : ¬ from_ w.heap.size bb := fun e => by have : w.heap.size ≤ bb := e; omega
      have c0 : wr.cell? ⟨bb, off + k * 5, none⟩ = some (.int .i64 kd) := HK.out.cell (hc 0 _ rfl) hbf
      have c1 : wr.cell? ⟨bb, off + k * 5 + 1, none⟩ = some (.int .i64 nw) := HK.out.cell (hc 1 _ rfl) hbf
      have c2 : wr.cell? ⟨bb, off + k * 5 + 2, none⟩ = some (.int .i64 fr) := HK.out.cell (hc 2 _ rfl) hbf
      have c3 : wr.cell? ⟨bb, off + k * 5 + 3, none⟩ = some (.int .i64 to_) := HK.out.cell (hc 3 _ rfl) hbf
      have c4 : wr.cell? ⟨bb, off + k * 5 + 4, none⟩ = some (.string (str tx)) := HK.out.cell (hc 4 _ rfl) hbf
      have hi0 : (0 : Int) ≤ (k : Int) := by omega
      have hi1 : (k : Int) < (N : Int) := by omega
      have hi2 : (k : Int) < 60 := by omega
      have hd0 := Int.lt_tmod_of_pos nw (show (0 : Int) < 1000000 by decide)
      have hd1 := Int.tmod_lt_of_pos nw (show (0 : Int) < 1000000 by decide)
      obtain ⟨w5, hw5⟩ : ∃ w5 : World, w5 = wr.alloc (.cells #[.int .i64 kd, .int .i64 nw, .int .i64 fr, .int .i64 to_, .string (str tx)] 33) := ⟨_, rfl⟩
      have k5 : Keeps noBlock wr w5 := by rw [hw5]; exact (Keeps.refl _ _).alloc _
      have hb5 : w5.heap[wr.heap.size]? = some (.cells #[.int .i64 kd, .int .i64 nw, .int .i64 fr, .int .i64 to_, .string (str tx)] 33 (0, 0)) := by rw [hw5]; exact heap_alloc_at
      have z6 : w5.heap.size = wr.heap.size + 1 := by rw [hw5]; simp
      have HP5 := Lib.hid (HPK.out.hole k5)
      have HB5 := Lib.hid hb5
      have KR5 := Lib.hid k5
      have hl5 : ∀ w' : World, w5.heap.size ≤ w'.heap.size → ∀ j, w'.heap.size ≤ j → (from_ L j ∧ j ≠ wr.heap.size) := fun w' h j hj => ⟨by show L ≤ j; omega, by omega⟩
      have HL5 := Lib.hid hl5
      clear hc hcc ht hfit hlt k5 hb5 hl5
      go_wp2_with fail
      · rw [← hw5]
        clear hw5
        refine (send_pP w5 a b _ s s k _ fr to_ tx HP5.out (HL5.out w5 (Nat.le_refl _)) HFK.out (by omega) ⟨by omega, by omega⟩).mono ?_
        rintro e w6 ⟨rfl, hp6, k6⟩
        have hb6 := k6.heap HB5.out (fun e => e.2 rfl)
        have z7 := k6.size
        have x1 : w6.cell? ⟨wr.heap.size, 1, none⟩ = some (.int .i64 nw) := by rw [cell_of_heap hb6]; rfl
        have x2 : w6.cell? ⟨wr.heap.size, 2, none⟩ = some (.int .i64 fr) := by rw [cell_of_heap hb6]; rfl
        have x3 : w6.cell? ⟨wr.heap.size, 3, none⟩ = some (.int .i64 to_) := by rw [cell_of_heap hb6]; rfl
        have x4 : w6.cell? ⟨wr.heap.size, 4, none⟩ = some (.string (str tx)) := by rw [cell_of_heap hb6]; rfl
        have HP6 := Lib.hid hp6
        have KR6 := Lib.hid ((KR5.out.any' _).trans k6)
        clear hp6 k6 hb6
        go_wp2_with fail
        refine (send_pR w6 a b _ _ s k _ fr to_ tx HP6.out (HL5.out w6 z7) HFK.out (by omega) ⟨by omega, by omega⟩).mono ?_
        rintro e w7 ⟨rfl, hp7, k7⟩
        have HP7 := Lib.hid hp7
        have KR7 := Lib.hid (KR6.out.trans' k7 (fun _ _ e => e))
        have z8 := k7.size
        clear hp7 k7 x1 x2 x3 x4
        go_wp2_with fail
        refine (wait_pP w7 a b _ _ _ HP7.out).mono ?_
        rintro e w' ⟨rfl, rfl⟩
        go_wp2_with fail
        refine (wait_pR w7 a b _ _ _ HP7.out).mono ?_
        rintro e w' ⟨rfl, rfl⟩
        go_wp2_with fail
        go_roundw
        case rel => exact ⟨k + 1, _, by simp, by omega, by omega, HFK.out.send _ fr to_ tx, HP7.out.mono (fun _ e => e.1), HKK.out.trans (KR7.out.mono fun _ _ e => e.1)⟩
        case measure => simp [intOf]; omega
      · rw [← hw5]
        clear hw5
        obtain ⟨f, t, sx, tm, is, hnv⟩ := nextVal_form s.w
        have HNV := Lib.hid hnv
        have h1 := next_pP w5 a b _ s s k HP5.out (HL5.out w5 (Nat.le_refl _)) HFK.out (by omega)
        rw [hnv] at h1
        clear hnv
        refine h1.mono ?_
        clear h1
        rintro e w6 ⟨rfl, hp6, k6⟩
        have z7 := k6.size
        obtain ⟨w7, hw7⟩ : ∃ w7 : World, w7 = w6.alloc (.cells #[.int .i64 f, .int .i64 t, .string sx] 31) := ⟨_, rfl⟩
        have k7 : Keeps noBlock w6 w7 := by rw [hw7]; exact (Keeps.refl _ _).alloc _
        have hb7 : w7.heap[w6.heap.size]? = some (.cells #[.int .i64 f, .int .i64 t, .string sx] 31 (0, 0)) := by rw [hw7]; exact heap_alloc_at
        have z8 : w7.heap.size = w6.heap.size + 1 := by rw [hw7]; simp
        have HP7 := Lib.hid (hp6.hole k7)
        have HB7 := Lib.hid hb7
        have KR7 := Lib.hid (((KR5.out.any' _).trans k6).trans (k7.any' _))
        clear hp6 k6 k7 hb7
        go_wp2_with fail
        rw [← hw7]
        clear hw7
        have h1 := next_pR w7 a b _ s.next s k HP7.out (fun j hj => ⟨HL5.out w7 (by omega) j hj, by omega⟩) HFK.out (by omega)
        rw [HNV.out] at h1
        refine h1.mono ?_
        clear h1
        rintro e w8 ⟨rfl, hp8, k8⟩
        have z9 := k8.size
        have hb8 := k8.heap HB7.out (fun e => e.2 rfl)
        have x0 : w8.cell? ⟨w6.heap.size, 0, none⟩ = some (.int .i64 f) := by rw [cell_of_heap hb8]; rfl
        have x1 : w8.cell? ⟨w6.heap.size, 1, none⟩ = some (.int .i64 t) := by rw [cell_of_heap hb8]; rfl
        have x2 : w8.cell? ⟨w6.heap.size, 2, none⟩ = some (.string sx) := by rw [cell_of_heap hb8]; rfl
        have hl8 := lt_of_heap hb8
        have HP8 := Lib.hid hp8
        have KR8 := Lib.hid (KR7.out.trans (k8.mono fun _ _ e => e.1))
        clear hp8 k8 hb8
        go_wp2_with fail
        have HP9 := Lib.hid (HP8.out.keep ((Keeps.refl noBlock w8).alloc (.cells #[.int .i64 f, .int .i64 t, .string sx] 31)))
        refine (wait_pP _ a b _ _ _ HP9.out).mono ?_
        rintro e w' ⟨rfl, rfl⟩
        go_wp2_with fail
        refine (wait_pR _ a b _ _ _ HP9.out).mono ?_
        rintro e w' ⟨rfl, rfl⟩
        go_wp2_with fail
        go_roundw
        case rel => exact ⟨k + 1, _, by simp, by omega, by omega, HFK.out.next.mono (by omega), HP9.out.mono (fun _ e => e.1.1), HKK.out.trans ((KR8.out.mono fun _ _ e => e.1).trans ((Keeps.refl _ _).alloc _))⟩
        case measure => simp [intOf]; omega
    · have hend : ¬ (k : Int) < N ∨ ¬ (k : Int) < 60 := by omega
      clear hlt
      by_cases hk2 : (k : Int) < N
      · have hk3 : ¬ (k : Int) < 60 := hend.resolve_left (fun h => h hk2)
        clear hend
        go_wp2_with fail
        go_ret
        exact ⟨rfl, HK.out.below (Nat.le_refl _) (fun j h e => by have : w.heap.size ≤ j := e; omega)⟩
      · clear hend
        go_wp2_with fail
        go_ret
        exact ⟨rfl, HK.out.below (Nat.le_refl _) (fun j h e => by have : w.heap.size ≤ j := e; omega)⟩
#print axioms plays_walk
end Go.Proofs.Ythhimnihgkegiaa
