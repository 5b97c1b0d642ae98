/-
  NetAlone: the law's walk: it returns true, and writes nothing that was there. No condition.
-/
import Derived.Test.YthhimnihgkegiaaNAloneM
import Derived.Test.YthhimnihgkegiaaNIn2
namespace Go.Proofs.Ythhimnihgkegiaa
open Go Go.RowKit Go.ChangeShapes Go.WideShapes Go.ChangeAt
set_option linter.unusedVariables false

def AlRel1 (w : World) (a b L : Nat) (sc : List Tr) (N : Nat) (i : Value) (wr : World) : Prop :=
  ∃ (k : Nat) (s t : NS), i = .int .i64 (k : Int) ∧ k ≤ N ∧ AlBefore sc k s t ∧ Net2B wr a b (from_ L) s t ∧ Keeps (from_ L) w wr
def thisL : List UInt8 := [116, 104, 105, 115]
def otherL : List UInt8 := [111, 116, 104, 101, 114]
def AlRel2 (w : World) (a b L X : Nat) (i : Value) (wr : World) : Prop :=
  ∃ (k : Nat) (s t : NS), i = .int .i64 (k : Int) ∧ k ≤ 300 ∧ AlAfter (300 - k) thisL s t ∧ Net2B wr a b (fun j => L ≤ j ∧ j ≠ X) s t ∧ Keeps (fun j => L ≤ j ∧ j ≠ X) w wr

set_option maxRecDepth 100000 in
set_option maxHeartbeats 4000000 in
theorem alone_walk (l0 : List Tr) (v : Value) (ts0 : List Int) (v1 : Value) (now : Int) (w : World) (hl : Trs w v l0) (hts : U16s w v1 ts0) (hnow : (Lit.int .u16 now).wf = true) :
    Calls Try.prog 5 #[v, v1, .int .u16 now] w fun e w' => e = .returned (.bool true) ∧ Below w.heap.size w w' := by
  obtain ⟨hn0, hn1⟩ := inU16_of hnow
  obtain ⟨o, cap, hv, _⟩ := id hl
  subst hv
  obtain ⟨o1, cap1, rfl, hlc1, hcm1, hcells1, hfit1⟩ := hts
  have HL := Lib.hid hl
  obtain ⟨N, hN⟩ : ∃ N : Nat, N = min ts0.length 30 := ⟨_, rfl⟩
  obtain ⟨ts, htsd⟩ : ∃ l, l = ts0.take 30 := ⟨_, rfl⟩
  have hll : ts.length = N := by rw [htsd, hN]; simp; omega
  have hNl : N ≤ ts0.length := by omega
  have hN30 : N ≤ 30 := by omega
  have HC := Lib.hid (show 0 < N → ∃ b off, o1 = some ⟨b, off, none⟩ ∧ b < w.heap.size ∧ ∀ i (h : i < ts.length), w.cell? ⟨b, off + i, none⟩ = some (.int .u16 ts[i]) ∧ inU16 ts[i] from fun hp => by
    obtain ⟨b, off, ho, hb, hc⟩ := hcells1 (by omega)
    refine ⟨b, off, ho, hb, fun i hi => ?_⟩
    have hi0 : i < ts0.length := by omega
    have he : ts[i] = ts0[i] := by subst htsd; simp
    rw [he]
    have := hc i hi0 0 _ rfl
    rw [Nat.mul_one, Nat.add_zero] at this
    exact ⟨this, hfit1 _ (List.getElem_mem hi0)⟩)
  have hmin : (if (30 : Int) < (ts0.length : Int) then (30 : Int) else (ts0.length : Int)) = (N : Int) := by split <;> omega
  have hsl := fun W => run_slice_to_any (P := Try.prog) 39 40 1 Try.underlying39 (by kernel_rfl) o1 ts0.length cap1 N .i64 (by omega) W
  have HLL := Lib.hid hll
  clear hcells1 hfit1 htsd hll hN hl hnow
  go_enter Try.func5, Try.ntmps5
  go_wp2_with fail
  refine (sanity_any w).mono ?_
  rintro e w1 ⟨rfl, k1⟩
  have z1 := k1.size
  have K1 := Lib.hid k1
  have hs1 : Trs w1 (.slice o l0.length cap) l0 := by
    obtain ⟨o', cap', h1, h2, h3, h4, h5⟩ := HL.out
    simp only [Value.slice.injEq] at h1
    obtain ⟨rfl, _, rfl⟩ := h1
    refine ⟨o, cap, rfl, h2, h3, fun hp => ?_, h5⟩
    obtain ⟨b, off, ho, hb, hcc⟩ := h4 hp
    exact ⟨b, off, ho, by omega, fun i hi j u hu => k1.cell (hcc i hi j u hu) (fun e => e)⟩
  have HS1 := Lib.hid hs1
  clear k1 hs1
  go_wp2_with fail
  refine (script_any w1 _ l0 HS1.out).mono ?_
  rintro e w2 ⟨sv, rfl, hrow, k2⟩
  have z2 := k2.size
  have K2 := Lib.hid (K1.out.trans k2)
  obtain ⟨s, hs⟩ : ∃ s, s = scriptL l0 := ⟨_, rfl⟩
  have hs12 : s.length ≤ 12 := by rw [hs]; exact length_scriptL l0
  have hsd := scriptL_del l0
  rw [← hs] at hsd
  have hfin : (newS 2 s).Fine 0 := by rw [hs]; exact script_fine 2 l0
  rw [← hs] at hrow
  obtain ⟨o3, cap3, hv3, _, _, _⟩ := owns_form hrow
  subst hv3
  have HR := Lib.hid hrow
  have HF := Lib.hid hfin
  have HSD := Lib.hid hsd
  clear hrow k2 hs hfin hsd
  go_wp2_with fail
  refine (new_in w2 2 _ s (owns_zero HR.out) (by omega)).mono ?_
  rintro e w3 ⟨n, rfl, hn3, k3⟩
  have z3 := k3.size
  have HN3 := Lib.hid hn3
  have K3 := Lib.hid (K2.out.trans k3)
  have HR3 := Lib.hid (k3.owns HR.out (fun _ _ e => e))
  clear hn3 k3
  go_wp2_with fail
  refine (new_2 w3 n w2.heap.size (newS 2 s) 2 _ s HN3.out (by omega) (owns_zero HR3.out) (by omega)).mono ?_
  rintro e w4 ⟨m, rfl, hn4, k4⟩
  have z4 := k4.size
  obtain ⟨L, hL⟩ : ∃ L, L = w2.heap.size := ⟨_, rfl⟩
  have hwL : w.heap.size ≤ L := by omega
  have hL4 : L ≤ w4.heap.size := by omega
  rw [← hL] at hn4
  have HN4 := Lib.hid hn4.toB
  have K4 := Lib.hid (K3.out.trans k4)
  clear hn4 k4 hL
  go_wp2_with fail
  go_loopw [11] (AlRel1 w4 n m L s N) (fun i _ => N - (intOf i).toNat)
  case atStart => exact ⟨0, newS 2 s, newS 2 s, rfl, Nat.zero_le _, ⟨fun p hp => by simp [newS] at hp, rfl, rfl, rfl, HF.out, rfl⟩, HN4.out, Keeps.refl _ _⟩
  case round =>
    obtain ⟨k, s1, t1, rfl, hkN, hal, hn5, hk5⟩ := hrel
    have z5 := hk5.size
    have HAL := Lib.hid hal
    have HN5 := Lib.hid hn5
    have HK5 := Lib.hid hk5
    clear hal hn5 hk5
    by_cases hlt : k < N
    · obtain ⟨bb, off, rfl, hb, hc⟩ := HC.out (by omega)
      have hltl : k < ts.length := by rw [HLL.out]; exact hlt
      obtain ⟨c0, hu0, hu1⟩ := hc k hltl
      have kk : Keeps (from_ w.heap.size) w wr := (K4.out.any' _).trans (HK5.out.lower hwL)
      have c0 := kk.cell c0 (fun e => by have : w.heap.size ≤ bb := e; omega)
      obtain ⟨tm, htm⟩ : ∃ tm, tm = ts[k] := ⟨_, rfl⟩
      rw [← htm] at c0 hu0 hu1
      have hi0 : (0 : Int) ≤ (k : Int) := by omega
      have hi1 : (k : Int) < (N : Int) := by omega
      clear kk htm hc
      go_wp2_with fail
      refine (send_2B wr n m _ s1 t1 k tm k 1 otherL HN5.out (fun j e => by show L ≤ j; omega) HAL.out.fine (by omega) (by omega)).mono ?_
      rintro e w6 ⟨rfl, hn6, k6⟩
      have z6 := k6.size
      have HN6 := Lib.hid hn6.swap
      have K6 := Lib.hid k6
      clear hn6 k6
      go_wp2_with fail
      refine (send_2B w6 m n _ t1 _ k 0 0 5 [] HN6.out (fun j e => by show L ≤ j; omega) (by rw [HAL.out.t]; exact ⟨by simp, Nat.le_refl _, by show s.length ≤ _; omega, HSD.out⟩) (by omega) (by omega)).mono ?_
      rintro e w7 ⟨rfl, hn7, k7⟩
      have HN7 := Lib.hid hn7.swap
      have K7 := Lib.hid k7
      clear hn7 k7
      go_wp2_with fail
      go_roundw
      case rel => exact ⟨k + 1, _, _, by simp, by omega, HAL.out.step tm otherL, HN7.out, (HK5.out.trans K6.out).trans K7.out⟩
      case measure => simp [intOf]; omega
    · obtain rfl : k = N := by omega
      clear hlt
      obtain ⟨wo, rfl⟩ : ∃ wo : World, wo = wr := ⟨_, rfl⟩
      have haf := HAL.out.after HN5.out.ok hN30 (by omega) HSD.out now thisL
      have HAF := Lib.hid haf
      clear haf
      go_wp2_with fail
      obtain ⟨w6, hw6⟩ : ∃ w6 : World, w6 = wo.alloc (.cells #[.int .i64 7, .int .i64 0, .string ⟨#[116, 104, 105, 115]⟩] 31) := ⟨_, rfl⟩
      have k6 : Keeps noBlock wo w6 := by rw [hw6]; exact (Keeps.refl _ _).alloc _
      have hb6 : w6.heap[wo.heap.size]? = some (.cells #[.int .i64 7, .int .i64 0, .string ⟨#[116, 104, 105, 115]⟩] 31 (0, 0)) := by rw [hw6]; exact heap_alloc_at
      have z6 : wo.heap.size < w6.heap.size := by rw [hw6]; simp
      obtain ⟨X, hX⟩ : ∃ X, X = wo.heap.size := ⟨_, rfl⟩
      have hn6 : Net2B w6 n m (fun j => L ≤ j ∧ j ≠ X) s1 t1 := by rw [hX]; exact HN5.out.hole k6
      rw [← hX] at hb6
      have HBX := Lib.hid (show ∀ W, Keeps (fun j => L ≤ j ∧ j ≠ X) w6 W → W.cell? ⟨X, 0, none⟩ = some (.int .i64 7) ∧ W.cell? ⟨X, 1, none⟩ = some (.int .i64 0) ∧ W.cell? ⟨X, 2, none⟩ = some (.string ⟨#[116, 104, 105, 115]⟩) from fun W hk => by
        have h := hk.heap hb6 (fun e => e.2 rfl)
        refine ⟨?_, ?_, ?_⟩ <;> rw [cell_of_heap h] <;> rfl)
      have hX6 : X < w6.heap.size := by omega
      have hXL : L ≤ X := by omega
      have HX := Lib.hid hX
      rw [← hw6, ← hX]
      have HN6 := Lib.hid hn6
      have K6 := Lib.hid k6
      clear hw6 k6 hb6 hn6 hX
      refine (send_2B w6 n m _ s1 t1 k now 7 0 thisL HN6.out (fun j e => ⟨by omega, by omega⟩) HAL.out.fine (by omega) (by omega)).mono ?_
      rintro e w7 ⟨rfl, hn7, k7⟩
      obtain ⟨c0, c1, c2⟩ := HBX.out w7 k7
      have z7 := k7.size
      have hX7 : X < w7.heap.size := by omega
      have HN7 := Lib.hid hn7.swap
      have K7 := Lib.hid k7
      clear hn7 k7
      go_wp2_with fail
      refine (send_2B w7 m n _ t1 _ k now 7 0 thisL HN7.out (fun j e => ⟨by omega, by omega⟩) (by rw [HAL.out.t]; exact ⟨by simp, Nat.le_refl _, by show s.length ≤ _; omega, HSD.out⟩) (by omega) (by omega)).mono ?_
      rintro e w8 ⟨rfl, hn8, k8⟩
      have z8 := k8.size
      have HN8 := Lib.hid hn8.swap
      have K8 := Lib.hid (K7.out.trans k8)
      obtain ⟨s2, hs2⟩ : ∃ x, x = s1.send now 7 0 thisL := ⟨_, rfl⟩
      obtain ⟨t2, ht2⟩ : ∃ x, x = t1.send now 7 0 thisL := ⟨_, rfl⟩
      have haf := HAF.out
      have hn8 := HN8.out
      rw [← hs2, ← ht2] at haf hn8
      have HN9 := Lib.hid hn8
      have HA9 := Lib.hid haf
      clear hn8 k8 hs2 ht2 haf c0 c1 c2
      go_wp2_with fail
      go_loopw [13] (AlRel2 w8 n m L X) (fun i _ => 300 - (intOf i).toNat)
      case atStart => exact ⟨0, s2, t2, rfl, Nat.zero_le _, HA9.out, HN9.out, Keeps.refl _ _⟩
      case round =>
        obtain ⟨q, s3, t3, rfl, hq, ha, hn, hkq⟩ := hrel
        have zq := hkq.size
        have HA := Lib.hid ha
        have HN := Lib.hid hn
        have HKQ := Lib.hid hkq
        have HEND := Lib.hid (show ∀ W, Keeps (from_ L) wr W → Below w.heap.size w W from fun W hk =>
          (((((K4.out.any' (from_ w.heap.size)).trans (HK5.out.lower hwL)).trans (K6.out.any' _)).trans (((K8.out.trans hkq).mono (T := from_ L) (fun k _ e => e.1)).lower hwL)).trans (hk.lower hwL)).below (Nat.le_refl _) (fun k hk e => by have : w.heap.size ≤ k := e; omega))
        clear ha hn hkq
        have hB : ∀ j, wr.heap.size ≤ j → L ≤ j ∧ j ≠ X := fun j e => ⟨by omega, by omega⟩
        have HB := Lib.hid hB
        clear hB
        by_cases hlt : q < 300
        · have hi1 : (q : Int) < 300 := by omega
          obtain ⟨r, hr⟩ : ∃ r, 300 - q = r + 1 := ⟨300 - q - 1, by omega⟩
          have ha := HA.out
          rw [hr] at ha
          have hr2 : 300 - (q + 1) = r := by omega
          have HR2 := Lib.hid hr2
          have HA := Lib.hid ha
          clear ha hr hr2
          cases hw : s3.w with
          | nil =>
            have e1 : t3.w.length = 0 := by rw [HA.out.empty hw]; rfl
            have e2 : s3.next.w.length = 0 := by unfold NS.next; rw [hw]; rfl
            have hv : nextVal s3.w = .tuple #[.agg #[.int .i64 0, .int .i64 0, .string ByteArray.empty], .int .i64 0, .bool false] := by rw [hw]; rfl
            have E1 := Lib.hid e1
            have E2 := Lib.hid e2
            have HV := Lib.hid hv
            clear e1 e2 hv hw
            go_wp2_with fail
            refine (next_2B wr n m _ s3 t3 31 HN.out HB.out HA.out.fs (by omega)).mono ?_
            rintro e w9 ⟨rfl, hn9, k9⟩
            rw [HV.out]
            have hq9 := (Keeps.refl noBlock w9).alloc (.cells #[.int .i64 0, .int .i64 0, .string ByteArray.empty] 31)
            have HNa := Lib.hid (hn9.keep hq9).first
            have HNb := Lib.hid (hn9.keep hq9).second
            have K9 := Lib.hid ((k9.mono (T := from_ L) (fun k _ e => e.1)).trans (hq9.any' _))
            clear hn9 k9 hq9
            go_wp2_with fail
            refine (waiting_B _ m _ _ HNb.out).mono ?_
            rintro e w' ⟨rfl, rfl⟩
            rw [E1.out]
            go_wp2_with fail
            refine (waiting_B _ n _ _ HNa.out).mono ?_
            rintro e w' ⟨rfl, rfl⟩
            rw [E2.out]
            go_wp2_with fail
            go_ret
            exact ⟨rfl, HEND.out _ K9.out⟩
          | cons p rest =>
            by_cases hp : p.to_ = 0
            · obtain ⟨ha2, hf7, htx, l2, htw⟩ := HA.out.take p rest hw hp
              obtain ⟨pa, hpa⟩ : ∃ x, x = p.at_ := ⟨_, rfl⟩
              have hv : nextVal s3.w = .tuple #[.agg #[.int .i64 7, .int .i64 0, .string ⟨#[116, 104, 105, 115]⟩], .int .i64 pa, .bool true] := by rw [hw, hpa]; unfold nextVal; simp only [hp, hf7, htx]; rfl
              have hv2 : nextVal t3.w = .tuple #[.agg #[.int .i64 7, .int .i64 0, .string ⟨#[116, 104, 105, 115]⟩], .int .i64 pa, .bool true] := by rw [htw, hpa]; unfold nextVal; simp only [hp, hf7, htx]; rfl
              have HV := Lib.hid hv
              have HV2 := Lib.hid hv2
              have HA2 := Lib.hid ha2
              clear hv hv2 ha2 hf7 htx htw hpa hp hw
              go_wp2_with fail
              refine (next_2B wr n m _ s3 t3 31 HN.out HB.out HA.out.fs (by omega)).mono ?_
              rintro e w9 ⟨rfl, hn9, k9⟩
              rw [HV.out]
              have z9 := k9.size
              obtain ⟨w10, hw10⟩ : ∃ w10 : World, w10 = w9.alloc (.cells #[.int .i64 7, .int .i64 0, .string ⟨#[116, 104, 105, 115]⟩] 31) := ⟨_, rfl⟩
              have hq9 : Keeps noBlock w9 w10 := by rw [hw10]; exact (Keeps.refl _ _).alloc _
              have hb10 : w10.heap[w9.heap.size]? = some (.cells #[.int .i64 7, .int .i64 0, .string ⟨#[116, 104, 105, 115]⟩] 31 (0, 0)) := by rw [hw10]; exact heap_alloc_at
              have z10 : w9.heap.size < w10.heap.size := by rw [hw10]; simp
              obtain ⟨Y, hY⟩ : ∃ Y, Y = w9.heap.size := ⟨_, rfl⟩
              have hn10 : Net2B w10 n m (fun j => (L ≤ j ∧ j ≠ X) ∧ j ≠ Y) s3.next t3 := by rw [hY]; exact hn9.hole hq9
              have HN10 := Lib.hid hn10.swap
              have K10 := Lib.hid (k9.trans (hq9.any' _))
              rw [← hY] at hb10
              have HB10 := Lib.hid hb10
              have HW10 := Lib.hid hw10
              have hYX : X < Y := by omega
              have hY10 : Y < w10.heap.size := by omega
              have HBY := Lib.hid (show ∀ j, w10.heap.size ≤ j → (L ≤ j ∧ j ≠ X) ∧ j ≠ Y from fun j e => ⟨⟨by omega, by omega⟩, by omega⟩)
              obtain ⟨hto0, hto1, hto2⟩ : w10.cell? ⟨Y, 0, none⟩ = some (.int .i64 7) ∧ w10.cell? ⟨Y, 1, none⟩ = some (.int .i64 0) ∧ w10.cell? ⟨Y, 2, none⟩ = some (.string ⟨#[116, 104, 105, 115]⟩) := by
                refine ⟨?_, ?_, ?_⟩ <;> rw [cell_of_heap hb10] <;> rfl
              have HY := Lib.hid hY
              clear hn9 k9 hb10 hq9 hw10 hn10 hY
              go_wp2_with fail
              rw [← HW10.out, ← HY.out]
              refine (next_2B w10 m n _ t3 _ 31 HN10.out HBY.out HA.out.ft (by omega)).mono ?_
              rintro e w11 ⟨rfl, hn11, k11⟩
              rw [HV2.out]
              have z11 := k11.size
              have hb11 := k11.heap HB10.out (fun e => e.2 rfl)
              have y0 : w11.cell? ⟨Y, 0, none⟩ = some (.int .i64 7) := by rw [cell_of_heap hb11]; rfl
              have y1 : w11.cell? ⟨Y, 1, none⟩ = some (.int .i64 0) := by rw [cell_of_heap hb11]; rfl
              have y2 : w11.cell? ⟨Y, 2, none⟩ = some (.string ⟨#[116, 104, 105, 115]⟩) := by rw [cell_of_heap hb11]; rfl
              have hk11 : Keeps (fun j => L ≤ j ∧ j ≠ X) w6 w11 := ((K8.out.trans HKQ.out).trans K10.out).trans (k11.mono (fun _ _ e => e.1))
              obtain ⟨x0, x1, x2⟩ := HBX.out w11 hk11
              have hX11 : X < w11.heap.size := by omega
              have hY11 : Y < w11.heap.size := by omega
              have hq11 := (Keeps.refl noBlock w11).alloc (.cells #[.int .i64 7, .int .i64 0, .string ⟨#[116, 104, 105, 115]⟩] 31)
              have HN11 := Lib.hid ((hn11.swap.mono (fun _ e => e.1)).keep hq11)
              have K11 := Lib.hid ((k11.mono (T := fun j => L ≤ j ∧ j ≠ X) (fun k _ e => e.1)).trans (hq11.any' _))
              clear hn11 k11 hb11 hk11 hq11 hto0 hto1 hto2
              go_wp2_with fail
              go_roundw
              case rel => exact ⟨q + 1, _, _, by simp, by omega, by rw [HR2.out]; exact HA2.out, HN11.out, (HKQ.out.trans K10.out).trans K11.out⟩
              case measure => simp [intOf]; omega
            · have ha2 := HA.out.skip p rest hw hp
              have hv : nextVal s3.w = .tuple #[.agg #[.int .i64 p.fr, .int .i64 p.to_, .string (str p.tx)], .int .i64 p.at_, .bool true] := by rw [hw]; rfl
              have hne : (p.to_ == 0) = false := by simpa using hp
              have hne2 : (p.to_ != 0) = true := by simpa using hp
              have HV := Lib.hid hv
              have HA2 := Lib.hid ha2
              clear hv ha2 hw
              go_wp2_with fail
              refine (next_2B wr n m _ s3 t3 31 HN.out HB.out HA.out.fs (by omega)).mono ?_
              rintro e w9 ⟨rfl, hn9, k9⟩
              rw [HV.out]
              have hq9 := (Keeps.refl noBlock w9).alloc (.cells #[.int .i64 p.fr, .int .i64 p.to_, .string (str p.tx)] 31)
              have HN9 := Lib.hid (hn9.keep hq9)
              have K9 := Lib.hid (k9.trans (hq9.any' _))
              clear hn9 k9 hq9
              go_wp2_with fail
              go_roundw
              case rel => exact ⟨q + 1, _, _, by simp, by omega, by rw [HR2.out]; exact HA2.out, HN9.out, HKQ.out.trans K9.out⟩
              case measure => simp [intOf]; omega
        · obtain rfl : q = 300 := by omega
          have hs0 : s3.w = [] := List.eq_nil_of_length_eq_zero (by have := HA.out.len; omega)
          have e1 : t3.w.length = 0 := by rw [HA.out.empty hs0]; rfl
          have e2 : s3.w.length = 0 := by rw [hs0]; rfl
          have E1 := Lib.hid e1
          have E2 := Lib.hid e2
          clear hlt hs0 e1 e2
          go_wp2_with fail
          refine (waiting_B _ m _ _ HN.out.second).mono ?_
          rintro e w' ⟨rfl, rfl⟩
          rw [E1.out]
          go_wp2_with fail
          refine (waiting_B _ n _ _ HN.out.first).mono ?_
          rintro e w' ⟨rfl, rfl⟩
          rw [E2.out]
          go_wp2_with fail
          go_ret
          exact ⟨rfl, HEND.out _ (Keeps.refl _ _)⟩
end Go.Proofs.Ythhimnihgkegiaa
