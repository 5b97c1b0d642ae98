/-
  The law's sanity: it returns true, and writes nothing that was there. No condition.
-/
import Derived.Test.YthhimnihgkegiaaNIn
namespace Go.Proofs.Ythhimnihgkegiaa
open Go Go.RowKit
set_option linter.unusedVariables false

def sanScript : List Tr := [⟨false, 0, 5⟩, ⟨true, 0, 0⟩, ⟨false, 2, 0⟩]
def sanTime (k : Nat) : Int := [10, 11, 12, 12].getD k 0
def sanSent : Nat → NS
  | 0 => newS 2 sanScript
  | k + 1 => (sanSent k).send (sanTime k) k 1 []
def sanNext : Nat → NS
  | 0 => sanSent 4
  | k + 1 => (sanNext k).next
def sanWant (k : Nat) : Int × Int := [(2, 12), (2, 13), (0, 15), (3, 17)].getD k (0, 0)
theorem san_len : (sanNext 0).w.length = 4 := by decide +kernel
theorem san_head (k : Nat) (hk : k < 4) : ∃ p l, (sanNext k).w = p :: l ∧ p.fr = (sanWant k).1 ∧ p.at_ = (sanWant k).2 := by
  have h : (sanNext k).w.head?.map (fun p => (p.fr, p.at_)) = some (sanWant k) := by
    match k, hk with
    | 0, _ => decide +kernel
    | 1, _ => decide +kernel
    | 2, _ => decide +kernel
    | 3, _ => decide +kernel
  cases hw : (sanNext k).w with
  | nil => rw [hw] at h; cases h
  | cons p l =>
    rw [hw] at h
    simp only [List.head?_cons, Option.map_some, Option.some.injEq] at h
    exact ⟨p, l, rfl, by rw [← h], by rw [← h]⟩
theorem san_empty : (sanNext 4).w = [] := by
  have : (sanNext 4).w.length = 0 := by decide +kernel
  exact List.eq_nil_of_length_eq_zero this
theorem san_drops : (sanNext 5).drops 2 = true := by decide +kernel
theorem san_last (now fr : Int) (tx : List UInt8) : ((sanNext 5).send now fr 2 tx).w.length = 0 := by
  unfold NS.send
  simp only
  rw [if_pos san_drops]
  have : (sanNext 5).w.length = 0 := by decide +kernel
  exact this
theorem san_fine : ∀ k, (sanSent k).Fine k
  | 0 => NS.Fine.new _ _ (by decide) (by intro t ht; simp [sanScript] at ht; rcases ht with rfl | rfl | rfl <;> decide)
  | k + 1 => (san_fine k).send _ _ _ _
theorem san_fine2 : ∀ k, (sanNext k).Fine 4
  | 0 => san_fine 4
  | k + 1 => (san_fine2 k).next

def SanRel1 (w : World) (b : Nat) (B : Nat → Prop) (i : Value) (wr : World) : Prop :=
  ∃ k : Nat, i = .int .i64 (k : Int) ∧ k ≤ 4 ∧ NetB wr b B (sanSent k) ∧ Keeps B w wr
def SanRel2 (w : World) (b : Nat) (B : Nat → Prop) (ok i : Value) (wr : World) : Prop :=
  ∃ k : Nat, i = .int .i64 (k : Int) ∧ ok = .bool true ∧ k ≤ 4 ∧ NetB wr b B (sanNext k) ∧ Keeps B w wr

set_option maxHeartbeats 1000000 in
theorem sanity_any (w : World) : Calls Try.prog 10 #[] w fun e w' => e = .returned (.bool true) ∧ Keeps noBlock w w' := by
  have hrow := lit_row w sanScript (by decide)
  have HROW := Lib.hid hrow
  clear hrow
  go_enter Try.func10, Try.ntmps10
  go_wp2_with fail
  refine (new_in _ 2 _ sanScript HROW.out (by decide)).mono ?_
  rintro e w1 ⟨b, rfl, hn, k1⟩
  obtain ⟨B, hB⟩ : ∃ B : Nat → Prop, B = from_ (w.heap.size + 1) := ⟨_, rfl⟩
  have hn0 : NetB w1 b B (sanSent 0) := by
    rw [hB]
    simp only [World.size_alloc] at hn
    exact hn
  have hz : w.heap.size < w1.heap.size := by have := k1.size; simp at this; omega
  have hBle : ∀ k, B k → w.heap.size ≤ k := fun k e => by rw [hB] at e; have : w.heap.size + 1 ≤ k := e; omega
  have hBup : ∀ k, w.heap.size < k → B k := fun k e => by rw [hB]; exact e
  have K1 := Lib.hid (((Keeps.refl noBlock w).alloc _).trans k1)
  obtain ⟨w2, hw2⟩ : ∃ w2 : World, w2 = w1.alloc (.cells #[.int .i64 10, .int .i64 11, .int .i64 12, .int .i64 12] 3) := ⟨_, rfl⟩
  have k12 : Keeps noBlock w1 w2 := by rw [hw2]; exact (Keeps.refl _ _).alloc _
  have hn2 := hn0.hole k12
  have hb2 : w2.heap[w1.heap.size]? = some (.cells #[.int .i64 10, .int .i64 11, .int .i64 12, .int .i64 12] 3 (0, 0)) := by rw [hw2]; exact heap_alloc_at
  have hz2 : w1.heap.size < w2.heap.size := by rw [hw2]; simp
  have HN2 := Lib.hid hn2
  have K12 := Lib.hid (K1.out.trans k12)
  have HB2 := Lib.hid hb2
  have HLE := Lib.hid hBle
  have HUP := Lib.hid hBup
  have HW2 := Lib.hid hw2
  clear hn k1 hn0 hB hBle hBup k12 hn2 hb2 hw2
  go_wp2_with fail
  rw [← HW2.out]
  go_loopw [3] (SanRel1 w2 b (fun k => B k ∧ k ≠ w1.heap.size)) (fun i _ => 4 - (intOf i).toNat)
  case atStart => exact ⟨0, rfl, by omega, HN2.out, Keeps.refl _ _⟩
  case round =>
    obtain ⟨k, rfl, hk, hn, hkr⟩ := hrel
    have hsz := hkr.size
    by_cases hlt : k < 4
    · have hc : wr.cell? ⟨w1.heap.size, k, none⟩ = some (.int .i64 (sanTime k)) := by
        rw [cell_of_heap (hkr.heap HB2.out (fun e => e.2 rfl))]
        match k, hlt with
        | 0, _ => rfl
        | 1, _ => rfl
        | 2, _ => rfl
        | 3, _ => rfl
      have hti : -1000000000 ≤ sanTime k ∧ sanTime k ≤ 1000000000 := by
        match k, hlt with
        | 0, _ => decide
        | 1, _ => decide
        | 2, _ => decide
        | 3, _ => decide
      obtain ⟨tm, htm⟩ : ∃ tm, tm = sanTime k := ⟨_, rfl⟩
      rw [← htm] at hc hti
      have hk0 : (0 : Int) ≤ (k : Int) := by omega
      have hk4 : (k : Int) < 4 := by omega
      have HN := Lib.hid hn
      have HKR := Lib.hid hkr
      have HTM := Lib.hid htm
      have HTI := Lib.hid hti
      clear hn hkr htm hti
      go_wp2_with fail
      refine (send_B wr b _ (sanSent k) k tm k 1 [] HN.out (fun j e => ⟨HUP.out j (by omega), by omega⟩) (san_fine k) (by omega) HTI.out).mono ?_
      rintro e w3 ⟨rfl, hn3, k3⟩
      have HN3 := Lib.hid hn3
      have K3 := Lib.hid k3
      clear hn3 k3
      go_wp2_with fail
      go_roundw
      case rel => exact ⟨k + 1, by simp, by omega, by have := HN3.out; rw [HTM.out] at this; exact this, HKR.out.trans K3.out⟩
      case measure => simp [intOf]; omega
    · obtain rfl : k = 4 := by omega
      have HN := Lib.hid hn
      have HKR := Lib.hid hkr
      clear hlt hn hkr
      go_wp2_with fail
      obtain ⟨wo, rfl⟩ : ∃ wo : World, wo = wr := ⟨_, rfl⟩
      obtain ⟨w4, hw4⟩ : ∃ w4 : World, w4 = wo.alloc (.cells #[.int .i64 2, .int .i64 12, .int .i64 2, .int .i64 13, .int .i64 0, .int .i64 15, .int .i64 3, .int .i64 17] 56) := ⟨_, rfl⟩
      have k4 : Keeps noBlock wo w4 := by rw [hw4]; exact (Keeps.refl _ _).alloc _
      have hn4 := HN.out.hole k4
      have hb4 : w4.heap[wo.heap.size]? = some (.cells #[.int .i64 2, .int .i64 12, .int .i64 2, .int .i64 13, .int .i64 0, .int .i64 15, .int .i64 3, .int .i64 17] 56 (0, 0)) := by rw [hw4]; exact heap_alloc_at
      have hz4 : wo.heap.size < w4.heap.size := by rw [hw4]; simp
      have HN4 := Lib.hid hn4
      have HB4 := Lib.hid hb4
      have HLB := Lib.hid (show ∀ j, w4.heap.size ≤ j → (B j ∧ j ≠ w1.heap.size) ∧ j ≠ wo.heap.size from fun j e => ⟨⟨HUP.out j (by omega), by omega⟩, by omega⟩)
      have HK4 := Lib.hid k4
      rw [← hw4]
      clear hw4 k4 hn4 hb4
      refine (waiting_B w4 b _ _ HN4.out).mono ?_
      rintro e w' ⟨rfl, rfl⟩
      rw [show (sanSent 4).w.length = 4 from san_len]
      go_wp2_with fail
      go_loopw [5, 6] (SanRel2 w4 b (fun k => (B k ∧ k ≠ w1.heap.size) ∧ k ≠ wo.heap.size)) (fun _ i _ => 4 - (intOf i).toNat)
      case atStart => exact ⟨0, rfl, by simp, by omega, HN4.out, Keeps.refl _ _⟩
      case round =>
        obtain ⟨k, rfl, rfl, hk, hn, hkq⟩ := hrel
        have hsq := hkq.size
        by_cases hlt : k < 4
        · obtain ⟨p, l, hw, hf, ha⟩ := san_head k hlt
          have hb := hkq.heap HB4.out (fun e => e.2 rfl)
          obtain ⟨wf, hwf⟩ : ∃ x, x = (sanWant k).1 := ⟨_, rfl⟩
          obtain ⟨wt, hwt⟩ : ∃ x, x = (sanWant k).2 := ⟨_, rfl⟩
          have hv : nextVal (sanNext k).w = .tuple #[.agg #[.int .i64 wf, .int .i64 p.to_, .string (str p.tx)], .int .i64 wt, .bool true] := by
            rw [hw, hwf, hwt, ← hf, ← ha]; rfl
          have HV := Lib.hid hv
          have HN := Lib.hid hn
          have HKQ := Lib.hid hkq
          have HB := Lib.hid hb
          have HC := Lib.hid (show ∀ W, Keeps (fun k => (B k ∧ k ≠ w1.heap.size) ∧ k ≠ wo.heap.size) wr W → W.cell? ⟨wo.heap.size, k * 2, none⟩ = some (.int .i64 wf) ∧ W.cell? ⟨wo.heap.size, k * 2 + 1, none⟩ = some (.int .i64 wt) from fun W hk => by
            have h := hk.heap HB.out (fun e => e.2 rfl)
            rw [hwf, hwt]
            refine ⟨?_, ?_⟩ <;> rw [cell_of_heap h]
            · match k, hlt with
              | 0, _ => rfl
              | 1, _ => rfl
              | 2, _ => rfl
              | 3, _ => rfl
            · match k, hlt with
              | 0, _ => rfl
              | 1, _ => rfl
              | 2, _ => rfl
              | 3, _ => rfl)
          have hk0 : (0 : Int) ≤ (k : Int) := by omega
          have hk4 : (k : Int) < 4 := by omega
          have hl1 : wo.heap.size < wr.heap.size := by omega
          clear hn hkq hb hwf hwt hv hw hf ha
          go_wp2_with fail
          refine (next_B wr b _ (sanNext k) 4 HN.out (fun j e => HLB.out j (by omega)) (san_fine2 k) (by omega)).mono ?_
          rintro e w5 ⟨rfl, hn5, k5⟩
          rw [HV.out]
          obtain ⟨q0, q1⟩ := HC.out w5 k5
          have hl2 : wo.heap.size < w5.heap.size := by have := k5.size; omega
          have HN5 := Lib.hid hn5
          have K5 := Lib.hid k5
          clear hn5 k5
          go_wp2_with fail
          go_quiet (fail)
          go_wp2_with fail
          go_roundw
          case rel =>
            have hq := ((Keeps.refl noBlock w5).alloc (.cells #[.int .i64 wf, .int .i64 p.to_, .string (str p.tx)] 31)).drewN nq
            exact ⟨k + 1, by simp, rfl, by omega, HN5.out.keep hq (fun _ _ e => e), (HKQ.out.trans K5.out).trans (hq.any' _)⟩
          case measure => simp [intOf]; omega
        · obtain rfl : k = 4 := by omega
          have HN := Lib.hid hn
          have HKQ := Lib.hid hkq
          clear hlt hn hkq
          go_wp2_with fail
          refine (next_B wr b _ (sanNext 4) 4 HN.out (fun j e => HLB.out j (by omega)) (san_fine2 4) (by omega)).mono ?_
          rintro e w5 ⟨rfl, hn5, k5⟩
          rw [san_empty]
          unfold nextVal
          have hs5 := k5.size
          have HN5 := Lib.hid (hn5.keep ((Keeps.refl noBlock w5).alloc (.cells #[.int .i64 0, .int .i64 0, .string ByteArray.empty] 31)) (fun _ _ e => e))
          have K5 := Lib.hid (k5.trans (((Keeps.refl noBlock w5).alloc (.cells #[.int .i64 0, .int .i64 0, .string ByteArray.empty] 31)).any' _))
          clear hn5 k5
          go_wp2_with fail
          refine (send_B _ b _ (sanNext 5) 4 0 0 2 [] HN5.out (fun j e => HLB.out j (by simp at e; omega)) (san_fine2 5) (by omega) (by omega)).mono ?_
          rintro e w6 ⟨rfl, hn6, k6⟩
          have HN6 := Lib.hid hn6
          have K6 := Lib.hid k6
          clear hn6 k6
          go_wp2_with fail
          refine (waiting_B w6 b _ _ HN6.out).mono ?_
          rintro e w' ⟨rfl, rfl⟩
          rw [san_last]
          go_wp2_with fail
          go_ret
          refine ⟨rfl, ?_⟩
          have h1 := ((HKQ.out.trans K5.out).trans K6.out).mono (T := fun k => w.heap.size ≤ k) (fun k _ e => HLE.out k e.1.1)
          have h2 := HKR.out.mono (T := fun k => w.heap.size ≤ k) (fun k _ e => HLE.out k e.1)
          have h3 := ((h2.trans (HK4.out.any' _)).trans h1)
          exact K12.out.trans' h3 (fun k hk e => by omega)
end Go.Proofs.Ythhimnihgkegiaa
