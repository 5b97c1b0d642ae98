/-
  The contract of the reference's Send, a message that is delivered.
-/
import Derived.Test.YthhimnihgkegiaaNRSend
namespace Go.Proofs.Ythhimnihgkegiaa
open Go Go.RowKit
set_option linter.unusedVariables false

/-- the net in the loop of Send -/
def RSendRel (w3 : World) (b : Nat) (F : Nat → Prop) (s : NS) (fr to_ : Int) (tx : List UInt8) (a : Int) (K : Nat) (sv : Value) (i : Value) (wr : World) : Prop :=
  ∃ (j : Nat) (lv : Value) (R : List Pc), i = .int .i64 (j : Int) ∧ j ≤ K ∧ RefAt wr b (grow F w3 wr) ⟨s.nodes, s.script, addC fr to_ tx a s.sent j s.w, s.sent + 1⟩ sv lv R ∧ Keeps F w3 wr

set_option maxHeartbeats 2000000 in
theorem rsend_go0 (w : World) (b : Nat) (F : Nat → Prop) (s : NS) (now fr to_ : Int) (tx : List UInt8) (h : RefP w b F s) (hd : s.drops to_ = false) (hn : s.script.length ≤ 1048576) (hs : s.sent ≤ 1099511627776)
    (hnow : -1000000000 ≤ now ∧ now ≤ 1000000000) (hdel : s.tr.delay ≤ 1000000000) (hlen : s.w.length ≤ 900000) (hz : s.script.length = 0) :
    Calls Try.prog 15 #[.pointer (some ⟨b, 0, none⟩), .int .i64 now, msgVal fr to_ tx] w (RefPost b F (s.send now fr to_ tx) w) := by
  unfold msgVal
  have HP := Lib.hid h
  have HZ := Lib.hid hz
  clear hz
  obtain ⟨K, hK⟩ : ∃ K, K = nCop s.tr.copies := ⟨_, rfl⟩
  obtain ⟨D, hD⟩ : ∃ D, D = max s.tr.delay 0 := ⟨_, rfl⟩
  have hS : s.send now fr to_ tx = ⟨s.nodes, s.script, addC fr to_ tx (now + D) s.sent K s.w, s.sent + 1⟩ := by unfold NS.send; rw [if_neg (by rw [hd]; simp), hK, hD]
  rw [hS]
  have hK8 : K ≤ 8 := by rw [hK]; exact (nCop_le _).2
  have hD0 : 0 ≤ D ∧ D ≤ 1000000000 := by rw [hD]; omega
  obtain ⟨lo, hlo⟩ : ∃ x, x = s.tr.lost := ⟨_, rfl⟩
  have hd2 : lo = false ∧ 0 ≤ to_ ∧ to_ < s.nodes := by
    unfold NS.drops at hd
    rw [← hlo] at hd
    cases lo with
    | true => simp at hd
    | false => simp at hd; exact ⟨rfl, by omega⟩
  have HKK := Lib.hid hK
  have HDD := Lib.hid hD
  have HD2 := Lib.hid hd2
  clear hK hD hdel hd2
  obtain ⟨sv, lv, R, hat⟩ := h
  obtain ⟨c0, c1, _, c3⟩ := hat.cells
  have hbl := lt_of_heap hat.head
  have f3 := hat.free 3
  obtain ⟨o1, cap1, hvf, hcp, _, hform⟩ := owns_form hat.scr
  subst hvf
  have HAT := Lib.hid hat
  have HLO := Lib.hid hlo
  clear hat hd hS hlo
  obtain ⟨cps, hcps⟩ : ∃ x, x = s.tr.copies := ⟨_, rfl⟩
  obtain ⟨dl, hdl⟩ : ∃ x, x = s.tr.delay := ⟨_, rfl⟩
  have HCP := Lib.hid hcps
  have HDL := Lib.hid hdl
  clear hcps hdl
  obtain ⟨n, hnn⟩ : ∃ n, n = s.script.length := ⟨_, rfl⟩
  rw [← hnn] at c1 hcp
  obtain ⟨m, hm⟩ : ∃ m, m = s.sent := ⟨_, rfl⟩
  rw [← hm] at c3
  have hs' : m ≤ 1099511627776 := by omega
  by_cases h0 : n = 0
  · have ht := NS.tr_nil (s := s) (by omega)
    have e1 : lo = false := by rw [HLO.out, ht]
    have e2 : cps = 1 := by rw [HCP.out, ht]
    have e3 : dl = 1 := by rw [HDL.out, ht]
    have HE := Lib.hid (And.intro e1 (And.intro e2 e3))
    have hng : ¬ (0 : Int) < (n : Int) := by omega
    have HNN := Lib.hid hnn
    have HM := Lib.hid hm
    clear h0 hform hnn hm ht e1 e2 e3 hs hn
    go_enter Try.func15, Try.ntmps15
    go_wp2_with fail
    obtain ⟨w3, hw3⟩ : ∃ w3 : World, w3 = ((w.setCell ⟨b, 3, none⟩ (.int .i64 ((m : Int) + 1))).alloc (.cells #[.int .i64 fr, .int .i64 to_, .string (str tx)] 31)).alloc (.cells #[.bool false, .int .i64 1, .int .i64 1] 42) := ⟨_, rfl⟩
    have hat3 : RefAt w3 b F ⟨s.nodes, s.script, s.w, s.sent + 1⟩ (.slice o1 s.script.length cap1) lv R := by
      have h2 := HAT.out.count (s.sent + 1) (by omega)
      rw [hw3, HM.out]
      exact h2.keep (S := noBlock) (((Keeps.refl _ _).alloc _).alloc _) (fun _ _ e => e)
    have k3 : Keeps F w w3 := by
      rw [hw3]
      exact (((Keeps.refl F w).setCell (p := ⟨b, 3, none⟩) (fun _ => HAT.out.fb) _).alloc _).alloc _
    have hbm : w3.heap[w.heap.size]? = some (.cells #[.int .i64 fr, .int .i64 to_, .string (str tx)] 31 (0, 0)) := by
      rw [hw3]
      have h := heap_alloc_at (w := w.setCell ⟨b, 3, none⟩ (.int .i64 ((m : Int) + 1))) (o := .cells #[.int .i64 fr, .int .i64 to_, .string (str tx)] 31)
      exact ((Keeps.refl noBlock _).alloc _).heap (by simpa [World.setCell] using h) (fun e => e)
    have hbt : w3.heap[w.heap.size + 1]? = some (.cells #[.bool lo, .int .i64 cps, .int .i64 dl] 42 (0, 0)) := by
      rw [hw3, HE.out.1, HE.out.2.1, HE.out.2.2]
      have h := heap_alloc_at (w := (w.setCell ⟨b, 3, none⟩ (.int .i64 ((m : Int) + 1))).alloc (.cells #[.int .i64 fr, .int .i64 to_, .string (str tx)] 31)) (o := .cells #[.bool false, .int .i64 1, .int .i64 1] 42)
      simpa [World.setCell] using h
    have z3 : w3.heap.size = w.heap.size + 2 := by rw [hw3]; simp [World.setCell]
    rw [← hw3]
    clear hw3 c0 c3 f3 c1
    have x0 : w3.cell? ⟨w.heap.size, 0, none⟩ = some (.int .i64 fr) := by rw [cell_of_heap hbm]; rfl
    have x1 : w3.cell? ⟨w.heap.size, 1, none⟩ = some (.int .i64 to_) := by rw [cell_of_heap hbm]; rfl
    have x2 : w3.cell? ⟨w.heap.size, 2, none⟩ = some (.string (str tx)) := by rw [cell_of_heap hbm]; rfl
    have t0 : w3.cell? ⟨w.heap.size + 1, 0, none⟩ = some (.bool lo) := by rw [cell_of_heap hbt]; rfl
    have t1 : w3.cell? ⟨w.heap.size + 1, 1, none⟩ = some (.int .i64 cps) := by rw [cell_of_heap hbt]; rfl
    have t2 : w3.cell? ⟨w.heap.size + 1, 2, none⟩ = some (.int .i64 dl) := by rw [cell_of_heap hbt]; rfl
    have y0 : w3.cell? ⟨b, 0, none⟩ = some (.int .i64 s.nodes) := hat3.cells.1
    have HAT3 := Lib.hid hat3
    have K3 := Lib.hid k3
    clear hat3 k3 hbm hbt
    obtain ⟨hlf, h1, h2⟩ := HD2.out
    subst hlf
    have hdd : decide (to_ < 0) = false := by simpa using h1
    have hdn : decide (s.nodes ≤ to_) = false := by simpa using h2
    obtain ⟨m1, hm1⟩ : ∃ m : Int, m = max cps 1 := ⟨_, rfl⟩
    have hM1 : (if cps < 1 then (1 : Int) else cps) = m1 := by rw [hm1]; split <;> omega
    have hM2 : (if (8 : Int) < m1 then (8 : Int) else m1) = (K : Int) := by
      have e1 := HKK.out; have e2 := HCP.out
      rw [← e2] at e1; unfold nCop at e1
      split <;> omega
    have hM3 : (if dl < 0 then (0 : Int) else dl) = D := by
      have e1 := HDD.out; have e2 := HDL.out
      rw [← e2] at e1
      split <;> omega
    clear hm1
    go_quiet (fail)
    go_wp2_with fail
    obtain ⟨A, hA⟩ : ∃ A, A = now + D := ⟨_, rfl⟩
    have hA1 : -1000000000 ≤ A ∧ A ≤ 2000000000 := by omega
    have hw1 : IntKind.i64.wrap (now + D) = A := by rw [hA]; exact IntWalk.i64_in _ (by omega)
    rw [← hA]
    clear hA hD0
    obtain ⟨w4, hw4⟩ : ∃ w4, w4 = w3.drewN nq := ⟨_, rfl⟩
    have k34 : Keeps noBlock w3 w4 := by rw [hw4]; exact (Keeps.refl _ _).drewN _
    have hat4 := HAT3.out.keep k34 (fun _ _ e => e)
    have x0 := k34.cell x0 (fun e => e)
    have x1 := k34.cell x1 (fun e => e)
    have x2 := k34.cell x2 (fun e => e)
    have t1 := k34.cell t1 (fun e => e)
    have t2 := k34.cell t2 (fun e => e)
    have z4 := k34.size
    have HAT4 := Lib.hid hat4
    have K34 := Lib.hid k34
    rw [← hw4]
    clear hw4 hat4 k34 t0 y0
    have HFL := Lib.hid (show ∀ k, w.heap.size ≤ k → ¬ F k from fun k hk e => by have := HAT.out.lt k e; omega)
    have HOK := Lib.hid HAT.out.ok
    have HF4 := Lib.hid HAT4.out.lt
    have HSL := Lib.hid (show s.w.length ≤ 900000 from hlen)
    go_loopw [8] (RSendRel w4 b F s fr to_ tx A K (.slice o1 s.script.length cap1)) (fun i _ => K - (intOf i).toNat)
    case atStart =>
      exact ⟨0, lv, R, rfl, Nat.zero_le _, by
        have h := HAT4.out
        exact { h with fb := .inl h.fb, fscr := fun k e => .inl (h.fscr k e), fown := fun k e => .inl (h.fown k e), lt := grow_lt h.lt (Nat.le_refl _) }, Keeps.refl _ _⟩
    case round =>
      obtain ⟨j, lvj, Rj, rfl, hjK, hatj, hkj⟩ := hrel
      have HJ := Lib.hid hatj
      have HKJ := Lib.hid hkj
      have t1 := hkj.cell t1 (HFL.out _ (by show _ ≤ w.heap.size + 1; omega))
      by_cases hlt : j < K
      · have hlt' : (j : Int) < (K : Int) := by omega
        have x0 := hkj.cell x0 (HFL.out _ (Nat.le_refl _))
        have x1 := hkj.cell x1 (HFL.out _ (Nat.le_refl _))
        have x2 := hkj.cell x2 (HFL.out _ (Nat.le_refl _))
        have t2 := hkj.cell t2 (HFL.out _ (by show _ ≤ w.heap.size + 1; omega))
        have hw2 : IntKind.i64.wrap (A + (j : Int)) = A + (j : Int) := IntWalk.i64_in _ (by omega)
        have hln : Rj.length ≤ 1000000 := by rw [hatj.perm.length_eq]; simp only [length_addC]; have := HSL.out; omega
        obtain ⟨_, _, y2, _⟩ := hatj.cells
        have yf := hatj.free 2
        obtain ⟨oj, capj, hvj, _⟩ := owns_form hatj.own
        subst hvj
        obtain ⟨i0, hi, hz0, hz1, hz2⟩ := info_parts infoCp
        have hbw : b < wr.heap.size := lt_of_heap hatj.head
        have HNE := Lib.hid (show some b ≠ (Value.slice oj Rj.length capj).ownBlock from fun e => owns_ne_block hatj.own hatj.head (by decide) e.symm)
        have HN := Lib.hid (show ∀ (X : Obj) (W : World), W = (wr.alloc X).drew → (∀ a, a.block < wr.heap.size → W.cell? a = wr.cell? a) ∧ (∀ a, a.block < wr.heap.size → W.frozen? a = wr.frozen? a) ∧ Keeps noBlock wr W ∧ W.heap[wr.heap.size]? = some X from fun X W e => by
          have k : Keeps noBlock wr W := by rw [e]; exact ((Keeps.refl _ _).alloc _).drew
          exact ⟨fun a h => World.cell?_of_block (k.block _ h (fun e => e)), fun a h => World.frozen?_of_block (k.block _ h (fun e => e)), k, by rw [e]; exact ((Keeps.refl noBlock _).drew).heap (heap_alloc_new wr X) (fun e => e)⟩)
        have hsz4 := hkj.size
        have hpost : ∀ (g5 cap5 : Nat) (w5 : World), w5.ownsRow 0 69 5 (.slice (some ⟨g5, 0, none⟩) (Rj.length + 1) cap5) (Rj.length + 1) (pcs Rj ++ pcv (cop fr to_ tx A m j)) →
            ((wr.alloc (.cells #[.int .i64 fr, .int .i64 to_, .string (str tx), .int .i64 (A + (j : Int)), .int .i64 (m : Int)] 69)).drew).grownBy w5 (Value.slice oj Rj.length capj).ownBlock →
            ((Value.slice oj Rj.length capj).ownBlock = some g5 ∨ g5 = wr.heap.size + 1) →
            RSendRel w4 b F s fr to_ tx A K (.slice o1 s.script.length cap1) (.int .i64 ((j : Int) + 1)) (w5.setCell ⟨b, 2, none⟩ (.slice (some ⟨g5, 0, none⟩) (Rj.length + 1) cap5)) := by
          intro g5 cap5 w5 hown5 hgrow5 hat5
          have k4 : Keeps (fun k => (Value.slice oj Rj.length capj).ownBlock = some k) wr w5 := ((HN.out _ _ rfl).2.2.1.any' _).grown hgrow5 (fun k e _ => e)
          rw [HM.out] at hown5
          obtain ⟨h5, k5⟩ := hatj.push (cop fr to_ tx A s.sent j) k4 g5 cap5 hown5 (hat5.imp id fun e => by omega) ⟨addC_srt fr to_ tx A s.sent s.w HOK.out.srt HOK.out.sn (j + 1), fun p hp => by
            rcases List.mem_append.1 ((addC_perm fr to_ tx A s.sent (j + 1) s.w).mem_iff.1 hp) with hp | hp
            · have := HOK.out.sn p hp; show p.sn < s.sent + 1; omega
            · obtain ⟨i, _, rfl⟩ := List.mem_map.1 hp
              show s.sent < s.sent + 1; omega⟩
          have s5 := k5.size
          refine ⟨j + 1, _, _, by simp, by omega, h5.widen (fun k e => ?_) (grow_lt HF4.out (by omega)), hkj.trans' k5 fun k hk e => ?_⟩
          · rcases e with e | e
            · rcases e with e | e
              · exact .inl e
              · exact .inr ⟨e.1, by omega⟩
            · have e1 : wr.heap.size ≤ k := e.1
              exact .inr ⟨by omega, e.2⟩
          · rcases e with e | e
            · exact e
            · omega
        have HPOST := Lib.hid hpost
        clear hatj hkj hlt hpost
        go_wp2_with fail
        go_region_law
          ((refine step_append_lies _ (by rfl) _ _ _ (by rfl) 0 69 i0 _ 5 48 Try.underlying58 hi hz0 hz1 hz2 rfl (by omega) (.slice oj Rj.length capj) Rj.length (pcs Rj) (by rfl) ((HJ.out.own.alloc _).drew)
              ⟨wr.heap.size, 0, none⟩ 1 1 (pcv (cop fr to_ tx A m j)) (by rfl) (by rfl) (World.news_of_block (cs := #[.int .i64 fr, .int .i64 to_, .string (str tx), .int .i64 (A + (j : Int)), .int .i64 (m : Int)]) (t := 69) (fr := (0, 0)) (HN.out _ _ rfl).2.2.2) (by simp [pcv, Value.oneCell'])
              (by omega) (by unfold maxLen; omega) (by omega) (by simp) (wr.heap.size + 1) (by simp) ?_; intro g5 cap5 w5 hown5 hgrow5 hat5 hlt5; have yf5 : w5.frozen? ⟨b, 2, none⟩ = false := (hgrow5.frozen_far _ (by simp; omega) HNE.out).trans (((HN.out _ _ rfl).2.1 _ hbw).trans yf); have y5 : w5.cell? ⟨b, 2, none⟩ = some (.slice oj Rj.length capj) := (hgrow5.cell_far _ (by simp; omega) HNE.out).trans (((HN.out _ _ rfl).1 _ hbw).trans y2)))
        all_goals
          have H6 := Lib.hid (HPOST.out g5 cap5 w5 hown5 hgrow5 hat5)
          clear hown5 hgrow5 hat5 y5 yf5 hlt5 x0 x1 x2 t1 t2 y2 yf
          go_wp2_with fail
          go_roundw
          case rel => exact H6.out
          case measure => simp [intOf]; omega
      · have hjj : j = K := by omega
        have hlt' : ¬ (j : Int) < (K : Int) := by omega
        clear hlt hatj hkj
        go_wp2_with fail
        go_end0
        subst hjj
        have hk := (K3.out.trans (K34.out.any' F)).trans HKJ.out
        have hsz := hk.size
        refine ⟨rfl, RefP.widen ⟨_, lvj, Rj, HJ.out⟩ ?_ (grow_lt HAT.out.lt hsz), hk⟩
        intro k e
        rcases e with e | e
        · exact .inl e
        · exact .inr ⟨by omega, e.2⟩
  · exact absurd HZ.out (by omega)
end Go.Proofs.Ythhimnihgkegiaa
