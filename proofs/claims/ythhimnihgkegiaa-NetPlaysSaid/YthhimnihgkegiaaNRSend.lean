/-
  The contract of the reference's Send. Conditions: bounds on lengths, times and delays.
-/
import Derived.Test.YthhimnihgkegiaaNRef
namespace Go.Proofs.Ythhimnihgkegiaa
open Go Go.RowKit
set_option linter.unusedVariables false

theorem RefAt.push {w w4 : World} {b : Nat} {F : Nat → Prop} {s : NS} {sv lv : Value} {R : List Pc} (h : RefAt w b F s sv lv R) (p : Pc) (k4 : Keeps (fun k => lv.ownBlock = some k) w w4) (g cap : Nat)
    (hown4 : w4.ownsRow 0 69 5 (.slice (some ⟨g, 0, none⟩) (R.length + 1) cap) (R.length + 1) (pcs R ++ pcv p)) (hat : lv.ownBlock = some g ∨ w.heap.size ≤ g) (hok : (⟨s.nodes, s.script, insP p s.w, s.sent⟩ : NS).Ok) :
    RefAt (w4.setCell ⟨b, 2, none⟩ (.slice (some ⟨g, 0, none⟩) (R.length + 1) cap)) b (grow F w (w4.setCell ⟨b, 2, none⟩ (.slice (some ⟨g, 0, none⟩) (R.length + 1) cap))) ⟨s.nodes, s.script, insP p s.w, s.sent⟩ sv (.slice (some ⟨g, 0, none⟩) (R.length + 1) cap) (R ++ [p]) ∧
      Keeps F w (w4.setCell ⟨b, 2, none⟩ (.slice (some ⟨g, 0, none⟩) (R.length + 1) cap)) := by
  have hb4 : w4.heap[b]? = _ := k4.heap h.head (fun e => owns_ne_block h.own h.head (by decide) e)
  have k5 : Keeps (fun k => k = b) w4 (w4.setCell ⟨b, 2, none⟩ (.slice (some ⟨g, 0, none⟩) (R.length + 1) cap)) := (Keeps.refl (fun k => k = b) w4).setCell (p := ⟨b, 2, none⟩) (fun _ => rfl) _
  have s4 := k4.size
  have s5 := k5.size
  have hgl := (hown4.lt g (own_slice.2 rfl)).2
  refine ⟨?_, ?_⟩
  · exact {
      head := heap_set hb4
      fb := .inl h.fb
      scr := k5.owns (k4.owns h.scr fun k e e2 => owns_ne h.scr h.own (by decide) e e2) fun k e e2 => owns_ne_block h.scr h.head (by decide) (e2 ▸ e)
      fscr := fun k e => .inl (h.fscr k e)
      own := by
        have := k5.owns hown4 fun k e e2 => owns_ne_block hown4 hb4 (by decide) (e2 ▸ e)
        rw [List.length_append, pcs_append]
        simpa [pcs] using this
      fown := fun k e => by
        have := own_slice.1 e
        subst this
        rcases hat with h2 | h2
        · exact .inl (h.fown _ h2)
        · exact .inr ⟨h2, by omega⟩
      perm := by
        refine (List.perm_append_comm (l₁ := R) (l₂ := [p])).trans ?_
        exact ((h.perm.cons p).trans (insP_perm p s.w).symm)
      ok := hok
      lt := grow_lt h.lt (by omega) }
  · refine (k4.mono fun k _ e => h.fown k e).trans (k5.mono fun k _ e => ?_)
    exact e ▸ h.fb
theorem RefAt.count {w : World} {b : Nat} {F : Nat → Prop} {s : NS} {sv lv : Value} {R : List Pc} (h : RefAt w b F s sv lv R) (n : Nat) (hn : s.sent ≤ n) : RefAt (w.setCell ⟨b, 3, none⟩ (.int .i64 (n : Int))) b F ⟨s.nodes, s.script, s.w, n⟩ sv lv R where
  head := heap_set h.head
  fb := h.fb
  scr := owns_of_block h.scr fun k e => Below.heap_setCell _ _ _ _ (fun e2 => owns_ne_block h.scr h.head (by decide) (by have e3 : k = b := e2; rw [e3] at e; exact e))
  fscr := h.fscr
  own := owns_of_block h.own fun k e => Below.heap_setCell _ _ _ _ (fun e2 => owns_ne_block h.own h.head (by decide) (by have e3 : k = b := e2; rw [e3] at e; exact e))
  fown := h.fown
  perm := h.perm
  ok := ⟨h.ok.srt, fun p hp => Nat.lt_of_lt_of_le (h.ok.sn p hp) hn⟩
  lt := fun k e => by have := h.lt k e; simpa [World.setCell] using this
def RefPost (b : Nat) (F : Nat → Prop) (s : NS) (w : World) (e : Ending) (w' : World) : Prop :=
  e = .returned (.tuple #[]) ∧ RefP w' b (grow F w w') s ∧ Keeps F w w'

set_option maxHeartbeats 2000000 in
theorem rsend_drop (w : World) (b : Nat) (F : Nat → Prop) (s : NS) (now fr to_ : Int) (tx : List UInt8) (h : RefP w b F s) (hd : s.drops to_ = true) (hn : s.script.length ≤ 1048576) (hs : s.sent ≤ 1099511627776) :
    Calls Try.prog 15 #[.pointer (some ⟨b, 0, none⟩), .int .i64 now, msgVal fr to_ tx] w (RefPost b F (s.send now fr to_ tx) w) := by
  unfold msgVal
  have HP := Lib.hid h
  have hS : s.send now fr to_ tx = ⟨s.nodes, s.script, s.w, s.sent + 1⟩ := by unfold NS.send; rw [if_pos hd]
  rw [hS]
  obtain ⟨lo, hlo⟩ : ∃ x, x = s.tr.lost := ⟨_, rfl⟩
  have hd2 : lo = true ∨ (lo = false ∧ (to_ < 0 ∨ (0 ≤ to_ ∧ s.nodes ≤ to_))) := by
    unfold NS.drops at hd
    rw [← hlo] at hd
    cases lo with
    | true => exact .inl rfl
    | false => simp at hd; exact .inr ⟨rfl, by omega⟩
  have HD2 := Lib.hid hd2
  clear hd2
  obtain ⟨sv, lv, R, hat⟩ := h
  obtain ⟨c0, c1, _, c3⟩ := hat.cells
  have hbl := lt_of_heap hat.head
  have f3 := hat.free 3
  obtain ⟨o1, cap1, hvf, hcp, _, hform⟩ := owns_form hat.scr
  subst hvf
  have HAT := Lib.hid hat
  have HLO := Lib.hid hlo
  clear hat hd hS hlo
  obtain ⟨cps, hcps⟩ : ∃ x, x = s.tr.copies := ⟨_, rfl⟩
  obtain ⟨dl, hdl⟩ : ∃ x, x = s.tr.delay := ⟨_, rfl⟩
  have HCP := Lib.hid hcps
  have HDL := Lib.hid hdl
  clear hcps hdl
  obtain ⟨n, hnn⟩ : ∃ n, n = s.script.length := ⟨_, rfl⟩
  rw [← hnn] at c1 hcp
  obtain ⟨m, hm⟩ : ∃ m, m = s.sent := ⟨_, rfl⟩
  rw [← hm] at c3
  have hs' : m ≤ 1099511627776 := by omega
  by_cases h0 : n = 0
  · have ht := NS.tr_nil (s := s) (by omega)
    have e1 : lo = false := by rw [HLO.out, ht]
    have e2 : cps = 1 := by rw [HCP.out, ht]
    have e3 : dl = 1 := by rw [HDL.out, ht]
    have HE := Lib.hid (And.intro e1 (And.intro e2 e3))
    have hng : ¬ (0 : Int) < (n : Int) := by omega
    have HNN := Lib.hid hnn
    have HM := Lib.hid hm
    clear h0 hform hnn hm ht e1 e2 e3 hs hn
    go_enter Try.func15, Try.ntmps15
    go_wp2_with fail
    obtain ⟨w3, hw3⟩ : ∃ w3 : World, w3 = ((w.setCell ⟨b, 3, none⟩ (.int .i64 ((m : Int) + 1))).alloc (.cells #[.int .i64 fr, .int .i64 to_, .string (str tx)] 31)).alloc (.cells #[.bool false, .int .i64 1, .int .i64 1] 42) := ⟨_, rfl⟩
    have hat3 : RefAt w3 b F ⟨s.nodes, s.script, s.w, s.sent + 1⟩ (.slice o1 s.script.length cap1) lv R := by
      have h2 := HAT.out.count (s.sent + 1) (by omega)
      rw [hw3, HM.out]
      exact h2.keep (S := noBlock) (((Keeps.refl _ _).alloc _).alloc _) (fun _ _ e => e)
    have k3 : Keeps F w w3 := by
      rw [hw3]
      exact (((Keeps.refl F w).setCell (p := ⟨b, 3, none⟩) (fun _ => HAT.out.fb) _).alloc _).alloc _
    have hbm : w3.heap[w.heap.size]? = some (.cells #[.int .i64 fr, .int .i64 to_, .string (str tx)] 31 (0, 0)) := by
      rw [hw3]
      have h := heap_alloc_at (w := w.setCell ⟨b, 3, none⟩ (.int .i64 ((m : Int) + 1))) (o := .cells #[.int .i64 fr, .int .i64 to_, .string (str tx)] 31)
      exact ((Keeps.refl noBlock _).alloc _).heap (by simpa [World.setCell] using h) (fun e => e)
    have hbt : w3.heap[w.heap.size + 1]? = some (.cells #[.bool lo, .int .i64 cps, .int .i64 dl] 42 (0, 0)) := by
      rw [hw3, HE.out.1, HE.out.2.1, HE.out.2.2]
      have h := heap_alloc_at (w := (w.setCell ⟨b, 3, none⟩ (.int .i64 ((m : Int) + 1))).alloc (.cells #[.int .i64 fr, .int .i64 to_, .string (str tx)] 31)) (o := .cells #[.bool false, .int .i64 1, .int .i64 1] 42)
      simpa [World.setCell] using h
    have z3 : w3.heap.size = w.heap.size + 2 := by rw [hw3]; simp [World.setCell]
    rw [← hw3]
    clear hw3 c0 c3 f3 c1
    have x0 : w3.cell? ⟨w.heap.size, 0, none⟩ = some (.int .i64 fr) := by rw [cell_of_heap hbm]; rfl
    have x1 : w3.cell? ⟨w.heap.size, 1, none⟩ = some (.int .i64 to_) := by rw [cell_of_heap hbm]; rfl
    have x2 : w3.cell? ⟨w.heap.size, 2, none⟩ = some (.string (str tx)) := by rw [cell_of_heap hbm]; rfl
    have t0 : w3.cell? ⟨w.heap.size + 1, 0, none⟩ = some (.bool lo) := by rw [cell_of_heap hbt]; rfl
    have t1 : w3.cell? ⟨w.heap.size + 1, 1, none⟩ = some (.int .i64 cps) := by rw [cell_of_heap hbt]; rfl
    have t2 : w3.cell? ⟨w.heap.size + 1, 2, none⟩ = some (.int .i64 dl) := by rw [cell_of_heap hbt]; rfl
    have y0 : w3.cell? ⟨b, 0, none⟩ = some (.int .i64 s.nodes) := hat3.cells.1
    have HAT3 := Lib.hid hat3
    have K3 := Lib.hid k3
    clear hat3 k3 hbm hbt
    have hend : ∀ n, RefPost b F ⟨s.nodes, s.script, s.w, s.sent + 1⟩ w (.returned (.tuple #[])) (w3.drewN n) := fun n => by
      have kn := (Keeps.refl noBlock w3).drewN n
      have h1 : RefP (w3.drewN n) b F ⟨s.nodes, s.script, s.w, s.sent + 1⟩ := RefP.keep ⟨_, lv, R, HAT3.out⟩ kn (fun _ _ e => e)
      refine ⟨rfl, h1.widen (fun k e => .inl e) (grow_lt HAT.out.lt (K3.out.trans (kn.any' F)).size), K3.out.trans (kn.any' F)⟩
    have HEND := Lib.hid hend
    clear hend
    rcases HD2.out with hl | ⟨hl, h1 | ⟨h1, h2⟩⟩
    · subst hl
      go_quiet (fail)
      go_wp2_with fail
      exact bodyPost_ret (results_none rfl _ _ _) rfl (HEND.out _)
    · subst hl
      go_quiet (fail)
      go_wp2_with fail
      exact bodyPost_ret (results_none rfl _ _ _) rfl (HEND.out _)
    · subst hl
      have hdd : decide (to_ < 0) = false := by simpa using h1
      go_quiet (fail)
      go_wp2_with fail
      exact bodyPost_ret (results_none rfl _ _ _) rfl (HEND.out _)
  · have hpos : 0 < s.script.length := by omega
    have ht := NS.tr_get (s := s) hpos
    obtain ⟨g, cur, hg, hh, _⟩ := hform.resolve_left (by omega)
    subst hg
    have hat := owns_tr HAT.out.scr (s.sent % s.script.length) (Nat.mod_lt _ hpos)
    rw [← ht] at hat
    rw [← hnn, ← hm] at hat
    obtain ⟨k, hk⟩ : ∃ k, k = m % n := ⟨_, rfl⟩
    rw [← hk] at hat
    have hkl : k < n := by rw [hk]; exact Nat.mod_lt _ (by omega)
    have hz : (m : Int) % (n : Int) = (k : Int) := by rw [hk]; simp
    obtain ⟨a0, a1, a2⟩ := hat
    rw [← HLO.out] at a0; rw [← HCP.out] at a1; rw [← HDL.out] at a2
    have hk0 : (0 : Int) ≤ (k : Int) := by omega
    have hk1 : (k : Int) < (n : Int) := by omega
    have hn1 : (1 : Int) ≤ (n : Int) := by omega
    have hng : (0 : Int) < (n : Int) := by omega
    have hgl := lt_of_heap hh
    have hb20 : n ≤ 1048576 := by omega
    have HNN := Lib.hid hnn
    have HM := Lib.hid hm
    clear hform hh ht hpos hk hm hnn h0 hs hn
    go_enter Try.func15, Try.ntmps15
    go_wp2_with fail
    go_region
    obtain ⟨w1, hw1⟩ : ∃ w1 : World, w1 = ((w.alloc (.cells #[.int .i64 fr, .int .i64 to_, .string (str tx)] 31)).alloc (.cells #[.bool lo, .int .i64 cps, .int .i64 dl] 42)).drew := ⟨_, rfl⟩
    have k1 : Keeps noBlock w w1 := by rw [hw1]; exact (((Keeps.refl _ _).alloc _).alloc _).drew
    have hbm : w1.heap[w.heap.size]? = some (.cells #[.int .i64 fr, .int .i64 to_, .string (str tx)] 31 (0, 0)) := by
      rw [hw1]; exact (((Keeps.refl noBlock _).alloc _).drew).heap heap_alloc_at (fun e => e)
    have hbt : w1.heap[w.heap.size + 1]? = some (.cells #[.bool lo, .int .i64 cps, .int .i64 dl] 42 (0, 0)) := by
      rw [hw1]; have := heap_alloc_at (w := w.alloc (.cells #[.int .i64 fr, .int .i64 to_, .string (str tx)] 31)) (o := .cells #[.bool lo, .int .i64 cps, .int .i64 dl] 42); exact ((Keeps.refl noBlock _).drew).heap (by simpa using this) (fun e => e)
    have z1 : w1.heap.size = w.heap.size + 2 := by rw [hw1]; show ((w.alloc _).alloc _).heap.size = _; simp
    have c0 := k1.cell c0 (fun e => e)
    have c3 := k1.cell c3 (fun e => e)
    have f3 := k1.frozen hbl (fun e => e) f3
    rw [← hw1]
    have HZ1 := Lib.hid z1
    have hbl1 : b < w1.heap.size := by omega
    clear hw1 z1 a0 a1 a2 c1
    go_wp2_with fail
    obtain ⟨w3, hw3⟩ : ∃ w3 : World, w3 = w1.setCell ⟨b, 3, none⟩ (.int .i64 ((m : Int) + 1)) := ⟨_, rfl⟩
    have hat3 : RefAt w3 b F ⟨s.nodes, s.script, s.w, s.sent + 1⟩ (.slice (some ⟨g, 0, none⟩) s.script.length cap1) lv R := by
      have h2 := (HAT.out.keep k1 (fun _ _ e => e)).count (s.sent + 1) (by omega)
      rw [hw3, HM.out]
      exact h2
    have k3 : Keeps F w w3 := by
      rw [hw3]
      exact (k1.any' F).setCell (p := ⟨b, 3, none⟩) (fun _ => HAT.out.fb) _
    have hbm : w3.heap[w.heap.size]? = some (.cells #[.int .i64 fr, .int .i64 to_, .string (str tx)] 31 (0, 0)) := by
      rw [hw3, Below.heap_setCell _ _ _ _ (by show w.heap.size ≠ b; omega)]; exact hbm
    have hbt : w3.heap[w.heap.size + 1]? = some (.cells #[.bool lo, .int .i64 cps, .int .i64 dl] 42 (0, 0)) := by
      rw [hw3, Below.heap_setCell _ _ _ _ (by show w.heap.size + 1 ≠ b; omega)]; exact hbt
    have z3 : w3.heap.size = w.heap.size + 2 := by rw [hw3]; simpa [World.setCell] using HZ1.out
    rw [← hw3]
    clear hw3 c0 c3 f3 k1
    have x0 : w3.cell? ⟨w.heap.size, 0, none⟩ = some (.int .i64 fr) := by rw [cell_of_heap hbm]; rfl
    have x1 : w3.cell? ⟨w.heap.size, 1, none⟩ = some (.int .i64 to_) := by rw [cell_of_heap hbm]; rfl
    have x2 : w3.cell? ⟨w.heap.size, 2, none⟩ = some (.string (str tx)) := by rw [cell_of_heap hbm]; rfl
    have t0 : w3.cell? ⟨w.heap.size + 1, 0, none⟩ = some (.bool lo) := by rw [cell_of_heap hbt]; rfl
    have t1 : w3.cell? ⟨w.heap.size + 1, 1, none⟩ = some (.int .i64 cps) := by rw [cell_of_heap hbt]; rfl
    have t2 : w3.cell? ⟨w.heap.size + 1, 2, none⟩ = some (.int .i64 dl) := by rw [cell_of_heap hbt]; rfl
    have y0 : w3.cell? ⟨b, 0, none⟩ = some (.int .i64 s.nodes) := hat3.cells.1
    have HAT3 := Lib.hid hat3
    have K3 := Lib.hid k3
    clear hat3 k3 hbm hbt
    have hend : ∀ n, RefPost b F ⟨s.nodes, s.script, s.w, s.sent + 1⟩ w (.returned (.tuple #[])) (w3.drewN n) := fun n => by
      have kn := (Keeps.refl noBlock w3).drewN n
      have h1 : RefP (w3.drewN n) b F ⟨s.nodes, s.script, s.w, s.sent + 1⟩ := RefP.keep ⟨_, lv, R, HAT3.out⟩ kn (fun _ _ e => e)
      refine ⟨rfl, h1.widen (fun k e => .inl e) (grow_lt HAT.out.lt (K3.out.trans (kn.any' F)).size), K3.out.trans (kn.any' F)⟩
    have HEND := Lib.hid hend
    clear hend
    rcases HD2.out with hl | ⟨hl, h1 | ⟨h1, h2⟩⟩
    · subst hl
      go_quiet (fail)
      go_wp2_with fail
      exact bodyPost_ret (results_none rfl _ _ _) rfl (HEND.out _)
    · subst hl
      go_quiet (fail)
      go_wp2_with fail
      exact bodyPost_ret (results_none rfl _ _ _) rfl (HEND.out _)
    · subst hl
      have hdd : decide (to_ < 0) = false := by simpa using h1
      go_quiet (fail)
      go_wp2_with fail
      exact bodyPost_ret (results_none rfl _ _ _) rfl (HEND.out _)
end Go.Proofs.Ythhimnihgkegiaa
