/-
  The contracts of trouble, Send and Next of the program's net. Conditions: bounds on lengths, times and delays.
-/
import Derived.Test.YthhimnihgkegiaaNNet
import Derived.StillTailTactics
namespace Go.Proofs.Ythhimnihgkegiaa
open Go Go.RowKit
set_option linter.unusedVariables false

theorem NS.tr_nil {s : NS} (h : s.script.length = 0) : s.tr = ⟨false, 1, 1⟩ := by
  unfold NS.tr; rw [if_pos (List.eq_nil_of_length_eq_zero h)]
theorem NS.tr_get {s : NS} (h : 0 < s.script.length) : s.tr = s.script[s.sent % s.script.length]'(Nat.mod_lt _ h) := by
  unfold NS.tr; rw [if_neg (List.length_pos_iff.1 h)]
  simp [List.getD_eq_getElem?_getD, List.getElem?_eq_getElem (Nat.mod_lt _ h)]

theorem trouble_any (w : World) (b : Nat) (F : Nat → Prop) (s : NS) (h : NetP w b F s) (hn : s.script.length ≤ 1048576) (hs : s.sent ≤ 1099511627776) :
    Calls Try.prog 21 #[.pointer (some ⟨b, 0, none⟩)] w fun e w' => e = .returned (trVal s.tr) ∧ Keeps noBlock w w' := by
  obtain ⟨sv, wv, H, h⟩ := h
  obtain ⟨o1, cap1, hvf, hcp, _, hform⟩ := owns_form h.scr
  subst hvf
  obtain ⟨_, c1, _, c3⟩ := h.cells
  obtain ⟨n, hnn⟩ : ∃ n, n = s.script.length := ⟨_, rfl⟩
  have HO := Lib.hid h.scr
  have hbl := lt_of_heap h.head
  clear h
  have HN := Lib.hid hnn
  by_cases h0 : n = 0
  · have ht := NS.tr_nil (s := s) (by omega)
    rw [← hnn] at c1
    subst h0
    rw [ht]
    unfold trVal
    clear hform hnn ht
    go_enter Try.func21, Try.ntmps21
    go_wp2_with fail
    exact bodyPost_ret (v := .agg #[.bool false, .int .i64 1, .int .i64 1]) (by simp [results, Try.results21, go_sem]) rfl ⟨rfl, (Keeps.refl _ _).alloc _⟩
  · have hpos : 0 < s.script.length := by omega
    have ht := NS.tr_get (s := s) hpos
    obtain ⟨g, cur, hg, hh, _⟩ := hform.resolve_left (by omega)
    subst hg
    have hat := owns_tr HO.out (s.sent % s.script.length) (Nat.mod_lt _ hpos)
    rw [← ht] at hat
    rw [← hnn] at c1 hat hcp
    obtain ⟨k, hk⟩ : ∃ k, k = s.sent % n := ⟨_, rfl⟩
    rw [← hk] at hat
    have hkl : k < n := by rw [hk]; exact Nat.mod_lt _ (by omega)
    obtain ⟨m, hm⟩ : ∃ m, m = s.sent := ⟨_, rfl⟩
    rw [← hm] at c3 hk hs
    have hz : (m : Int) % (n : Int) = (k : Int) := by rw [hk]; simp
    obtain ⟨t, htt⟩ : ∃ t, t = s.tr := ⟨_, rfl⟩
    rw [← htt] at hat ⊢
    obtain ⟨a0, a1, a2⟩ := hat
    have hk0 : (0 : Int) ≤ (k : Int) := by omega
    have hk1 : (k : Int) < (n : Int) := by omega
    have hn1 : (1 : Int) ≤ (n : Int) := by omega
    have hne : ((n : Int) == 0) = false := by simp; omega
    have hgl := lt_of_heap hh
    have hb20 : n ≤ 1048576 := by omega
    unfold trVal
    clear hform hh ht hpos hk hm htt h0 hnn
    go_enter Try.func21, Try.ntmps21
    go_wp2_with fail
    go_region
    all_goals
      go_wp2_with fail
      exact bodyPost_ret (v := .agg #[.bool t.lost, .int .i64 t.copies, .int .i64 t.delay]) (by simp [results, Try.results21, go_sem]) rfl ⟨rfl, ((Keeps.refl _ _).alloc _).drew⟩

theorem NetAt.push {w w' : World} {b : Nat} {F : Nat → Prop} {s : NS} {sv wv : Value} {H : List Pc} (h : NetAt w b F s sv wv H) (p : Pc) (wv' : Value) (H' : List Pc) (hperm : H'.Perm (p :: H)) (hheap : HeapTo H'.length H')
    (hpl : PL w' b 2 wv' H') (hk : Keeps (fun k => k = b ∨ wv.ownBlock = some k) w w') (hnew : ∀ k, wv'.ownBlock = some k → wv.ownBlock = some k ∨ w.heap.size ≤ k) (hhead : HeadSet w w' b 2 wv')
    (hok : (⟨s.nodes, s.script, insP p s.w, s.sent⟩ : NS).Ok) : NetAt w' b (grow F w w') ⟨s.nodes, s.script, insP p s.w, s.sent⟩ sv wv' H' where
  head := hhead _ _ h.head
  fb := .inl h.fb
  scr := hk.owns h.scr fun k e e2 => by
    rcases e2 with e2 | e2
    · exact owns_ne_block h.scr h.head (by decide) (e2 ▸ e)
    · exact owns_ne h.scr h.own (by decide) e e2
  fscr := fun k e => .inl (h.fscr k e)
  own := hpl.own
  fown := fun k e => by
    rcases hnew k e with e2 | e2
    · exact .inl (h.fown k e2)
    · exact .inr ⟨e2, (hpl.own.lt k e).2⟩
  perm := hperm.trans ((h.perm.cons p).trans (insP_perm p s.w).symm)
  heap := hheap
  ok := hok
  lt := grow_lt h.lt hk.size
theorem NetAt.pushF {w w' : World} {b : Nat} {F : Nat → Prop} {s : NS} {sv wv : Value} {H : List Pc} (h : NetAt w b F s sv wv H) (hk : Keeps (fun k => k = b ∨ wv.ownBlock = some k) w w') : Keeps F w w' :=
  hk.mono fun k _ e => by
    rcases e with e | e
    · exact e ▸ h.fb
    · exact h.fown k e
/-- the number of messages, one more -/
theorem NetAt.count {w : World} {b : Nat} {F : Nat → Prop} {s : NS} {sv wv : Value} {H : List Pc} (h : NetAt w b F s sv wv H) (n : Nat) (hn : s.sent ≤ n) : NetAt (w.setCell ⟨b, 3, none⟩ (.int .i64 (n : Int))) b F ⟨s.nodes, s.script, s.w, n⟩ sv wv H where
  head := heap_set h.head
  fb := h.fb
  scr := owns_of_block h.scr fun k e => Below.heap_setCell _ _ _ _ (fun e2 => owns_ne_block h.scr h.head (by decide) (by have e3 : k = b := e2; rw [e3] at e; exact e))
  fscr := h.fscr
  own := owns_of_block h.own fun k e => Below.heap_setCell _ _ _ _ (fun e2 => owns_ne_block h.own h.head (by decide) (by have e3 : k = b := e2; rw [e3] at e; exact e))
  fown := h.fown
  perm := h.perm
  heap := h.heap
  ok := ⟨h.ok.srt, fun p hp => Nat.lt_of_lt_of_le (h.ok.sn p hp) hn⟩
  lt := fun k e => by have := h.lt k e; simpa [World.setCell] using this

def NetPost (b : Nat) (F : Nat → Prop) (s : NS) (w : World) (e : Ending) (w' : World) : Prop :=
  e = .returned (.tuple #[]) ∧ NetP w' b (grow F w w') s ∧ Keeps F w w'
def msgVal (fr to_ : Int) (tx : List UInt8) : Value := .agg #[.int .i64 fr, .int .i64 to_, .string (str tx)]

theorem send_nil (w : World) (now fr to_ : Int) (tx : List UInt8) :
    Calls Try.prog 14 #[.pointer none, .int .i64 now, msgVal fr to_ tx] w fun e w' => e = .returned (.tuple #[]) ∧ Keeps noBlock w w' := by
  unfold msgVal
  go_enter Try.func14, Try.ntmps14
  go_wp2
  exact bodyPost_ret (results_none rfl _ _ _) rfl ⟨rfl, (Keeps.refl _ _).alloc _⟩

set_option maxHeartbeats 1000000 in
theorem send_drop (w : World) (b : Nat) (F : Nat → Prop) (s : NS) (now fr to_ : Int) (tx : List UInt8) (h : NetP w b F s) (hd : s.drops to_ = true) (hn : s.script.length ≤ 1048576) (hs : s.sent ≤ 1099511627776) :
    Calls Try.prog 14 #[.pointer (some ⟨b, 0, none⟩), .int .i64 now, msgVal fr to_ tx] w (NetPost b F (s.send now fr to_ tx) w) := by
  unfold msgVal
  have HP := Lib.hid h
  have hS : s.send now fr to_ tx = ⟨s.nodes, s.script, s.w, s.sent + 1⟩ := by unfold NS.send; rw [if_pos hd]
  rw [hS]
  obtain ⟨lo, hlo⟩ : ∃ x, x = s.tr.lost := ⟨_, rfl⟩
  have hd2 : lo = true ∨ (lo = false ∧ (to_ < 0 ∨ (0 ≤ to_ ∧ s.nodes ≤ to_))) := by
    unfold NS.drops at hd
    rw [← hlo] at hd
    cases lo with
    | true => exact .inl rfl
    | false => simp at hd; exact .inr ⟨rfl, by omega⟩
  obtain ⟨sv, wv, H, hat⟩ := h
  obtain ⟨c0, _, _, c3⟩ := hat.cells
  have hbl := lt_of_heap hat.head
  have f3 := hat.free 3
  have HAT := Lib.hid hat
  have HLO := Lib.hid hlo
  clear hat hd hS hlo
  obtain ⟨cps, hcps⟩ : ∃ x, x = s.tr.copies := ⟨_, rfl⟩
  obtain ⟨dl, hdl⟩ : ∃ x, x = s.tr.delay := ⟨_, rfl⟩
  have HCP := Lib.hid hcps
  have HDL := Lib.hid hdl
  clear hcps hdl
  go_enter Try.func14, Try.ntmps14
  go_wp2_with fail
  obtain ⟨w0, hw0⟩ : ∃ w0 : World, w0 = w.alloc (.cells #[.int .i64 fr, .int .i64 to_, .string (str tx)] 31) := ⟨_, rfl⟩
  have k0 : Keeps noBlock w w0 := by rw [hw0]; exact (Keeps.refl _ _).alloc _
  have x0 : w0.cell? ⟨w.heap.size, 0, none⟩ = some (.int .i64 fr) := by rw [hw0, World.cell?_alloc_new]; rfl
  have x1 : w0.cell? ⟨w.heap.size, 1, none⟩ = some (.int .i64 to_) := by rw [hw0, World.cell?_alloc_new]; rfl
  have x2 : w0.cell? ⟨w.heap.size, 2, none⟩ = some (.string (str tx)) := by rw [hw0, World.cell?_alloc_new]; rfl
  have z0 : w0.heap.size = w.heap.size + 1 := by rw [hw0]; simp
  have HZ0 := Lib.hid z0
  rw [← hw0]
  clear hw0 z0
  have K0 := Lib.hid k0
  clear k0
  refine (trouble_any w0 b F s (HP.out.still K0.out) hn hs).mono ?_
  rintro e w1 ⟨rfl, k1⟩
  have c0 := k1.cell (K0.out.cell c0 (fun e => e)) (fun e => e)
  have c3 := k1.cell (K0.out.cell c3 (fun e => e)) (fun e => e)
  have x0 := k1.cell x0 (fun e => e)
  have x1 := k1.cell x1 (fun e => e)
  have x2 := k1.cell x2 (fun e => e)
  have f3 := k1.frozen (by have := K0.out.size; show b < _; omega) (fun e => e) (K0.out.frozen hbl (fun e => e) f3)
  have hbl1 : b < w1.heap.size := by have := K0.out.size; have := k1.size; omega
  have K1 := Lib.hid k1
  have hxl : w.heap.size < w1.heap.size := by have := HZ0.out; have := k1.size; omega
  have hbx : b < w.heap.size := hbl
  clear k1
  unfold trVal
  rw [← HLO.out, ← HCP.out, ← HDL.out]
  go_wp2_with fail
  obtain ⟨w3, hw3⟩ : ∃ w3 : World, w3 = (w1.setCell ⟨b, 3, none⟩ (.int .i64 ((s.sent : Int) + 1))).alloc (.cells #[.bool lo, .int .i64 cps, .int .i64 dl] 42) := ⟨_, rfl⟩
  have hat3 : NetAt w3 b F ⟨s.nodes, s.script, s.w, s.sent + 1⟩ sv wv H := by
    rw [hw3]
    have h2 := ((HAT.out.keep K0.out (fun _ _ e => e)).keep K1.out (fun _ _ e => e)).count (s.sent + 1) (by omega)
    exact h2.keep (S := noBlock) ((Keeps.refl _ _).alloc _) (fun _ _ e => e)
  have k3 : Keeps F w w3 := by
    rw [hw3]
    exact ((((K0.out.trans K1.out).any' F).setCell (p := ⟨b, 3, none⟩) (fun _ => HAT.out.fb) _).alloc _)
  have y0 : w3.cell? ⟨b, 0, none⟩ = some (.int .i64 s.nodes) := hat3.cells.1
  have hnx : w.heap.size ≠ b := by omega
  have x0 : w3.cell? ⟨w.heap.size, 0, none⟩ = some (.int .i64 fr) := by rw [hw3, World.cell?_alloc_old _ _ _ (by simp [World.setCell]; omega), World.cell?_setCell_other _ _ _ _ (by simp)]; exact x0
  have x1 : w3.cell? ⟨w.heap.size, 1, none⟩ = some (.int .i64 to_) := by rw [hw3, World.cell?_alloc_old _ _ _ (by simp [World.setCell]; omega), World.cell?_setCell_other _ _ _ _ (by simp)]; exact x1
  have x2 : w3.cell? ⟨w.heap.size, 2, none⟩ = some (.string (str tx)) := by rw [hw3, World.cell?_alloc_old _ _ _ (by simp [World.setCell]; omega), World.cell?_setCell_other _ _ _ _ (by simp)]; exact x2
  have zz : (w1.setCell ⟨b, 3, none⟩ (.int .i64 ((s.sent : Int) + 1))).heap.size = w1.heap.size := by simp [World.setCell]
  have t0 : w3.cell? ⟨w1.heap.size, 0, none⟩ = some (.bool lo) := by rw [hw3, ← zz, World.cell?_alloc_new]; rfl
  have t1 : w3.cell? ⟨w1.heap.size, 1, none⟩ = some (.int .i64 cps) := by rw [hw3, ← zz, World.cell?_alloc_new]; rfl
  have t2 : w3.cell? ⟨w1.heap.size, 2, none⟩ = some (.int .i64 dl) := by rw [hw3, ← zz, World.cell?_alloc_new]; rfl
  have z3 : w1.heap.size < w3.heap.size := by rw [hw3]; simp [World.setCell]
  have HAT3 := Lib.hid hat3
  have K3 := Lib.hid k3
  rw [← hw3]
  clear hw3 hat3 k3 zz c0 c3 f3
  have hend : ∀ n, NetPost b F ⟨s.nodes, s.script, s.w, s.sent + 1⟩ w (.returned (.tuple #[])) (w3.drewN n) := fun n => by
    have kn := (Keeps.refl noBlock w3).drewN n
    have h1 : NetP (w3.drewN n) b F ⟨s.nodes, s.script, s.w, s.sent + 1⟩ := NetP.still ⟨sv, wv, H, HAT3.out⟩ kn
    refine ⟨rfl, h1.widen (fun k e => .inl e) (grow_lt HAT.out.lt (K3.out.trans (kn.any' F)).size), K3.out.trans (kn.any' F)⟩
  have HE := Lib.hid hend
  clear hend
  rcases hd2 with rfl | ⟨rfl, h1 | ⟨h1, h2⟩⟩
  · go_quiet (fail)
    go_wp2_with fail
    exact bodyPost_ret (results_none rfl _ _ _) rfl (HE.out _)
  · go_quiet (fail)
    go_wp2_with fail
    exact bodyPost_ret (results_none rfl _ _ _) rfl (HE.out _)
  · have hdd : decide (to_ < 0) = false := by simpa using h1
    go_quiet (fail)
    go_wp2_with fail
    exact bodyPost_ret (results_none rfl _ _ _) rfl (HE.out _)

/-- the net in the loop of Send -/
def SendRel (w3 : World) (b : Nat) (F : Nat → Prop) (s : NS) (fr to_ : Int) (tx : List UInt8) (a : Int) (K : Nat) (sv : Value) (i : Value) (wr : World) : Prop :=
  ∃ (j : Nat) (wv : Value) (H : List Pc), i = .int .i64 (j : Int) ∧ j ≤ K ∧ NetAt wr b (grow F w3 wr) ⟨s.nodes, s.script, addC fr to_ tx a s.sent j s.w, s.sent + 1⟩ sv wv H ∧ Keeps F w3 wr

set_option maxHeartbeats 1000000 in
theorem send_go (w : World) (b : Nat) (F : Nat → Prop) (s : NS) (now fr to_ : Int) (tx : List UInt8) (h : NetP w b F s) (hd : s.drops to_ = false) (hn : s.script.length ≤ 1048576) (hs : s.sent ≤ 1099511627776)
    (hnow : -1000000000 ≤ now ∧ now ≤ 1000000000) (hdel : s.tr.delay ≤ 1000000000) (hlen : s.w.length ≤ 900000) :
    Calls Try.prog 14 #[.pointer (some ⟨b, 0, none⟩), .int .i64 now, msgVal fr to_ tx] w (NetPost b F (s.send now fr to_ tx) w) := by
  unfold msgVal
  have HP := Lib.hid h
  obtain ⟨K, hK⟩ : ∃ K, K = nCop s.tr.copies := ⟨_, rfl⟩
  obtain ⟨D, hD⟩ : ∃ D, D = max s.tr.delay 0 := ⟨_, rfl⟩
  have hS : s.send now fr to_ tx = ⟨s.nodes, s.script, addC fr to_ tx (now + D) s.sent K s.w, s.sent + 1⟩ := by unfold NS.send; rw [if_neg (by rw [hd]; simp), hK, hD]
  rw [hS]
  have hK8 : K ≤ 8 := by rw [hK]; exact (nCop_le _).2
  have hD0 : 0 ≤ D ∧ D ≤ 1000000000 := by rw [hD]; omega
  obtain ⟨lo, hlo⟩ : ∃ x, x = s.tr.lost := ⟨_, rfl⟩
  have hd2 : lo = false ∧ 0 ≤ to_ ∧ to_ < s.nodes := by
    unfold NS.drops at hd
    rw [← hlo] at hd
    cases lo with
    | true => simp at hd
    | false => simp at hd; exact ⟨rfl, by omega⟩
  have HKK := Lib.hid hK
  have HDD := Lib.hid hD
  have HD2 := Lib.hid hd2
  clear hK hD hdel hd2
  obtain ⟨sv, wv, H, hat⟩ := h
  obtain ⟨c0, _, _, c3⟩ := hat.cells
  have hbl := lt_of_heap hat.head
  have f3 := hat.free 3
  have HAT := Lib.hid hat
  have HLO := Lib.hid hlo
  clear hat hd hS hlo
  obtain ⟨cps, hcps⟩ : ∃ x, x = s.tr.copies := ⟨_, rfl⟩
  obtain ⟨dl, hdl⟩ : ∃ x, x = s.tr.delay := ⟨_, rfl⟩
  have HCP := Lib.hid hcps
  have HDL := Lib.hid hdl
  clear hcps hdl
  go_enter Try.func14, Try.ntmps14
  go_wp2_with fail
  obtain ⟨w0, hw0⟩ : ∃ w0 : World, w0 = w.alloc (.cells #[.int .i64 fr, .int .i64 to_, .string (str tx)] 31) := ⟨_, rfl⟩
  have k0 : Keeps noBlock w w0 := by rw [hw0]; exact (Keeps.refl _ _).alloc _
  have x0 : w0.cell? ⟨w.heap.size, 0, none⟩ = some (.int .i64 fr) := by rw [hw0, World.cell?_alloc_new]; rfl
  have x1 : w0.cell? ⟨w.heap.size, 1, none⟩ = some (.int .i64 to_) := by rw [hw0, World.cell?_alloc_new]; rfl
  have x2 : w0.cell? ⟨w.heap.size, 2, none⟩ = some (.string (str tx)) := by rw [hw0, World.cell?_alloc_new]; rfl
  have z0 : w0.heap.size = w.heap.size + 1 := by rw [hw0]; simp
  have HZ0 := Lib.hid z0
  rw [← hw0]
  clear hw0 z0
  have K0 := Lib.hid k0
  clear k0
  refine (trouble_any w0 b F s (HP.out.still K0.out) hn hs).mono ?_
  rintro e w1 ⟨rfl, k1⟩
  have c0 := k1.cell (K0.out.cell c0 (fun e => e)) (fun e => e)
  have c3 := k1.cell (K0.out.cell c3 (fun e => e)) (fun e => e)
  have x0 := k1.cell x0 (fun e => e)
  have x1 := k1.cell x1 (fun e => e)
  have x2 := k1.cell x2 (fun e => e)
  have f3 := k1.frozen (by have := K0.out.size; show b < _; omega) (fun e => e) (K0.out.frozen hbl (fun e => e) f3)
  have hbl1 : b < w1.heap.size := by have := K0.out.size; have := k1.size; omega
  have K1 := Lib.hid k1
  have hxl : w.heap.size < w1.heap.size := by have := HZ0.out; have := k1.size; omega
  have hbx : b < w.heap.size := hbl
  clear k1
  unfold trVal
  rw [← HLO.out, ← HCP.out, ← HDL.out]
  go_wp2_with fail
  obtain ⟨w3, hw3⟩ : ∃ w3 : World, w3 = (w1.setCell ⟨b, 3, none⟩ (.int .i64 ((s.sent : Int) + 1))).alloc (.cells #[.bool lo, .int .i64 cps, .int .i64 dl] 42) := ⟨_, rfl⟩
  have hat3 : NetAt w3 b F ⟨s.nodes, s.script, s.w, s.sent + 1⟩ sv wv H := by
    rw [hw3]
    have h2 := ((HAT.out.keep K0.out (fun _ _ e => e)).keep K1.out (fun _ _ e => e)).count (s.sent + 1) (by omega)
    exact h2.keep (S := noBlock) ((Keeps.refl _ _).alloc _) (fun _ _ e => e)
  have k3 : Keeps F w w3 := by
    rw [hw3]
    exact ((((K0.out.trans K1.out).any' F).setCell (p := ⟨b, 3, none⟩) (fun _ => HAT.out.fb) _).alloc _)
  have y0 : w3.cell? ⟨b, 0, none⟩ = some (.int .i64 s.nodes) := hat3.cells.1
  have hnx : w.heap.size ≠ b := by omega
  have x0 : w3.cell? ⟨w.heap.size, 0, none⟩ = some (.int .i64 fr) := by rw [hw3, World.cell?_alloc_old _ _ _ (by simp [World.setCell]; omega), World.cell?_setCell_other _ _ _ _ (by simp)]; exact x0
  have x1 : w3.cell? ⟨w.heap.size, 1, none⟩ = some (.int .i64 to_) := by rw [hw3, World.cell?_alloc_old _ _ _ (by simp [World.setCell]; omega), World.cell?_setCell_other _ _ _ _ (by simp)]; exact x1
  have x2 : w3.cell? ⟨w.heap.size, 2, none⟩ = some (.string (str tx)) := by rw [hw3, World.cell?_alloc_old _ _ _ (by simp [World.setCell]; omega), World.cell?_setCell_other _ _ _ _ (by simp)]; exact x2
  have zz : (w1.setCell ⟨b, 3, none⟩ (.int .i64 ((s.sent : Int) + 1))).heap.size = w1.heap.size := by simp [World.setCell]
  have t0 : w3.cell? ⟨w1.heap.size, 0, none⟩ = some (.bool lo) := by rw [hw3, ← zz, World.cell?_alloc_new]; rfl
  have t1 : w3.cell? ⟨w1.heap.size, 1, none⟩ = some (.int .i64 cps) := by rw [hw3, ← zz, World.cell?_alloc_new]; rfl
  have t2 : w3.cell? ⟨w1.heap.size, 2, none⟩ = some (.int .i64 dl) := by rw [hw3, ← zz, World.cell?_alloc_new]; rfl
  have z3 : w1.heap.size < w3.heap.size := by rw [hw3]; simp [World.setCell]
  have HAT3 := Lib.hid hat3
  have K3 := Lib.hid k3
  rw [← hw3]
  clear hw3 hat3 k3 zz c0 c3 f3
  obtain ⟨rfl, h1, h2⟩ := HD2.out
  clear HD2
  have hdd : decide (to_ < 0) = false := by simpa using h1
  have hdn : decide (s.nodes ≤ to_) = false := by simpa using h2
  obtain ⟨m1, hm1⟩ : ∃ m : Int, m = max cps 1 := ⟨_, rfl⟩
  have hM1 : (if cps < 1 then (1 : Int) else cps) = m1 := by rw [hm1]; split <;> omega
  have hM2 : (if (8 : Int) < m1 then (8 : Int) else m1) = (K : Int) := by
    have e1 := HKK.out; have e2 := HCP.out
    rw [← e2] at e1; unfold nCop at e1
    split <;> omega
  have hM3 : (if dl < 0 then (0 : Int) else dl) = D := by
    have e1 := HDD.out; have e2 := HDL.out
    rw [← e2] at e1
    split <;> omega
  clear hm1
  go_quiet (fail)
  go_wp2_with fail
  obtain ⟨A, hA⟩ : ∃ A, A = now + D := ⟨_, rfl⟩
  have hA1 : -1000000000 ≤ A ∧ A ≤ 2000000000 := by omega
  have hw1 : IntKind.i64.wrap (now + D) = A := by rw [hA]; exact IntWalk.i64_in _ (by omega)
  rw [← hA]
  clear hA hD0
  obtain ⟨w4, hw4⟩ : ∃ w4, w4 = w3.drewN nq := ⟨_, rfl⟩
  have k34 : Keeps noBlock w3 w4 := by rw [hw4]; exact (Keeps.refl _ _).drewN _
  have hat4 := HAT3.out.keep k34 (fun _ _ e => e)
  have x0 := k34.cell x0 (fun e => e)
  have x1 := k34.cell x1 (fun e => e)
  have x2 := k34.cell x2 (fun e => e)
  have t2 := k34.cell t2 (fun e => e)
  have z4 := k34.size
  have HAT4 := Lib.hid hat4
  have K34 := Lib.hid k34
  rw [← hw4]
  clear hw4 hat4 k34 t0 t1 y0
  have HFL := Lib.hid (show ∀ k, w.heap.size ≤ k → ¬ F k from fun k hk e => by have := HAT.out.lt k e; omega)
  have HOK := Lib.hid HAT.out.ok
  have HF4 := Lib.hid HAT4.out.lt
  go_loopw [44] (SendRel w4 b F s fr to_ tx A K sv) (fun i _ => K - (intOf i).toNat)
  case atStart =>
    exact ⟨0, wv, H, rfl, Nat.zero_le _, by
      have h := HAT4.out
      exact { h with fb := .inl h.fb, fscr := fun k e => .inl (h.fscr k e), fown := fun k e => .inl (h.fown k e), lt := grow_lt h.lt (Nat.le_refl _) }, Keeps.refl _ _⟩
  case round =>
    obtain ⟨j, wvj, Hj, rfl, hjK, hatj, hkj⟩ := hrel
    have HJ := Lib.hid hatj
    have HKJ := Lib.hid hkj
    by_cases hlt : j < K
    · have hlt' : (j : Int) < (K : Int) := by omega
      have x0 := hkj.cell x0 (HFL.out _ (Nat.le_refl _))
      have x1 := hkj.cell x1 (HFL.out _ (Nat.le_refl _))
      have x2 := hkj.cell x2 (HFL.out _ (Nat.le_refl _))
      have t2 := hkj.cell t2 (HFL.out _ (by show _ ≤ w1.heap.size; omega))
      have hw2 : IntKind.i64.wrap (A + (j : Int)) = A + (j : Int) := IntWalk.i64_in _ (by omega)
      have hln : Hj.length ≤ 1000000 := by rw [hatj.perm.length_eq]; simp only [length_addC]; omega
      have hpl := hatj.pl
      have hnb : w.heap.size ≠ b ∧ w1.heap.size ≠ b := ⟨by omega, by omega⟩
      have HNW := Lib.hid (show ∀ k, w.heap.size ≤ k → k < w4.heap.size → ¬ (k = b ∨ wvj.ownBlock = some k) from fun k hk hl e => by
        rcases e with e | e
        · omega
        · rcases hatj.fown k e with e | e
          · exact HFL.out k hk e
          · omega)
      have HX0 := Lib.hid (HNW.out w.heap.size (Nat.le_refl _) (by omega))
      have HX1 := Lib.hid (HNW.out w1.heap.size (by omega) (by omega))
      have HPL := Lib.hid (show ∀ W, Keeps noBlock wr W → PL W b 2 wvj Hj from fun W k => hpl.still k)
      have HHP := Lib.hid hatj.heap
      clear hatj hkj hpl hlt
      go_wp2_with fail
      go_region_held3 (fun w' => w'.cell? ⟨w.heap.size, 0, none⟩ = some (.int .i64 fr) ∧ w'.cell? ⟨w.heap.size, 1, none⟩ = some (.int .i64 to_) ∧ w'.cell? ⟨w.heap.size, 2, none⟩ = some (.string (str tx)) ∧ w'.cell? ⟨w1.heap.size, 2, none⟩ = some (.int .i64 dl))
        (first
          | go_keep
          | (go_split_ands; exact ⟨k5.cell (by assumption) HX0.out, k5.cell (by assumption) HX0.out, k5.cell (by assumption) HX0.out, k5.cell (by assumption) HX1.out⟩))
        (first
          | (go_at_call 23; refine (queue_any b _).mono ?_; rintro e w' ⟨rfl, rfl⟩)
          | (go_at_call 22; refine (hpush_any (HPL.out _ ((Keeps.refl noBlock wr).drew)) HHP.out (cop fr to_ tx A s.sent j) hln).mono ?_; rintro e w5 ⟨rfl, wv5, H5, hperm5, hheap5, hpl5, k5, hnew5, hset5⟩))
      all_goals
        have kd := (Keeps.refl noBlock wr).drew
        have hd := HJ.out.keep kd (fun _ _ e => e)
        have h5 := hd.push (cop fr to_ tx A s.sent j) wv5 H5 hperm5 hheap5 hpl5 k5 hnew5 hset5 ⟨addC_srt fr to_ tx A s.sent s.w HOK.out.srt HOK.out.sn (j + 1), fun p hp => by
          rcases List.mem_append.1 ((addC_perm fr to_ tx A s.sent (j + 1) s.w).mem_iff.1 hp) with hp | hp
          · have := HOK.out.sn p hp; show p.sn < s.sent + 1; omega
          · obtain ⟨i, _, rfl⟩ := List.mem_map.1 hp
            show s.sent < s.sent + 1; omega⟩
        have hk5 : Keeps F w4 w5 := (HKJ.out.trans (kd.any' F)).trans' (hd.pushF k5) fun k hk e => by
          rcases e with e | e
          · exact e
          · omega
        have hs5 := k5.size
        have hs4 := HKJ.out.size
        have hs6 : wr.heap.size ≤ w5.heap.size := hs5
        have h6 := h5.widen (G := grow F w4 w5) (fun k e => by
          rcases e with e | e
          · rcases e with e | e
            · exact .inl e
            · exact .inr ⟨e.1, by omega⟩
          · have e1 : wr.heap.size ≤ k := e.1
            exact .inr ⟨by omega, e.2⟩) (grow_lt HF4.out (by omega))
        have H6 := Lib.hid h6
        have HK5 := Lib.hid hk5
        clear kd hd h5 hk5 hs5 hs4 hs6 h6 hperm5 hheap5 hpl5 k5 hnew5 hset5
        go_wp2_with fail
        go_roundw
        case rel => exact ⟨j + 1, wv5, H5, by simp, by omega, H6.out, HK5.out⟩
        case measure => simp [intOf]; omega
    · have hjj : j = K := by omega
      have hlt' : ¬ (j : Int) < (K : Int) := by omega
      clear hlt hatj hkj
      go_wp2_with fail
      go_end0
      subst hjj
      have hk := (K3.out.trans (K34.out.any' F)).trans HKJ.out
      have hsz := hk.size
      refine ⟨rfl, NetP.widen ⟨sv, wvj, Hj, HJ.out⟩ ?_ (grow_lt HAT.out.lt hsz), hk⟩
      intro k e
      rcases e with e | e
      · exact .inl e
      · exact .inr ⟨by omega, e.2⟩

/-- Send, whatever becomes of the message -/
theorem send_any (w : World) (b : Nat) (F : Nat → Prop) (s : NS) (now fr to_ : Int) (tx : List UInt8) (h : NetP w b F s) (hn : s.script.length ≤ 1048576) (hs : s.sent ≤ 1099511627776)
    (hnow : -1000000000 ≤ now ∧ now ≤ 1000000000) (hdel : s.tr.delay ≤ 1000000000) (hlen : s.w.length ≤ 900000) :
    Calls Try.prog 14 #[.pointer (some ⟨b, 0, none⟩), .int .i64 now, msgVal fr to_ tx] w (NetPost b F (s.send now fr to_ tx) w) := by
  cases hd : s.drops to_ with
  | true => exact send_drop w b F s now fr to_ tx h hd hn hs
  | false => exact send_go w b F s now fr to_ tx h hd hn hs hnow hdel hlen
end Go.Proofs.Ythhimnihgkegiaa
