/-
  DiskPlays: for every slice of acts the law returns true, and nothing that was there is written. No condition.
-/
import Derived.Test.YtmigbpfeobjhkaaDArgs
namespace Go.Proofs.Ytmigbpfeobjhkaa
open Go Go.RowKit Go.ChangeShapes Go.WideShapes Go.ChangeAt
attribute [local go_sem ↓] Go.wp_at_zero Go.wp_at_succ

def acts (s : DS) (l : List ActD) : DS := l.foldl (fun s a => s.act a.1 a.2.1 a.2.2.1 a.2.2.2) s
theorem acts_snoc (s : DS) (l : List ActD) (a : ActD) : acts s (l ++ [a]) = (acts s l).act a.1 a.2.1 a.2.2.1 a.2.2.2 := by simp [acts]
theorem fine_acts (l : List ActD) : ∀ (k : Nat), (acts DS.zero (l.take k)).Fine (201 * k) := by
  intro k
  induction k with
  | zero => simpa [acts] using DS.Fine.zero
  | succ k ih =>
    by_cases hk : k < l.length
    · rw [List.take_succ_eq_append_getElem hk, acts_snoc]
      exact (ih.act _ _ _ _).mono (by omega)
    · rw [List.take_of_length_le (by omega)]
      rw [List.take_of_length_le (by omega)] at ih
      exact ih.mono (by omega)

theorem desk_made (w : World) (w1 w2 w3 : World) (b m : Nat) (s : DS) (h1 : DiskIn w1 b w.heap.size w1.heap.size s) (k1 : Keeps (from_ w.heap.size) w w1)
    (h2 : RefP w2 m (grow noBlock w1 w2) s) (k2 : Keeps noBlock w1 w2) (h3 : w3 = w2.alloc (.cells #[.pointer (some ⟨b, 0, none⟩), .pointer (some ⟨m, 0, none⟩)] 30)) :
    DeskIn w3 w2.heap.size w.heap.size w3.heap.size s ∧ Keeps (from_ w.heap.size) w w3 := by
  have s1 := k1.size
  have s2 := k2.size
  have k3 : Keeps noBlock w2 w3 := by rw [h3]; exact (Keeps.refl _ _).alloc _
  have s3 : w3.heap.size = w2.heap.size + 1 := by rw [h3]; simp
  obtain ⟨F, hF, hd⟩ := h1
  refine ⟨⟨fun k => w.heap.size ≤ k ∧ k < w3.heap.size, fun k e => e, b, m, F, grow noBlock w1 w2, ?_⟩, (k1.trans (k2.any _)).trans (k3.any _)⟩
  exact {
    head := by rw [h3]; exact heap_alloc_at
    disk := (hd.keep k2 (fun _ _ e => e)).keep k3 (fun _ _ e => e)
    ref := h2.keep k3 (fun _ _ e => e)
    dis := fun k e e2 => by
      rcases e2 with e2 | e2
      · exact e2
      · have := (hF k e).2; omega
    xd := fun e => by have := (hF _ e).2; omega
    xm := fun e => by
      rcases e with e | e
      · exact e
      · omega
    fx := ⟨by omega, by omega⟩
    fd := fun k e => ⟨(hF k e).1, by have := (hF k e).2; omega⟩
    fm := fun k e => by
      rcases e with e | e
      · exact e.elim
      · exact ⟨by omega, by omega⟩
    lt := fun k e => e.2 }

def DoIn (x L : Nat) (s : DS) (w : World) (e : Ending) (w' : World) : Prop :=
  e = .returned (.bool true) ∧ DeskIn w' x L w'.heap.size s ∧ Keeps (from_ L) w w'
theorem do_in (w : World) (x L U : Nat) (s : DS) (c : Nat) (k o n : Int) (t : List UInt8) (h : DeskIn w x L U s) (hf : s.Fine c) (hc : c ≤ 1099511627776) (hl : L ≤ w.heap.size)
    (ho1 : o ≤ 9223372036854775807) (hn0 : -9223372036854775808 ≤ n) (hn1 : n ≤ 9223372036854775807) (ht : t.length ≤ 9223372036854775807) :
    Calls Try.prog 16 #[.pointer (some ⟨x, 0, none⟩), act k o n t] w (DoIn x L (s.act k o n t) w) := by
  obtain ⟨F, hF, h⟩ := h
  refine (do_any w x F s c k o n t h hf hc ho1 hn0 hn1 ht).mono fun e w' ⟨he, hd, hk⟩ => ⟨he, ⟨_, fun k e => ⟨?_, hd.lt k e⟩, hd⟩, hk.mono fun k _ e => (hF k e).1⟩
  rcases e with e | e
  · exact (hF k e).1
  · omega
theorem same_in (w : World) (x L U : Nat) (s : DS) (c : Nat) (h : DeskIn w x L U s) (hf : s.Fine c) :
    Calls Try.prog 21 #[.pointer (some ⟨x, 0, none⟩)] w fun e w' => e = .returned (.bool true) ∧ Keeps noBlock w w' := by
  obtain ⟨F, hF, h⟩ := h
  exact (same_any w x F s c h hf).mono fun e w' ⟨h1, n, h2⟩ => ⟨h1, by rw [h2]; exact (Keeps.refl _ _).drewN n⟩
/-- what the walk reads of a desk -/
theorem DeskIn.open {w : World} {x L U : Nat} {s : DS} (h : DeskIn w x L U s) :
    ∃ b m Fd Fm, w.cell? ⟨x, 0, none⟩ = some (.pointer (some ⟨b, 0, none⟩)) ∧ w.cell? ⟨x, 1, none⟩ = some (.pointer (some ⟨m, 0, none⟩)) ∧ DiskP w b Fd s ∧ RefP w m Fm s := by
  obtain ⟨F, hF, b, m, Fd, Fm, h⟩ := h
  exact ⟨b, m, Fd, Fm, h.cells.1, h.cells.2, h.disk, h.ref⟩

/-- the loop of acts -/
def PlayRel (w : World) (x : Nat) (l : List ActD) (i : Value) (wr : World) : Prop :=
  ∃ k : Nat, i = .int .i64 k ∧ k ≤ l.length ∧ k ≤ 40 ∧ DeskIn wr x w.heap.size wr.heap.size (acts DS.zero (l.take k)) ∧ Keeps (from_ w.heap.size) w wr

set_option maxHeartbeats 1000000 in
theorem plays_walk (l : List ActD) (v : Value) (w : World) (hl : Acts w v l) :
    Calls Try.prog 3 #[v] w fun e w' => e = .returned (.bool true) ∧ Below w.heap.size w w' := by
  obtain ⟨o, cap, rfl, hlc, hcm, hcells, hfit⟩ := hl
  have HC := Lib.hid hcells
  have HFT := Lib.hid hfit
  clear hcells hfit
  go_enter Try.func3, Try.ntmps3
  go_wp2_with fail
  refine (sanity_any w).mono ?_
  rintro e w1 ⟨rfl, k1⟩
  have K1 := Lib.hid k1; have z1 := k1.size; clear k1
  go_wp2_with fail
  refine (new_in w1).mono ?_
  rintro e w2 ⟨rfl, d2, k2⟩
  have K2 := Lib.hid k2; have D2 := Lib.hid d2; have z2 := k2.size; clear k2 d2
  go_wp2_with fail
  refine (rnew_any w2).mono ?_
  rintro e w3 ⟨rfl, r3, k3⟩
  have K3 := Lib.hid k3; have R3 := Lib.hid r3; have z3 := k3.size; clear k3 r3
  obtain ⟨w4, hw4⟩ : ∃ w4, w4 = w3.alloc (.cells #[.pointer (some ⟨w1.heap.size, 0, none⟩), .pointer (some ⟨w2.heap.size, 0, none⟩)] 30) := ⟨_, rfl⟩
  have hd4 := desk_made w1 w2 w3 w4 w1.heap.size w2.heap.size DS.zero D2.out K2.out R3.out K3.out hw4
  have D4 := Lib.hid hd4.1
  have K4 := Lib.hid hd4.2
  have HW4 := Lib.hid hw4
  clear hd4 hw4
  go_wp2_with fail
  rw [← HW4.out]
  have k14 : Keeps (from_ w.heap.size) w w4 := (K1.out.any _).trans (K4.out.lower z1)
  have d4 : DeskIn w4 w3.heap.size w.heap.size w4.heap.size DS.zero := by
    obtain ⟨F, hF, h⟩ := D4.out
    exact ⟨F, fun k e => ⟨Nat.le_trans z1 (hF k e).1, (hF k e).2⟩, h⟩
  have K14 := Lib.hid k14
  have DD := Lib.hid d4
  clear k14 d4
  go_loopw [5] (PlayRel w w3.heap.size l) (fun i _ => l.length - (intOf i).toNat)
  case atStart => exact ⟨0, rfl, Nat.zero_le _, by omega, by have := DD.out; simpa [acts] using this, K14.out⟩
  case round =>
    obtain ⟨k, rfl, hkl, hk40, hd, hkr⟩ := hrel
    have HD := Lib.hid hd
    have HKR := Lib.hid hkr
    have zr := hkr.size
    clear hd hkr
    by_cases hlt : k < l.length ∧ k < 40
    · obtain ⟨hlt, hlt40⟩ := hlt
      obtain ⟨b, off, hb, hcell⟩ := HC.out (by omega)
      subst hb
      have hbw : b < w.heap.size := World.block_lt_of_cell? w _ (hcell k hlt).1
      obtain ⟨c0, c1, c2, c3⟩ := hcell k hlt
      have hnb : ¬ from_ w.heap.size b := fun e => by have : w.heap.size ≤ b := e; omega
      have c0 := HKR.out.cell c0 hnb
      have c1 := HKR.out.cell c1 hnb
      have c2 := HKR.out.cell c2 hnb
      have c3 := HKR.out.cell c3 hnb
      have hf := HFT.out l[k] (List.getElem_mem hlt)
      have hsn : acts DS.zero (l.take (k + 1)) = (acts DS.zero (l.take k)).act l[k].1 l[k].2.1 l[k].2.2.1 l[k].2.2.2 := by rw [List.take_succ_eq_append_getElem hlt, acts_snoc]
      obtain ⟨ad, had⟩ : ∃ ad, l[k] = ad := ⟨_, rfl⟩
      rw [had] at c0 c1 c2 c3 hf hsn
      obtain ⟨ak, ao, an, at_⟩ := ad
      obtain ⟨_, ⟨_, ho1⟩, ⟨hn0, hn1⟩, ht⟩ := hf
      simp only at c0 c1 c2 c3 ho1 hn0 hn1 ht hsn
      have HS := Lib.hid hsn
      have hi1 : (k : Int) < (l.length : Int) := by omega
      have hi2 : (k : Int) < 40 := by omega
      clear had hnb hcell hsn
      go_wp2_with fail
      refine (do_in wr w3.heap.size w.heap.size _ _ _ ak ao an at_ HD.out (fine_acts l k) (by omega) zr ho1 hn0 hn1 ht).mono ?_
      rintro e w5 ⟨rfl, d5, k5⟩
      rw [← HS.out] at d5
      obtain ⟨bd, bm, Fd, Fm, e0, e1, hdd, hrr⟩ := DeskIn.open d5
      have D5 := Lib.hid d5
      have K5 := Lib.hid k5
      have HDD := Lib.hid (show ∀ n, DiskP (w5.drewN n) bd Fd (acts DS.zero (l.take (k + 1))) from fun n => hdd.keep ((Keeps.refl noBlock w5).drewN n) (fun _ _ e => e))
      have HRR := Lib.hid (show ∀ n, RefP (w5.drewN n) bm Fm (acts DS.zero (l.take (k + 1))) from fun n => hrr.keep ((Keeps.refl noBlock w5).drewN n) (fun _ _ e => e))
      clear d5 k5 hdd hrr c0 c1 c2 c3
      go_wp2_with fail
      go_quiet ((first
        | (go_at_call 17; exact Calls.quiet_of_same ((size_any _ bd Fd _ (HDD.out _)).mono fun _ _ h => ⟨h.1, h.2.symm⟩))
        | (go_at_call 18; exact Calls.quiet_of_same ((rsize_any _ bm Fm _ (HRR.out _)).mono fun _ _ h => ⟨h.1, h.2.symm⟩))
        | (go_at_call 19; exact Calls.quiet_of_same ((calls_any _ bd Fd _ (HDD.out _)).mono fun _ _ h => ⟨h.1, h.2.symm⟩))
        | (go_at_call 20; exact Calls.quiet_of_same ((rcalls_any _ bm Fm _ (HRR.out _)).mono fun _ _ h => ⟨h.1, h.2.symm⟩))))
      go_wp2_with fail
      go_roundw
      case rel =>
        have hq := (Keeps.refl noBlock w5).drewN nq
        exact ⟨k + 1, by simp, by omega, by omega, D5.out.still hq, (HKR.out.trans K5.out).trans (hq.any _)⟩
      case measure => simp [intOf]; omega
    · have hend : ¬ (k : Int) < l.length ∨ ¬ (k : Int) < 40 := by omega
      clear hlt
      by_cases hkl2 : (k : Int) < l.length
      · have hk2 : ¬ (k : Int) < 40 := hend.resolve_left (fun h => h hkl2)
        clear hend
        go_wp2_with fail
        refine (same_in wr w3.heap.size w.heap.size _ _ _ HD.out (fine_acts l k)).mono ?_
        rintro e w5 ⟨rfl, k5⟩
        go_wp2_with fail
        go_ret
        exact ⟨rfl, (HKR.out.trans (k5.any _)).below (Nat.le_refl _) (fun k hk e => by have : w.heap.size ≤ k := e; omega)⟩
      · clear hend
        go_wp2_with fail
        refine (same_in wr w3.heap.size w.heap.size _ _ _ HD.out (fine_acts l k)).mono ?_
        rintro e w5 ⟨rfl, k5⟩
        go_wp2_with fail
        go_ret
        exact ⟨rfl, (HKR.out.trans (k5.any _)).below (Nat.le_refl _) (fun k hk e => by have : w.heap.size ≤ k := e; omega)⟩
#print axioms plays_walk
end Go.Proofs.Ytmigbpfeobjhkaa
