/-
  DiskReads: the law's walk: it returns true, and writes nothing that was there. No condition.
-/
import Derived.Test.YtmigbpfeobjhkaaDPlays
import Derived.Test.YtmigbpfeobjhkaaDLawsPlain
namespace Go.Proofs.Ytmigbpfeobjhkaa
open Go Go.RowKit Go.ChangeShapes Go.WideShapes Go.ChangeAt
attribute [local go_sem ↓] Go.wp_at_zero Go.wp_at_succ
set_option linter.unusedVariables false

set_option maxHeartbeats 1000000 in
theorem reads_walk (s0 : ByteArray) (n1 : Int) (q0 q1 : Int) (w : World) (hs0 : s0.size ≤ maxLen) (hn1 : (Lit.int .i64 n1).wf = true) (hq0 : inI64 q0) (hq1 : inI64 q1) :
    Calls Try.prog 10 #[.string s0, .int .i64 n1, .agg #[.int .i64 q0, .int .i64 q1]] w fun e w' => e = .returned (.bool true) ∧ Below w.heap.size w w' := by
  obtain ⟨t0, rfl⟩ : ∃ t, s0 = str t := ⟨_, (str_data s0).symm⟩
  rw [size_str] at hs0
  unfold maxLen at hs0
  obtain ⟨hq00, hq01⟩ := hq0
  obtain ⟨hq10, hq11⟩ := hq1
  go_enter Try.func10, Try.ntmps10
  go_wp2_with fail
  obtain ⟨w0, hw0⟩ : ∃ w0, w0 = w.alloc (.cells #[.int .i64 q0, .int .i64 q1] 42) := ⟨_, rfl⟩
  obtain ⟨hp, k0, z0⟩ := box_two w w0 q0 q1 _ hw0
  rw [← hw0]
  have HP := Lib.hid hp
  have K0 := Lib.hid k0
  clear hp k0 hw0
  refine (sanity_any w0).mono ?_
  rintro e w1 ⟨rfl, k1⟩
  have K1 := Lib.hid k1; have z1 := k1.size; clear k1
  go_wp2_with fail
  refine (new_in w1).mono ?_
  rintro e w2 ⟨rfl, d2, k2⟩
  have K2 := Lib.hid k2; have D2 := Lib.hid d2; have z2 := k2.size; clear k2 d2
  go_wp2_with fail
  refine (rnew_any w2).mono ?_
  rintro e w3 ⟨rfl, r3, k3⟩
  have K3 := Lib.hid k3; have R3 := Lib.hid r3; have z3 := k3.size; clear k3 r3
  obtain ⟨w4, hw4⟩ : ∃ w4, w4 = w3.alloc (.cells #[.pointer (some ⟨w1.heap.size, 0, none⟩), .pointer (some ⟨w2.heap.size, 0, none⟩)] 30) := ⟨_, rfl⟩
  obtain ⟨x, hx⟩ : ∃ x, x = w3.heap.size := ⟨_, rfl⟩
  have hd4 := desk_made w1 w2 w3 w4 w1.heap.size w2.heap.size DS.zero D2.out K2.out R3.out K3.out hw4
  have k14 : Keeps (from_ w0.heap.size) w0 w4 := (K1.out.any _).trans (hd4.2.lower z1)
  have d4 : DeskIn w4 x w0.heap.size w4.heap.size DS.zero := by
    rw [hx]
    obtain ⟨F, hF, h⟩ := hd4.1
    exact ⟨F, fun k e => ⟨Nat.le_trans z1 (hF k e).1, (hF k e).2⟩, h⟩
  have z4 := k14.size
  have K4 := Lib.hid k14
  have D4 := Lib.hid d4
  have HW4 := Lib.hid hw4
  have HX := Lib.hid hx
  clear hd4 hw4 k14 d4 hx
  go_wp2_with fail
  rw [← HW4.out, ← HX.out]
  clear K2 D2 z2 K3 R3 z3
  refine (mod_any n1 8 w4 (by decide) (by decide)).mono ?_
  rintro e w' ⟨rfl, rfl⟩
  have hw1 : IntKind.i64.wrap (1 + n1 % 8) = 1 + n1 % 8 := IntWalk.i64_in _ (by omega)
  have HS := Lib.hid (show DS.Fine DS.zero 0 from DS.Fine.zero)
  go_wp2_with fail
  refine (do_in w4 x w0.heap.size _ DS.zero 0 0 (1 + n1 % 8) 0 t0 D4.out HS.out (by decide) z4 (by omega) (by decide) (by decide) hs0).mono ?_
  rintro e w5 ⟨rfl, d5, k5⟩
  obtain ⟨s, hs⟩ : ∃ s, s = DS.act DS.zero 0 (1 + n1 % 8) 0 t0 := ⟨_, rfl⟩
  rw [← hs] at d5
  have hnow : s.now.length ≤ 16777216 := by rw [hs]; exact (HS.out.act _ _ _ _).now
  have D5 := Lib.hid d5
  have K5 := Lib.hid k5
  obtain ⟨p0, p1⟩ := HP.out w5 (K4.out.trans k5)
  clear d5 k5 hs
  go_wp2_with fail
  refine (mod_any q0 230 w5 (by decide) (by decide)).mono ?_
  rintro e w' ⟨rfl, rfl⟩
  obtain ⟨bd, bm, Fd, Fm, e0, e1, hdd, hrr⟩ := DeskIn.open D5.out
  have HDD := Lib.hid hdd
  have HRR := Lib.hid hrr
  clear hdd hrr
  have hdd : ∀ n, DiskP (w5.drewN n) bd Fd s := fun n => HDD.out.keep ((Keeps.refl noBlock w5).drewN n) (fun _ _ e => e)
  have hrr : ∀ n, RefP (w5.drewN n) bm Fm s := fun n => HRR.out.keep ((Keeps.refl noBlock w5).drewN n) (fun _ _ e => e)
  have HDN := Lib.hid hdd
  have HRN := Lib.hid hrr
  clear hdd hrr HDD HRR
  go_wp2_with fail
  go_quiet ((first
    | (go_at_call 29; exact Calls.quiet_of (read_any _ bd Fd s _ _ (HDN.out _) hnow (by omega)))
    | (go_at_call 31; exact Calls.quiet_of (rread_any _ bm Fm s _ _ (HRN.out _) hnow (by omega)))
    | (go_at_call 22; exact Calls.quiet_of_same ((mod_any _ _ _ (by decide) (by decide)).mono fun _ _ h => ⟨h.1, h.2.symm⟩))))
  go_wp2_with fail
  go_ret
  have kk := (K4.out.trans K5.out).trans (((Keeps.refl noBlock w5).drewN nq).any _)
  exact ⟨rfl, (((K0.out.any (from_ w.heap.size)).trans (kk.lower (Nat.le_of_lt z0)))).below (Nat.le_refl _) (fun k hk e => by have : w.heap.size ≤ k := e; omega)⟩
#print axioms reads_walk
end Go.Proofs.Ytmigbpfeobjhkaa
