/-
  The act of a desk, whatever it is; and 'same', which is true of a desk. No condition but bounds.
-/
import Derived.Test.YtmigbpfeobjhkaaDDeskW
namespace Go.Proofs.Ytmigbpfeobjhkaa
open Go Go.RowKit
attribute [local go_sem ↓] Go.wp_at_zero Go.wp_at_succ

theorem do_any (w : World) (x : Nat) (F : Nat → Prop) (s : DS) (c : Nat) (k o n : Int) (t : List UInt8) (h : DeskP w x F s) (hf : s.Fine c) (hc : c ≤ 1099511627776)
    (ho1 : o ≤ 9223372036854775807) (hn0 : -9223372036854775808 ≤ n) (hn1 : n ≤ 9223372036854775807) (ht : t.length ≤ 9223372036854775807) :
    Calls Try.prog 16 #[.pointer (some ⟨x, 0, none⟩), act k o n t] w (DoPost x F (s.act k o n t) w) := by
  by_cases h4 : k % 8 = 4
  · rw [DS.act, if_pos h4]
    exact do_sync w x F s c k o n t h hf hc h4
  · by_cases h5 : k % 8 = 5
    · rw [DS.act, if_neg h4, if_pos h5]
      exact do_read w x F s c k o n t h hf hc h5 hn1
    · by_cases h6 : k % 8 = 6
      · rw [DS.act, if_neg h4, if_neg h5, if_pos h6]
        exact do_fail w x F s c k o n t h hf hc h6
      · by_cases h7 : k % 8 = 7
        · rw [DS.act, if_neg h4, if_neg h5, if_neg h6, if_pos h7]
          exact do_crash w x F s c k o n t h hf hc h7 hn0 hn1
        · rw [DS.act, if_neg h4, if_neg h5, if_neg h6, if_neg h7]
          exact do_write w x F s c k o n t h hf hc (by omega) ho1 ht

set_option maxHeartbeats 1000000 in
theorem same_any (w : World) (x : Nat) (F : Nat → Prop) (s : DS) (c : Nat) (h : DeskP w x F s) (hf : s.Fine c) :
    Calls Try.prog 21 #[.pointer (some ⟨x, 0, none⟩)] w fun e w' => e = .returned (.bool true) ∧ ∃ n, w' = w.drewN n := by
  obtain ⟨b, m, Fd, Fm, h⟩ := h
  obtain ⟨d0, d1⟩ := h.cells
  have hnow : s.now.length ≤ 16777216 := hf.now
  have hd : ∀ n, DiskP (w.drewN n) b Fd s := fun n => h.disk.keep ((Keeps.refl noBlock w).drewN n) (fun _ _ e => e)
  have hr : ∀ n, RefP (w.drewN n) m Fm s := fun n => h.ref.keep ((Keeps.refl noBlock w).drewN n) (fun _ _ e => e)
  have HD := Lib.hid hd
  have HR := Lib.hid hr
  clear h hf hd hr
  go_enter Try.func21, Try.ntmps21
  go_wp2_with fail
  go_quiet ((first
    | (go_at_call 17; exact Calls.quiet_of_same ((size_any _ b Fd s (HD.out _)).mono fun _ _ h => ⟨h.1, h.2.symm⟩))
    | (go_at_call 18; exact Calls.quiet_of_same ((rsize_any _ m Fm s (HR.out _)).mono fun _ _ h => ⟨h.1, h.2.symm⟩))
    | (go_at_call 19; exact Calls.quiet_of_same ((calls_any _ b Fd s (HD.out _)).mono fun _ _ h => ⟨h.1, h.2.symm⟩))
    | (go_at_call 20; exact Calls.quiet_of_same ((rcalls_any _ m Fm s (HR.out _)).mono fun _ _ h => ⟨h.1, h.2.symm⟩))
    | (go_at_call 29; exact Calls.quiet_of (read_any _ b Fd s 0 33554432 (HD.out _) hnow (by omega)))
    | (go_at_call 31; exact Calls.quiet_of (rread_any _ m Fm s 0 33554432 (HR.out _) hnow (by omega)))))
  go_wp2_with fail
  go_ret
  exact ⟨rfl, _, rfl⟩
#print axioms do_any
#print axioms same_any
end Go.Proofs.Ytmigbpfeobjhkaa
