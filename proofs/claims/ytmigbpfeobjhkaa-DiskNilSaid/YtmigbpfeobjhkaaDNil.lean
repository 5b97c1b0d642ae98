/-
  DiskNil: the law's walk: it returns true, and writes nothing that was there. No condition.
-/
import Derived.Test.YtmigbpfeobjhkaaDPlays
import Derived.Test.YtmigbpfeobjhkaaDLaws2
namespace Go.Proofs.Ytmigbpfeobjhkaa
open Go Go.RowKit Go.ChangeShapes Go.WideShapes Go.ChangeAt
attribute [local go_sem ↓] Go.wp_at_zero Go.wp_at_succ
set_option linter.unusedVariables false

set_option maxHeartbeats 1000000 in
theorem nil_walk (n0 : Int) (s1 : ByteArray) (l2 : List Int) (v2 : Value) (w : World) (hn0 : (Lit.int .i64 n0).wf = true) (hs1 : s1.size ≤ maxLen) (hl2 : Ints w v2 l2) :
    Calls Try.prog 12 #[.int .i64 n0, .string s1, v2] w fun e w' => e = .returned (.bool true) ∧ Below w.heap.size w w' := by
  obtain ⟨t0, rfl⟩ : ∃ t, s1 = str t := ⟨_, (str_data s1).symm⟩
  have hsz := size_str t0
  rw [size_str] at hs1
  unfold maxLen at hs1
  obtain ⟨hn00, hn01⟩ := inI64_of hn0
  clear hn0 hl2
  go_enter Try.func12, Try.ntmps12
  go_wp2_with fail
  refine (sanity_any w).mono ?_
  rintro e w1 ⟨rfl, k1⟩
  have K1 := Lib.hid k1; have z1 := k1.size; clear k1
  go_wp2_with fail
  refine (fail_nil n0 w1).mono ?_
  rintro e w' ⟨rfl, rfl⟩
  go_wp2_with fail
  refine (crash_nil w1 v2).mono ?_
  rintro e w2 ⟨rfl, d2, k2⟩
  have C2 := Lib.hid (DiskIn.of_grow d2); have K2 := Lib.hid k2; have z2 := k2.size; clear k2 d2
  go_wp2_with fail
  obtain ⟨w3, hw3⟩ : ∃ w3, w3 = w2.alloc (.cells #[.slice none 0 0, .slice none 0 0, .slice none 0 0, .int .i64 0, .int .i64 0, .int .i64 0] 60) := ⟨_, rfl⟩
  obtain ⟨d3, k3⟩ := disk_zero_at w2 w3 hw3
  rw [← hw3]
  have D3 := Lib.hid d3; have K3 := Lib.hid k3; clear d3 k3 hw3
  refine (rnew_any w3).mono ?_
  rintro e w4 ⟨rfl, r4, k4⟩
  have R4 := Lib.hid r4; have K4 := Lib.hid k4; clear r4 k4
  obtain ⟨w5, hw5⟩ : ∃ w5, w5 = w4.alloc (.cells #[.pointer (some ⟨w2.heap.size, 0, none⟩), .pointer (some ⟨w3.heap.size, 0, none⟩)] 30) := ⟨_, rfl⟩
  have hd5 := desk_made w2 w3 w4 w5 w2.heap.size w3.heap.size DS.zero D3.out (K3.out.any _) R4.out K4.out hw5
  have D5 := Lib.hid hd5.1
  have K5 := Lib.hid hd5.2
  have z5 := hd5.2.size
  have HW5 := Lib.hid hw5
  clear hd5 hw5
  go_wp2_with fail
  rw [← HW5.out]
  have HS := Lib.hid (show DS.Fine DS.zero 0 from DS.Fine.zero)
  refine (do_in w5 w4.heap.size w2.heap.size _ DS.zero 0 0 n0 0 t0 D5.out HS.out (by decide) z5 hn01 (by decide) (by decide) hs1).mono ?_
  rintro e w6 ⟨rfl, d6, k6⟩
  have D6 := Lib.hid d6; have K6 := Lib.hid k6; have z6 := k6.size; clear d6 k6
  have HS1 := Lib.hid (HS.out.act 0 n0 0 t0)
  go_wp2_with fail
  refine (do_in w6 w4.heap.size w2.heap.size _ _ _ 7 0 n0 [] D6.out HS1.out (by decide) (Nat.le_trans z5 z6) (by decide) hn00 hn01 (by decide)).mono ?_
  rintro e w7 ⟨rfl, d7, k7⟩
  have D7 := Lib.hid d7; have K7 := Lib.hid k7; have z7 := k7.size; clear d7 k7
  have HS2 := Lib.hid (HS1.out.act 7 0 n0 [])
  go_wp2_with fail
  refine (same_in w7 w4.heap.size w2.heap.size _ _ _ D7.out HS2.out).mono ?_
  rintro e w8 ⟨rfl, k8⟩
  have C8 := Lib.hid ((((C2.out.keep K5.out (Nat.le_refl _)).keep K6.out (Nat.le_refl _)).keep K7.out (Nat.le_refl _)).still k8)
  have K8 := Lib.hid k8; have z8 := k8.size; clear k8
  go_wp2_with fail
  refine (size_nil w8).mono ?_
  rintro e w' ⟨rfl, rfl⟩
  go_wp2_with fail
  refine (calls_nil w8).mono ?_
  rintro e w' ⟨rfl, rfl⟩
  have hts : (str []).toList = [] := toList_str []
  go_wp2_with fail
  refine (read_nil n0 5 w8).mono ?_
  rintro e w' ⟨rfl, rfl⟩
  go_wp2_with fail
  refine (write_nil w8 n0 (str t0)).mono ?_
  rintro e w' ⟨rfl, rfl⟩
  go_wp2_with fail
  refine (sync_nil w8).mono ?_
  rintro e w' ⟨rfl, rfl⟩
  go_wp2_with fail
  refine (size_in w8 _ _ _ _ C8.out).mono ?_
  rintro e w' ⟨rfl, rfl⟩
  have hz0 : (DS.zero.now.length : Int) = 0 := rfl
  rw [hz0]
  go_wp2_with fail
  have zz : w1.heap.size ≤ w8.heap.size := by omega
  refine (write_far w8 _ w1.heap.size _ DS.zero 0 0 [97] C8.out HS.out (by decide) (by decide) (by decide) zz).mono ?_
  rintro e w9 ⟨rfl, d9, k9⟩
  have hr0 : DS.zero.writeR 0 [97] = 0 := by decide
  rw [hr0]
  have K9 := Lib.hid k9; clear k9 d9
  go_wp2_with fail
  go_ret
  have kk := (((((((K1.out.any (from_ w.heap.size)).trans (K2.out.any _)).trans (K5.out.lower (by omega))).trans (K6.out.lower (by omega))).trans (K7.out.lower (by omega))).trans (K8.out.any _)).trans (K9.out.up z1))
  exact ⟨rfl, (kk).below (Nat.le_refl _) (fun k hk e => by have : w.heap.size ≤ k := e; omega)⟩
#print axioms nil_walk
end Go.Proofs.Ytmigbpfeobjhkaa
