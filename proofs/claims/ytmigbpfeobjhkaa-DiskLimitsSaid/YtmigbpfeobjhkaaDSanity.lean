/-
  The examples of the chapter: 'sanity' returns true, and writes nothing that was there. No condition.
-/
import Derived.Test.YtmigbpfeobjhkaaDIn
namespace Go.Proofs.Ytmigbpfeobjhkaa
open Go Go.RowKit

def s1 : DS := DS.zero.write 2 [97, 98]
def s2 : DS := s1.sync
def s3 : DS := s2.write 3 [120, 121, 122]
def s4 : DS := s3.crash []
def t1 : DS := DS.zero.write 60 (List.replicate 70 120)
def t2 : DS := t1.crash [0, 1]
def g1 : DS := DS.zero.fail 1
def g2 : DS := g1.sync
def g3 : DS := g2.write 0 [97]
def g4 : DS := g3.write (-1) [97]
theorem fine_s1 : s1.Fine 1000 := (DS.Fine.zero.write 2 [97, 98]).mono (by decide)
theorem fine_s2 : s2.Fine 2000 := fine_s1.sync.mono (by decide)
theorem fine_s3 : s3.Fine 3000 := (fine_s2.write 3 [120, 121, 122]).mono (by decide)
theorem fine_s4 : s4.Fine 3000 := fine_s3.crash []
theorem fine_t1 : t1.Fine 1000 := (DS.Fine.zero.write 60 (List.replicate 70 120)).mono (by decide)
theorem fine_t2 : t2.Fine 1000 := fine_t1.crash [0, 1]
theorem fine_g1 : g1.Fine 1000 := (DS.Fine.zero.fail 1 (by decide)).mono (by decide)
theorem fine_g2 : g2.Fine 2000 := fine_g1.sync.mono (by decide)
theorem fine_g3 : g3.Fine 3000 := (fine_g2.write 0 [97]).mono (by decide)
theorem r1 : DS.zero.writeR 2 [97, 98] = 0 := by decide
theorem l1 : s1.now.length = 4 := by decide
theorem q1 : readL s1.now 0 9 = [0, 0, 97, 98] := by decide
theorem r2 : s1.syncR = 0 := by decide
theorem r3 : s2.writeR 3 [120, 121, 122] = 0 := by decide
theorem r4 : DS.zero.writeR 60 (List.replicate 70 120) = 0 := by decide
theorem r5 : g1.syncR = 0 := by decide
theorem r6 : g2.writeR 0 [97] = 70 := by decide
theorem r7 : g3.writeR (-1) [97] = 1 := by decide
theorem r8 : (g4.calls : Int) = 1 := by decide
theorem q4 : readL s4.now 0 9 = [0, 0, 97, 98] := by decide
set_option maxRecDepth 100000 in
theorem l2 : t2.now.length = 128 := by decide
set_option maxRecDepth 100000 in
theorem q5 : readL t2.now 60 9 = [0, 0, 0, 0, 120, 120, 120, 120, 120] := by decide

def SanePost (w : World) (e : Ending) (w' : World) : Prop := e = .returned (.bool true) ∧ Keeps noBlock w w'
theorem mid {a b c : Nat} (h : a ≤ b) (k : b ≤ c) : a ≤ c := Nat.le_trans h k

set_option maxHeartbeats 1000000 in
set_option maxRecDepth 100000 in
theorem sanity_any (w : World) : Calls Try.prog 13 #[] w (SanePost w) := by
  have hts := toList_str
  go_enter Try.func13, Try.ntmps13
  go_wp2_with fail
  refine (new_in w).mono ?_
  rintro e w1 ⟨rfl, d1, k1⟩
  have z1 := k1.size
  have D1 := Lib.hid d1; have K1 := Lib.hid k1; clear d1 k1
  go_wp2_with fail
  refine (write_in w1 w.heap.size w.heap.size _ DS.zero 0 2 [97, 98] D1.out DS.Fine.zero (by decide) (by decide) (by decide) z1).mono ?_
  rintro e w2 ⟨rfl, d2, k2⟩
  have z2 := k2.size
  have D2 := Lib.hid d2; have K2 := Lib.hid k2; clear d2 k2
  rw [r1]
  go_wp2_with fail
  refine (size_in w2 w.heap.size w.heap.size _ s1 D2.out).mono ?_
  rintro e w' ⟨rfl, rfl⟩
  rw [l1]
  go_wp2_with fail
  refine (read_in w2 w.heap.size w.heap.size _ s1 0 9 D2.out fine_s1.now (by decide)).mono ?_
  rintro e w3 ⟨rfl, k3⟩
  have z3 := k3.size
  have D3 := Lib.hid (D2.out.still k3); have K3 := Lib.hid k3; clear k3
  rw [q1]
  go_wp2_with fail
  refine (sync_in w3 w.heap.size w.heap.size _ s1 1000 D3.out fine_s1 (by decide) (mid (mid z1 z2) z3)).mono ?_
  rintro e w4 ⟨rfl, d4, k4⟩
  have z4 := k4.size
  have D4 := Lib.hid d4; have K4 := Lib.hid k4; clear d4 k4
  rw [r2]
  go_wp2_with fail
  refine (write_in w4 w.heap.size w.heap.size _ s2 2000 3 [120, 121, 122] D4.out fine_s2 (by decide) (by decide) (by decide) (mid (mid (mid z1 z2) z3) z4)).mono ?_
  rintro e w5 ⟨rfl, d5, k5⟩
  have z5 := k5.size
  have D5 := Lib.hid d5; have K5 := Lib.hid k5; clear d5 k5
  rw [r3]
  go_wp2_with fail
  refine (crash_in w5 w.heap.size w.heap.size _ s3 3000 _ [] D5.out fine_s3 (by decide) (Ints.nil w5)).mono ?_
  rintro e w6 ⟨c, rfl, d6, k6⟩
  have z6 := k6.size
  have D6 := Lib.hid d6; have K6 := Lib.hid k6; clear d6 k6
  go_wp2_with fail
  refine (new_in w6).mono ?_
  rintro e w7 ⟨rfl, d7, k7⟩
  have z7 := k7.size
  have D7 := Lib.hid d7; have K7 := Lib.hid k7; clear d7 k7
  go_wp2_with fail
  refine (repeated_any 120 70 w7 (by decide)).mono ?_
  rintro e w8 ⟨rfl, k8⟩
  have z8 := k8.size
  have D8 := Lib.hid (D7.out.still k8); have K8 := Lib.hid k8; clear k8
  go_wp2_with fail
  refine (write_in w8 w6.heap.size w6.heap.size _ DS.zero 0 60 (List.replicate 70 120) D8.out DS.Fine.zero (by decide) (by decide) (by decide) (mid z7 z8)).mono ?_
  rintro e w9 ⟨rfl, d9, k9⟩
  have z9 := k9.size
  have D9 := Lib.hid d9; have K9 := Lib.hid k9; clear d9 k9
  rw [r4]
  go_wp2_with fail
  obtain ⟨wa, hwa⟩ : ∃ wa, wa = w9.alloc (.cells #[.int .i64 0, .int .i64 1] 3) := ⟨_, rfl⟩
  rw [← hwa]
  have ka : Keeps noBlock w9 wa := by rw [hwa]; exact (Keeps.refl _ _).alloc _
  have qa : Ints wa (.slice (some ⟨w9.heap.size, 0, none⟩) 2 2) [0, 1] := by
    refine ⟨_, 2, rfl, Nat.le_refl _, by decide, fun _ => ⟨w9.heap.size, 0, rfl, fun i hi => ?_⟩, by decide⟩
    rw [hwa, Nat.zero_add, World.cell?_alloc_new]
    match i, hi with
    | 0, _ => rfl
    | 1, _ => rfl
  have za := ka.size
  have DA := Lib.hid (D9.out.still ka); have KA := Lib.hid ka; have QA := Lib.hid qa
  clear ka qa hwa
  refine (crash_in wa w6.heap.size w6.heap.size _ t1 1000 _ [0, 1] DA.out fine_t1 (by decide) QA.out).mono ?_
  rintro e w10 ⟨f, rfl, d10, k10⟩
  have z10 := k10.size
  have D10 := Lib.hid d10; have K10 := Lib.hid k10; clear d10 k10
  go_wp2_with fail
  refine (new_in w10).mono ?_
  rintro e w11 ⟨rfl, d11, k11⟩
  have z11 := k11.size
  have D11 := Lib.hid d11; have K11 := Lib.hid k11; clear d11 k11
  go_wp2_with fail
  refine (fail_in w11 w10.heap.size w10.heap.size _ DS.zero 1 D11.out z11).mono ?_
  rintro e w12 ⟨rfl, d12, k12⟩
  have z12 := k12.size
  have D12 := Lib.hid d12; have K12 := Lib.hid k12; clear d12 k12
  go_wp2_with fail
  refine (sync_in w12 w10.heap.size w10.heap.size _ g1 1000 D12.out fine_g1 (by decide) (mid z11 z12)).mono ?_
  rintro e w13 ⟨rfl, d13, k13⟩
  have z13 := k13.size
  have D13 := Lib.hid d13; have K13 := Lib.hid k13; clear d13 k13
  rw [r5]
  go_wp2_with fail
  refine (write_in w13 w10.heap.size w10.heap.size _ g2 2000 0 [97] D13.out fine_g2 (by decide) (by decide) (by decide) (mid (mid z11 z12) z13)).mono ?_
  rintro e w14 ⟨rfl, d14, k14⟩
  have z14 := k14.size
  have D14 := Lib.hid d14; have K14 := Lib.hid k14; clear d14 k14
  rw [r6]
  go_wp2_with fail
  refine (write_in w14 w10.heap.size w10.heap.size _ g3 3000 (-1) [97] D14.out fine_g3 (by decide) (by decide) (by decide) (mid (mid (mid z11 z12) z13) z14)).mono ?_
  rintro e w15 ⟨rfl, d15, k15⟩
  have z15 := k15.size
  have D15 := Lib.hid d15; have K15 := Lib.hid k15; clear d15 k15
  rw [r7]
  go_wp2_with fail
  refine (calls_in w15 w10.heap.size w10.heap.size _ g4 D15.out).mono ?_
  rintro e w' ⟨rfl, rfl⟩
  rw [r8]
  have kg : Keeps (from_ w10.heap.size) w10 w15 := ((((K11.out.trans K12.out).trans K13.out).trans K14.out).trans K15.out)
  have ke : Keeps (from_ w6.heap.size) w6 w10 := (((K7.out.trans (K8.out.any _)).trans K9.out).trans (KA.out.any _)).trans (K10.out.any _)
  have D6b := Lib.hid ((D6.out.keep ke (Nat.le_refl _)).keep kg (mid (mid (mid (mid z7 z8) z9) za) z10))
  have D10b := Lib.hid (D10.out.keep kg (Nat.le_refl _))
  have k0 : Keeps (from_ w.heap.size) w w6 := ((((K1.out.trans K2.out).trans (K3.out.any _)).trans K4.out).trans K5.out).trans (K6.out.any _)
  have kw : Keeps noBlock w w15 := ((k0.trans (ke.lower (by omega))).trans (kg.lower (by omega))).mono fun k hk e => by have : w.heap.size ≤ k := e; omega
  have KW := Lib.hid kw
  clear kg ke k0 kw
  go_wp2_with fail
  refine (read_in w15 c w5.heap.size _ s4 0 9 D6b.out fine_s4.now (by decide)).mono ?_
  rintro e w16 ⟨rfl, k16⟩
  have D16 := Lib.hid (D10b.out.still k16); have K16 := Lib.hid k16; clear k16
  rw [q4]
  go_wp2_with fail
  refine (size_in w16 f wa.heap.size _ t2 D16.out).mono ?_
  rintro e w' ⟨rfl, rfl⟩
  rw [l2]
  go_wp2_with fail
  refine (read_in w16 f wa.heap.size _ t2 60 9 D16.out fine_t2.now (by decide)).mono ?_
  rintro e w17 ⟨rfl, k17⟩
  rw [q5]
  go_wp2_with fail
  go_ret
  exact ⟨rfl, (KW.out.trans K16.out).trans k17⟩
#print axioms sanity_any
end Go.Proofs.Ytmigbpfeobjhkaa
