/-
  NetOvertakes: the law's walk: it returns true, and writes nothing that was there. No condition.
-/
import Derived.Test.YthhimnihgkegiaaNArgs
namespace Go.Proofs.Ythhimnihgkegiaa
open Go Go.RowKit Go.ChangeShapes Go.WideShapes Go.ChangeAt
set_option linter.unusedVariables false

def ovS (q0 q1 a b : Int) : NS := ((newS 1 [⟨false, 0, q0⟩, ⟨false, 0, q1⟩]).send a 1 0 []).send b 2 0 []
theorem nCop_zero : nCop 0 = 1 := by decide
theorem ov_next (q0 q1 a b : Int) (h0 : 0 ≤ q0) (h1 : 0 ≤ q1) :
    nextVal (ovS q0 q1 a b).w = if b + q1 < a + q0 then .tuple #[.agg #[.int .i64 2, .int .i64 0, .string (str [])], .int .i64 (b + q1), .bool true] else .tuple #[.agg #[.int .i64 1, .int .i64 0, .string (str [])], .int .i64 (a + q0), .bool true] := by
  have m0 : max q0 0 = q0 := by omega
  have m1 : max q1 0 = q1 := by omega
  have e1 : ((newS 1 [⟨false, 0, q0⟩, ⟨false, 0, q1⟩]).send a 1 0 []) = ⟨1, [⟨false, 0, q0⟩, ⟨false, 0, q1⟩], [⟨1, 0, [], a + q0, 0⟩], 1⟩ := by
    simp [NS.send, newS, NS.drops, NS.tr, nCop_zero, addC, insP, cop, m0]
  have e2 : (ovS q0 q1 a b).w = insP ⟨2, 0, [], b + q1, 1⟩ [⟨1, 0, [], a + q0, 0⟩] := by
    unfold ovS
    rw [e1]
    simp [NS.send, NS.drops, NS.tr, nCop_zero, addC, cop, m1]
  rw [e2]
  unfold insP
  by_cases h : b + q1 < a + q0
  · rw [if_pos ((ltB_iff _ _).2 (.inl h)), if_pos h]; rfl
  · rw [if_neg (fun e => by rcases (ltB_iff _ _).1 e with e | e; exact h e; have := e.2; simp at this), if_neg h]; rfl

theorem box_u16 (w w0 : World) (q0 q1 : Int) (t : TypeId) (h : w0 = w.alloc (.cells #[.int .u16 q0, .int .u16 q1] t)) :
    (∀ w', Keeps (from_ w0.heap.size) w0 w' → w'.cell? ⟨w.heap.size, 0, none⟩ = some (.int .u16 q0) ∧ w'.cell? ⟨w.heap.size, 1, none⟩ = some (.int .u16 q1)) ∧ Keeps noBlock w w0 ∧ w.heap.size < w0.heap.size := by
  have p0 : w0.cell? ⟨w.heap.size, 0, none⟩ = some (.int .u16 q0) := by rw [h, World.cell?_alloc_new]; rfl
  have p1 : w0.cell? ⟨w.heap.size, 1, none⟩ = some (.int .u16 q1) := by rw [h, World.cell?_alloc_new]; rfl
  have z0 : w.heap.size < w0.heap.size := by rw [h]; simp
  refine ⟨fun w' k => ⟨k.cell p0 fun e => ?_, k.cell p1 fun e => ?_⟩, by rw [h]; exact (Keeps.refl _ _).alloc _, z0⟩
  · have : w0.heap.size ≤ w.heap.size := e; omega
  · have : w0.heap.size ≤ w.heap.size := e; omega

set_option maxHeartbeats 1000000 in
theorem overtakes_walk (a b q0 q1 : Int) (w : World) (ha : (Lit.int .u16 a).wf = true) (hb : (Lit.int .u16 b).wf = true) (hq0 : inU16 q0) (hq1 : inU16 q1) :
    Calls Try.prog 7 #[.int .u16 a, .int .u16 b, .agg #[.int .u16 q0, .int .u16 q1]] w fun e w' => e = .returned (.bool true) ∧ Below w.heap.size w w' := by
  obtain ⟨ha0, ha1⟩ := inU16_of ha
  obtain ⟨hb0, hb1⟩ := inU16_of hb
  obtain ⟨hq00, hq01⟩ := hq0
  obtain ⟨hq10, hq11⟩ := hq1
  clear ha hb
  have hf0 : (newS 1 [⟨false, 0, q0⟩, ⟨false, 0, q1⟩]).Fine 0 := NS.Fine.new _ _ (by simp) (by intro t ht; simp at ht; rcases ht with rfl | rfl <;> (show _ ≤ (1000000000 : Int); simp only; omega))
  have hf1 := hf0.send a 1 0 []
  have hf2 : (ovS q0 q1 a b).Fine 2 := hf1.send b 2 0 []
  have hnx := ov_next q0 q1 a b hq00 hq10
  have HF0 := Lib.hid hf0
  have HF1 := Lib.hid hf1
  have HF2 := Lib.hid hf2
  have HNX := Lib.hid hnx
  clear hf0 hf1 hf2 hnx
  go_enter Try.func7, Try.ntmps7
  go_wp2_with fail
  obtain ⟨w0, hw0⟩ : ∃ w0, w0 = w.alloc (.cells #[.int .u16 q0, .int .u16 q1] 47) := ⟨_, rfl⟩
  obtain ⟨hp, k0, z0⟩ := box_u16 w w0 q0 q1 _ hw0
  rw [← hw0]
  have HP := Lib.hid hp
  have K0 := Lib.hid k0
  clear hp k0 hw0
  refine (sanity_any w0).mono ?_
  rintro e w1 ⟨rfl, k1⟩
  obtain ⟨p0, p1⟩ := HP.out w1 (k1.any' _)
  have z1 := k1.size
  have K1 := Lib.hid k1
  clear k1
  have HROW := Lib.hid (lit_row w1 [⟨false, 0, q0⟩, ⟨false, 0, q1⟩] (by simp))
  go_wp2_with fail
  refine (new_in _ 1 _ [⟨false, 0, q0⟩, ⟨false, 0, q1⟩] HROW.out (by simp)).mono ?_
  rintro e w2 ⟨n, rfl, hn2, k2⟩
  have k2' := ((Keeps.refl noBlock w1).alloc _).trans k2
  have z2 := k2'.size
  obtain ⟨L, hL⟩ : ∃ L, L = w1.heap.size + 1 := ⟨_, rfl⟩
  have hn2' : Net1 w2 n L (newS 1 [⟨false, 0, q0⟩, ⟨false, 0, q1⟩]) := by rw [hL]; simpa using hn2
  have hLw : L ≤ w2.heap.size := by have := k2.size; simp at this; omega
  have HN2 := Lib.hid hn2'
  have K2 := Lib.hid (K1.out.trans k2')
  have HL := Lib.hid hL
  have hLL : w0.heap.size ≤ L := by omega
  clear hn2 k2 k2' hn2' hL p0 p1
  go_wp2_with fail
  refine (send_in w2 n L _ 0 a 1 0 [] HN2.out hLw HF0.out (by omega) (by omega)).mono ?_
  rintro e w3 ⟨rfl, hn3, k3⟩
  have z3 := k3.size
  have HN3 := Lib.hid hn3
  have K3 := Lib.hid k3
  clear hn3 k3
  go_wp2_with fail
  refine (send_in w3 n L _ 1 b 2 0 [] HN3.out (by omega) HF1.out (by omega) (by omega)).mono ?_
  rintro e w4 ⟨rfl, hn4, k4⟩
  have z4 := k4.size
  have HN4 := Lib.hid hn4
  have K4 := Lib.hid (K3.out.trans k4)
  clear hn4 k4
  go_wp2_with fail
  refine (next_in w4 n L _ 2 HN4.out (by omega) HF2.out (by omega)).mono ?_
  rintro e w5 ⟨rfl, hn5, k5⟩
  rw [show nextVal (((newS 1 [⟨false, 0, q0⟩, ⟨false, 0, q1⟩]).send a 1 0 []).send b 2 0 []).w = _ from HNX.out]
  have z5 := k5.size
  have K5 := Lib.hid (K4.out.trans k5)
  have kk : Keeps (from_ w0.heap.size) w0 w5 := (K2.out.any' _).trans (K5.out.lower hLL)
  obtain ⟨p0, p1⟩ := HP.out w5 kk
  have KK := Lib.hid ((K0.out.any' (from_ w.heap.size)).trans (kk.lower (Nat.le_of_lt z0)))
  clear hn5 k5 kk
  have hbl : w.heap.size < w5.heap.size := by omega
  by_cases hyx : b + q1 < a + q0
  · rw [if_pos hyx]
    go_wp2_with fail
    go_quiet (fail)
    go_wp2_with fail
    go_ret
    exact ⟨rfl, ((KK.out.alloc _).drewN _).below (Nat.le_refl _) (fun k hk e => by have : w.heap.size ≤ k := e; omega)⟩
  · rw [if_neg hyx]
    go_wp2_with fail
    go_quiet (fail)
    go_wp2_with fail
    go_ret
    exact ⟨rfl, ((KK.out.alloc _).drewN _).below (Nat.le_refl _) (fun k hk e => by have : w.heap.size ≤ k := e; omega)⟩
end Go.Proofs.Ythhimnihgkegiaa
