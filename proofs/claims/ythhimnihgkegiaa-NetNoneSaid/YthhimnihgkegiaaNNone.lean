/-
  NetNone: the law's walk: it returns true, and writes nothing that was there. No condition.
-/
import Derived.Test.YthhimnihgkegiaaNScript
namespace Go.Proofs.Ythhimnihgkegiaa
open Go Go.RowKit Go.ChangeShapes Go.WideShapes Go.ChangeAt
set_option linter.unusedVariables false

theorem drops_low (n : Int) (l : List Tr) (hn : n ≤ 0) (to_ : Int) : (newS n l).drops to_ = true := by
  unfold NS.drops
  by_cases h : to_ < 0
  · simp [h]
  · have h2 : (newS n l).nodes ≤ to_ := by show n ≤ to_; omega
    simp [h2]
theorem zero_net (w w' : World) (h : w' = w.alloc (.cells #[.int .i64 0, .slice none 0 0, .slice none 0 0, .int .i64 0] 53)) (L : Nat) (hL : L ≤ w.heap.size) : Net1 w' w.heap.size L (newS 0 []) ∧ Keeps noBlock w w' := by
  subst h
  refine ⟨⟨fun k => k = w.heap.size, fun k e => by rw [e]; exact hL, .slice none 0 0, .slice none 0 0, [], ?_⟩, (Keeps.refl _ _).alloc _⟩
  exact {
    head := heap_alloc_at
    fb := rfl
    scr := World.ownsRow_nil _ _ _ _
    fscr := fun k e => (own_none.1 e).elim
    own := World.ownsRow_nil _ _ _ _
    fown := fun k e => (own_none.1 e).elim
    perm := List.Perm.refl _
    heap := fun c h0 hc => absurd hc (Nat.not_lt_zero c)
    ok := newS_ok 0 []
    lt := fun k e => by rw [e]; simp }
theorem sent_low (n : Int) (l : List Tr) (hn : n ≤ 0) (now fr to_ : Int) (tx : List UInt8) : ((newS n l).send now fr to_ tx).w = [] := by
  unfold NS.send
  dsimp only
  rw [if_pos (drops_low n l hn to_)]; rfl

theorem low_fine (n : Int) (l : List Tr) (hn : n ≤ 0) (hl : l.length ≤ 12) (hd : ∀ t ∈ l, t.delay ≤ 1000000000) (now fr to_ : Int) (tx : List UInt8) : ((newS n l).send now fr to_ tx).Fine 1 :=
  (NS.Fine.new n l (by omega) hd).send now fr to_ tx

set_option maxHeartbeats 1000000 in
theorem none_walk (m : MsgD) (now : Int) (l : List Tr) (v : Value) (w : World) (hm : msgFits m) (hnow : (Lit.int .i64 now).wf = true) (hl : Trs w v l) :
    Calls Try.prog 9 #[msgVal m.1 m.2.1 m.2.2, .int .i64 now, v] w fun e w' => e = .returned (.bool true) ∧ Below w.heap.size w w' := by
  obtain ⟨fr, to_, tx⟩ := m
  obtain ⟨o, cap, hv, _⟩ := id hl
  have HL := Lib.hid hl
  subst hv
  clear hm hnow hl
  unfold msgVal
  simp only
  go_enter Try.func9, Try.ntmps9
  go_wp2_with fail
  obtain ⟨w0, hw0⟩ : ∃ w0 : World, w0 = w.alloc (.cells #[.int .i64 fr, .int .i64 to_, .string (str tx)] 31) := ⟨_, rfl⟩
  have k0 : Keeps noBlock w w0 := by rw [hw0]; exact (Keeps.refl _ _).alloc _
  have hb0 : w0.heap[w.heap.size]? = some (.cells #[.int .i64 fr, .int .i64 to_, .string (str tx)] 31 (0, 0)) := by rw [hw0]; exact heap_alloc_at
  have z0 : w.heap.size < w0.heap.size := by rw [hw0]; simp
  have HB := Lib.hid (show ∀ W, Keeps (from_ w0.heap.size) w0 W → W.cell? ⟨w.heap.size, 0, none⟩ = some (.int .i64 fr) ∧ W.cell? ⟨w.heap.size, 1, none⟩ = some (.int .i64 to_) ∧ W.cell? ⟨w.heap.size, 2, none⟩ = some (.string (str tx)) from fun W hk => by
    have h := hk.heap hb0 (fun e => by have : w0.heap.size ≤ w.heap.size := e; omega)
    refine ⟨?_, ?_, ?_⟩ <;> rw [cell_of_heap h] <;> rfl)
  rw [← hw0]
  have K0 := Lib.hid k0
  clear hw0 k0 hb0
  refine (sanity_any w0).mono ?_
  rintro e w1 ⟨rfl, k1⟩
  have K1 := Lib.hid k1
  have z1 := k1.size
  clear k1
  go_wp2_with fail
  obtain ⟨w2, hw2⟩ : ∃ w2 : World, w2 = w1.alloc (.cells #[.int .i64 0, .slice none 0 0, .slice none 0 0, .int .i64 0] 53) := ⟨_, rfl⟩
  obtain ⟨hz2, k2⟩ := zero_net w1 w2 hw2 w0.heap.size (by omega)
  have HZ2 := Lib.hid hz2
  have K2 := Lib.hid (K1.out.trans k2)
  have z2 := k2.size
  rw [← hw2]
  clear hw2 hz2 k2
  have hs2 : Trs w2 (.slice o l.length cap) l := by
    obtain ⟨o', cap', h1, h2, h3, h4, h5⟩ := HL.out
    simp only [Value.slice.injEq] at h1
    obtain ⟨rfl, _, rfl⟩ := h1
    refine ⟨o, cap, rfl, h2, h3, fun hp => ?_, h5⟩
    obtain ⟨b, off, ho, hb, hc⟩ := h4 hp
    exact ⟨b, off, ho, by omega, fun i hi j u hu => (K0.out.trans K2.out).cell (hc i hi j u hu) (fun e => e)⟩
  have HS2 := Lib.hid hs2
  clear hs2
  refine (script_any w2 _ l HS2.out).mono ?_
  rintro e w3 ⟨sv, rfl, hrow, k3⟩
  obtain ⟨o3, cap3, hv3, _⟩ := owns_form hrow
  subst hv3
  have HR := Lib.hid (owns_zero hrow)
  have HZ3 := Lib.hid (HZ2.out.keep k3)
  have K3 := Lib.hid (K2.out.trans k3)
  have z3 := k3.size
  clear hrow k3
  go_wp2_with fail
  refine (new_2 w3 w1.heap.size w0.heap.size (newS 0 []) (-3) _ (scriptL l) HZ3.out (by omega) HR.out (by have := length_scriptL l; omega)).mono ?_
  rintro e w4 ⟨b, rfl, hn4, k4⟩
  have z4 := k4.size
  have HN4 := Lib.hid hn4
  have K4 := Lib.hid (K3.out.trans k4)
  obtain ⟨c0, c1, c2⟩ := HB.out w4 ((K3.out.trans k4).any' _)
  have hwl : w.heap.size < w4.heap.size := by omega
  clear hn4 k4
  go_wp2_with fail
  refine (send_nil w4 now fr to_ tx).mono ?_
  rintro e w5 ⟨rfl, k5⟩
  have z5 := k5.size
  have HN5 := Lib.hid (HN4.out.keep k5)
  have K5 := Lib.hid (K4.out.trans k5)
  obtain ⟨c0, c1, c2⟩ := HB.out w5 ((K4.out.trans k5).any' _)
  clear k5
  go_wp2_with fail
  refine (send_2d w5 w1.heap.size b w0.heap.size (newS 0 []) (newS (-3) (scriptL l)) now fr to_ tx HN5.out (by omega) (drops_low _ _ (by decide) _) (by decide) (by decide)).mono ?_
  rintro e w6 ⟨rfl, hn6, k6⟩
  have z6 := k6.size
  have HN6 := Lib.hid hn6.swap
  have K6 := Lib.hid ((K5.out.any' _).trans k6)
  obtain ⟨c0, c1, c2⟩ := HB.out w6 ((K5.out.any' _).trans k6)
  clear hn6 k6
  go_wp2_with fail
  refine (send_2d w6 b w1.heap.size w0.heap.size (newS (-3) (scriptL l)) _ now fr to_ tx HN6.out (by omega) (drops_low _ _ (by decide) _) (by have := length_scriptL l; simp only [newS]; omega) (by simp [newS])).mono ?_
  rintro e w7 ⟨rfl, hn7, k7⟩
  have z7 := k7.size
  have HN7 := Lib.hid hn7.swap
  have K7 := Lib.hid (K6.out.trans k7)
  clear hn7 k7
  go_wp2_with fail
  refine (next_nil w7).mono ?_
  rintro e w8 ⟨rfl, k8⟩
  have HN8 := Lib.hid ((HN7.out.keep k8).keep ((Keeps.refl noBlock w8).alloc (.cells #[.int .i64 0, .int .i64 0, .string ByteArray.empty] 31)))
  have K8 := Lib.hid ((K7.out.trans (k8.any' _)).trans (((Keeps.refl noBlock w8).alloc (.cells #[.int .i64 0, .int .i64 0, .string ByteArray.empty] 31)).any' _))
  have z8 := k8.size
  clear k8
  unfold nextVal
  simp only
  go_wp2_with fail
  refine (next_2 _ w1.heap.size b w0.heap.size _ _ 1 HN8.out (by simp; omega) (low_fine _ _ (by decide) (by decide) (by intro t ht; simp at ht) _ _ _ _) (by decide)).mono ?_
  rintro e w9 ⟨rfl, hn9, k9⟩
  rw [sent_low _ _ (by decide)]
  have z9 := k9.size
  simp only [World.size_alloc] at z9
  have HN9 := Lib.hid ((hn9.keep ((Keeps.refl noBlock w9).alloc (.cells #[.int .i64 0, .int .i64 0, .string ByteArray.empty] 31))).swap)
  have K9 := Lib.hid ((K8.out.trans k9).trans (((Keeps.refl noBlock w9).alloc (.cells #[.int .i64 0, .int .i64 0, .string ByteArray.empty] 31)).any' _))
  clear hn9 k9
  unfold nextVal
  simp only
  go_wp2_with fail
  refine (next_2 _ b w1.heap.size w0.heap.size _ _ 1 HN9.out (by simp; omega) (low_fine _ _ (by decide) (length_scriptL l) (scriptL_del l) _ _ _ _) (by decide)).mono ?_
  rintro e w10 ⟨rfl, hn10, k10⟩
  rw [sent_low _ _ (by decide)]
  have z10 := k10.size
  have hn11 := hn10.keep ((Keeps.refl noBlock w10).alloc (.cells #[.int .i64 0, .int .i64 0, .string ByteArray.empty] 31))
  have HNa := Lib.hid hn11.first
  have HNb := Lib.hid hn11.second
  have K10 := Lib.hid ((K9.out.trans k10).trans (((Keeps.refl noBlock w10).alloc (.cells #[.int .i64 0, .int .i64 0, .string ByteArray.empty] 31)).any' _))
  have e1 : ((newS 0 []).send now fr to_ tx).next.w.length = 0 := by rw [NS.next]; simp only [sent_low 0 [] (by decide)]; rfl
  have e2 : ((newS (-3) (scriptL l)).send now fr to_ tx).next.w.length = 0 := by rw [NS.next]; simp only [sent_low (-3) _ (by decide)]; rfl
  have HE1 := Lib.hid e1
  have HE2 := Lib.hid e2
  clear hn10 k10 hn11 e1 e2
  unfold nextVal
  simp only
  go_wp2_with fail
  refine (waiting_nil _).mono ?_
  rintro e w' ⟨rfl, rfl⟩
  go_wp2_with fail
  refine (waiting_in _ _ _ _ HNb.out).mono ?_
  rintro e w' ⟨rfl, rfl⟩
  rw [HE1.out]
  go_wp2_with fail
  refine (waiting_in _ _ _ _ HNa.out).mono ?_
  rintro e w' ⟨rfl, rfl⟩
  rw [HE2.out]
  go_wp2_with fail
  go_ret
  exact ⟨rfl, ((K0.out.any' (from_ w.heap.size)).trans (K10.out.lower (by omega))).below (Nat.le_refl _) (fun k hk e => by have : w.heap.size ≤ k := e; omega)⟩
end Go.Proofs.Ythhimnihgkegiaa
