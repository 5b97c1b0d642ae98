/-
  The act of a desk that writes. No condition but bounds.
-/
import Derived.Test.YtmigbpfeobjhkaaDDesk
namespace Go.Proofs.Ytmigbpfeobjhkaa
open Go Go.RowKit
attribute [local go_sem ↓] Go.wp_at_zero Go.wp_at_succ

set_option maxHeartbeats 400000 in
theorem do_write (w : World) (x : Nat) (F : Nat → Prop) (s : DS) (c : Nat) (k o n : Int) (t : List UInt8) (h : DeskP w x F s) (hf : s.Fine c) (hc : c ≤ 1099511627776) (hk : k % 8 = 0 ∨ k % 8 = 1 ∨ k % 8 = 2 ∨ k % 8 = 3) (ho1 : o ≤ 9223372036854775807) (ht : t.length ≤ 9223372036854775807) :
    Calls Try.prog 16 #[.pointer (some ⟨x, 0, none⟩), act k o n t] w (DoPost x F (s.write (whereL o) (longL n t)) w) := by
  obtain ⟨b, m, Fd, Fm, h⟩ := h
  unfold act
  have HK := Lib.hid hk; clear hk
  have HF := Lib.hid hf; clear hf
  obtain ⟨w0, hw0⟩ : ∃ w0 : World, w0 = w.alloc (.cells #[.int .i64 k, .int .i64 o, .int .i64 n, .string (str t)] 33) := ⟨_, rfl⟩
  have k0 : Keeps noBlock w w0 := by rw [hw0]; exact (Keeps.refl _ _).alloc _
  have h0 := h.keep k0 (fun _ _ e => e)
  have x0 : w0.cell? ⟨w.heap.size, 0, none⟩ = some (.int .i64 k) := by rw [hw0]; simp
  have x1 : w0.cell? ⟨w.heap.size, 1, none⟩ = some (.int .i64 o) := by rw [hw0]; simp
  have x2 : w0.cell? ⟨w.heap.size, 2, none⟩ = some (.int .i64 n) := by rw [hw0]; simp
  have x3 : w0.cell? ⟨w.heap.size, 3, none⟩ = some (.string (str t)) := by rw [hw0]; simp
  obtain ⟨d0, d1⟩ := h0.cells
  have HW := Lib.hid hw0
  have H := Lib.hid h
  have H0 := Lib.hid h0
  have hb0 : w.heap.size < w0.heap.size := by rw [hw0]; simp
  clear hw0 h h0
  have hd : DiskP w0.drew b Fd s := H0.out.disk.keep (Keeps.refl noBlock w0).drew (fun _ _ e => e)
  have hr : RefP w0.drew m Fm s := H0.out.ref.keep (Keeps.refl noBlock w0).drew (fun _ _ e => e)
  have hnd : ¬ Fd w.heap.size := fun e => Nat.lt_irrefl _ (H.out.disk.lt _ e)
  have hnm : ¬ Fm w.heap.size := fun e => Nat.lt_irrefl _ (H.out.ref.lt _ e)
  have HD := Lib.hid hd
  have HR := Lib.hid hr
  have HND := Lib.hid hnd
  have HNM := Lib.hid hnm
  clear hd hr hnd hnm
  go_enter Try.func16, Try.ntmps16
  go_wp2_with fail
  rw [← HW.out]
  refine (mod_any k 8 _ (by omega) (by omega)).mono ?_
  rintro e w1 ⟨rfl, rfl⟩
  have hwl : whereL o ≤ 9223372036854775807 := by unfold whereL; split <;> omega
  have hll : (longL n t).length ≤ 4611686018427387904 := by have := length_longL n t; omega
  obtain ⟨r, hr⟩ : ∃ r, r = k % 8 := ⟨_, rfl⟩
  rw [← hr]
  have hr4 : 0 ≤ r ∧ r < 4 := by have := HK.out; omega
  have HRR := Lib.hid hr
  clear hr
  have tok1 : True := trivial
  have tok2 : True := trivial
  go_wp2_with fail
  go_region_held3 (fun w' => w'.cell? ⟨x, 0, none⟩ = some (.pointer (some ⟨b, 0, none⟩)) ∧ w'.cell? ⟨x, 1, none⟩ = some (.pointer (some ⟨m, 0, none⟩)) ∧ w'.cell? ⟨w.heap.size, 0, none⟩ = some (.int .i64 k) ∧ w'.cell? ⟨w.heap.size, 1, none⟩ = some (.int .i64 o) ∧ w'.cell? ⟨w.heap.size, 2, none⟩ = some (.int .i64 n) ∧ w'.cell? ⟨w.heap.size, 3, none⟩ = some (.string (str t)))
    (first
      | go_keep
      | (go_split_ands; exact ⟨k6.cell (by assumption) H0.out.xm, k6.cell (by assumption) H0.out.xm, k6.cell (by assumption) HNM.out, k6.cell (by assumption) HNM.out, k6.cell (by assumption) HNM.out, k6.cell (by assumption) HNM.out⟩)
      | (go_split_ands; exact ⟨k5.cell (by assumption) (fun h => h), k5.cell (by assumption) (fun h => h), k5.cell (by assumption) (fun h => h), k5.cell (by assumption) (fun h => h), k5.cell (by assumption) (fun h => h), k5.cell (by assumption) (fun h => h)⟩)
      | (go_split_ands; exact ⟨k4.cell (by assumption) (fun h => h), k4.cell (by assumption) (fun h => h), k4.cell (by assumption) (fun h => h), k4.cell (by assumption) (fun h => h), k4.cell (by assumption) (fun h => h), k4.cell (by assumption) (fun h => h)⟩)
      | (go_split_ands; exact ⟨k3.cell (by assumption) H0.out.xd, k3.cell (by assumption) H0.out.xd, k3.cell (by assumption) HND.out, k3.cell (by assumption) HND.out, k3.cell (by assumption) HND.out, k3.cell (by assumption) HND.out⟩)
      | (go_split_ands; exact ⟨k2.cell (by assumption) (fun h => h), k2.cell (by assumption) (fun h => h), k2.cell (by assumption) (fun h => h), k2.cell (by assumption) (fun h => h), k2.cell (by assumption) (fun h => h), k2.cell (by assumption) (fun h => h)⟩)
      | (go_split_ands; exact ⟨k1.cell (by assumption) (fun h => h), k1.cell (by assumption) (fun h => h), k1.cell (by assumption) (fun h => h), k1.cell (by assumption) (fun h => h), k1.cell (by assumption) (fun h => h), k1.cell (by assumption) (fun h => h)⟩)
    )
    (first
      | (go_at_call 34; have _t := tok1; refine (where_any k o n t _).mono ?_; clear _t tok1; rintro e w1 ⟨rfl, k1⟩)
      | (go_at_call 36; have _t := tok2; refine (long_any k o n t _ ht).mono ?_; clear _t tok2; rintro e w2 ⟨rfl, k2⟩)
      | (go_at_call 34; refine (where_any k o n t _).mono ?_; rintro e w4 ⟨rfl, k4⟩)
      | (go_at_call 36; refine (long_any k o n t _ ht).mono ?_; rintro e w5 ⟨rfl, k5⟩)
      | (go_at_call 27; refine (write_any _ b Fd s c (whereL o) (longL n t) ((HD.out.keep k1 (fun _ _ e => e)).keep k2 (fun _ _ e => e)) HF.out hc hwl hll).mono ?_; rintro e w3 ⟨rfl, h3, k3⟩)
      | (go_at_call 32; refine (rwrite_any _ m Fm s c (whereL o) (longL n t) (((((HR.out.keep k1 (fun _ _ e => e)).keep k2 (fun _ _ e => e)).keep k3 (fun k e e2 => H0.out.dis k e2 e)).keep k4 (fun _ _ e => e)).keep k5 (fun _ _ e => e)) HF.out hc hwl hll).mono ?_; rintro e w6 ⟨rfl, h6, k6⟩))
  go_wp2_with fail
  go_ret
  have k35 : Keeps noBlock w3 w5 := k4.trans k5
  have h5 : DiskP w5 b (grow Fd w2 w5) (s.write (whereL o) (longL n t)) := (h3.keep k35 (fun _ _ e => e)).widen
    (fun k e => grow_sub k3.size k35.size e) (grow_lt (fun k e => (((HD.out.keep k1 (fun _ _ e => e)).keep k2 (fun _ _ e => e)).lt k e)) (by have := k3.size; have := k35.size; omega))
  have k25 : Keeps Fd w2 w5 := k3.trans (k35.mono fun _ _ e => e.elim)
  have k02 : Keeps noBlock w w2 := ((k0.drew).trans k1).trans k2
  exact ⟨rfl, DoPost.from k02 H.out.lt ((H.out.keep k02 (fun _ _ e => e)).both h5 k25 h6 k6)⟩

set_option maxHeartbeats 400000 in
theorem do_crash (w : World) (x : Nat) (F : Nat → Prop) (s : DS) (c : Nat) (k o n : Int) (t : List UInt8) (h : DeskP w x F s) (hf : s.Fine c) (hc : c ≤ 1099511627776) (hk : k % 8 = 7) (hn0 : -9223372036854775808 ≤ n) (hn1 : n ≤ 9223372036854775807) :
    Calls Try.prog 16 #[.pointer (some ⟨x, 0, none⟩), act k o n t] w (DoPost x F (s.crash (surviveL n)) w) := by
  obtain ⟨b, m, Fd, Fm, h⟩ := h
  unfold act
  have HK := Lib.hid hk; clear hk
  have HF := Lib.hid hf; clear hf
  obtain ⟨w0, hw0⟩ : ∃ w0 : World, w0 = w.alloc (.cells #[.int .i64 k, .int .i64 o, .int .i64 n, .string (str t)] 33) := ⟨_, rfl⟩
  have k0 : Keeps noBlock w w0 := by rw [hw0]; exact (Keeps.refl _ _).alloc _
  have h0 := h.keep k0 (fun _ _ e => e)
  have x0 : w0.cell? ⟨w.heap.size, 0, none⟩ = some (.int .i64 k) := by rw [hw0]; simp
  have x1 : w0.cell? ⟨w.heap.size, 1, none⟩ = some (.int .i64 o) := by rw [hw0]; simp
  have x2 : w0.cell? ⟨w.heap.size, 2, none⟩ = some (.int .i64 n) := by rw [hw0]; simp
  have x3 : w0.cell? ⟨w.heap.size, 3, none⟩ = some (.string (str t)) := by rw [hw0]; simp
  obtain ⟨d0, d1⟩ := h0.cells
  have HW := Lib.hid hw0
  have H := Lib.hid h
  have H0 := Lib.hid h0
  have hb0 : w.heap.size < w0.heap.size := by rw [hw0]; simp
  clear hw0 h h0
  have hd : DiskP w0.drew b Fd s := H0.out.disk.keep (Keeps.refl noBlock w0).drew (fun _ _ e => e)
  have hr : RefP w0.drew m Fm s := H0.out.ref.keep (Keeps.refl noBlock w0).drew (fun _ _ e => e)
  have hnd : ¬ Fd w.heap.size := fun e => Nat.lt_irrefl _ (H.out.disk.lt _ e)
  have hnm : ¬ Fm w.heap.size := fun e => Nat.lt_irrefl _ (H.out.ref.lt _ e)
  have HD := Lib.hid hd
  have HR := Lib.hid hr
  have HND := Lib.hid hnd
  have HNM := Lib.hid hnm
  clear hd hr hnd hnm
  go_enter Try.func16, Try.ntmps16
  go_wp2_with fail
  rw [← HW.out]
  refine (mod_any k 8 _ (by omega) (by omega)).mono ?_
  rintro e w1 ⟨rfl, rfl⟩
  rw [HK.out]
  have hxl : x < w0.heap.size := H0.out.lt x H0.out.fx
  have f0 : w0.frozen? ⟨x, 0, none⟩ = false := frozen_of_heap H0.out.head 0
  clear x0 x1 x3
  go_wp2_with fail
  go_region_law
    (first
      | (go_simp; go_at_call 25; refine (survive_any n _ hn0 hn1).mono ?_; rintro e w1 ⟨qv, rfl, hq, k1⟩; have d0 := k1.cell d0 (fun h => h); have f0 := k1.frozen hxl (fun h => h) f0; have HQ := Lib.hid hq; clear hq)
      | (go_simp; go_at_call 23; refine (crash_any _ b Fd s c qv (surviveL n) (HD.out.keep k1 (fun _ _ e => e)) HF.out hc HQ.out).mono ?_; rintro e w2 ⟨b', rfl, h2, k2⟩; have d0 := k2.cell d0 (fun h => h); have f0 := k2.frozen (Nat.lt_of_lt_of_le hxl k1.size) (fun h => h) f0))
  all_goals
    have e0 : w2.heap[x]? = some (.cells #[.pointer (some ⟨b, 0, none⟩), .pointer (some ⟨m, 0, none⟩)] 30 (0, 0)) := k2.heap (k1.heap (show w0.drew.heap[x]? = _ from H0.out.head) (fun h => h)) (fun h => h)
    have y2 : w2.cell? ⟨w.heap.size, 2, none⟩ = some (.int .i64 n) := k2.cell (k1.cell (show w0.drew.cell? ⟨w.heap.size, 2, none⟩ = _ from x2) (fun h => h)) (fun h => h)
    have r2 : RefP w2 m Fm s := (HR.out.keep k1 (fun _ _ e => e)).keep k2 (fun _ _ e => e)
    obtain ⟨W2, hW2⟩ : ∃ W2, W2 = w2.setCell ⟨x, 0, none⟩ (.pointer (some ⟨b', 0, none⟩)) := ⟨_, rfl⟩
    rw [← hW2]
    have kW : Keeps (fun k => k = x) w2 W2 := by rw [hW2]; exact (Keeps.refl (fun k => k = x) w2).setCell (p := ⟨x, 0, none⟩) (fun _ => rfl) _
    have eW : W2.heap[x]? = some (.cells #[.pointer (some ⟨b', 0, none⟩), .pointer (some ⟨m, 0, none⟩)] 30 (0, 0)) := by rw [hW2]; exact heap_set e0
    have hwx : w.heap.size ≠ x := fun e => Nat.lt_irrefl x (e ▸ H.out.lt x H.out.fx)
    have y2 := kW.cell y2 hwx
    have rW : RefP W2.drew m Fm s := (r2.keep kW (fun k e e2 => H0.out.xm (e2 ▸ e))).keep (Keeps.refl noBlock W2).drew (fun _ _ e => e)
    have s1 := k1.size
    have s2 := k2.size
    have sW := kW.size
    have dW : DiskP W2 b' (grow noBlock w1 w2) (s.crash (surviveL n)) := h2.keep kW (fun k e e2 => by
      rcases e with e | e
      · exact e
      · have : w0.drew.heap.size = w0.heap.size := rfl
        omega)
    have d1 : W2.cell? ⟨x, 1, none⟩ = some (.pointer (some ⟨m, 0, none⟩)) := by rw [cell_of_heap eW]; rfl
    have f1 : W2.frozen? ⟨x, 1, none⟩ = false := frozen_of_heap eW 1
    have hxl2 : x < W2.heap.size := lt_of_heap eW
    have k02 : Keeps F w W2 := (((k0.drew).trans k1).trans k2).mono (fun _ _ e => e.elim) |>.trans' kW (fun k _ e => e ▸ H.out.fx)
    have HK02 := Lib.hid k02
    have HRW := Lib.hid rW
    have HDW := Lib.hid dW
    have HEW := Lib.hid eW
    have HS1 := Lib.hid (show w.heap.size ≤ w1.heap.size by have : w0.drew.heap.size = w0.heap.size := rfl; omega)
    have HS2 := Lib.hid (show w2.heap.size ≤ W2.heap.size by omega)
    have HS3 := Lib.hid (show w1.heap.size ≤ w2.heap.size by omega)
    clear hW2 kW eW e0 r2 rW s1 s2 sW dW d0 f0 k1 k2 h2 x2 hwx k02
    go_wp2_with fail
    go_region_law
      (first
        | (go_simp; go_at_call 25; refine (survive_any n _ hn0 hn1).mono ?_; rintro e w3 ⟨qv2, rfl, hq2, k3⟩; have d1 := k3.cell d1 (fun h => h); have f1 := k3.frozen hxl2 (fun h => h) f1; have HQ2 := Lib.hid hq2; clear hq2)
        | (go_simp; go_at_call 24; refine (rcrash_any _ m Fm s c qv2 (surviveL n) (HRW.out.keep k3 (fun _ _ e => e)) HF.out hc HQ2.out).mono ?_; rintro e w4 ⟨m', rfl, h4, k4⟩; have d1 := k4.cell d1 (fun h => h); have f1 := k4.frozen (Nat.lt_of_lt_of_le hxl2 k3.size) (fun h => h) f1))
    all_goals
      have e0 : w4.heap[x]? = _ := k4.heap (k3.heap (show W2.drew.heap[x]? = _ from HEW.out) (fun h => h)) (fun h => h)
      obtain ⟨W4, hW4⟩ : ∃ W4, W4 = w4.setCell ⟨x, 1, none⟩ (.pointer (some ⟨m', 0, none⟩)) := ⟨_, rfl⟩
      rw [← hW4]
      have kW : Keeps (fun k => k = x) w4 W4 := by rw [hW4]; exact (Keeps.refl (fun k => k = x) w4).setCell (p := ⟨x, 1, none⟩) (fun _ => rfl) _
      have eW : W4.heap[x]? = some (.cells #[.pointer (some ⟨b', 0, none⟩), .pointer (some ⟨m', 0, none⟩)] 30 (0, 0)) := by rw [hW4]; exact heap_set e0
      have d0 : W4.cell? ⟨x, 0, none⟩ = some (.pointer (some ⟨b', 0, none⟩)) := by rw [cell_of_heap eW]; rfl
      have HKW := Lib.hid kW
      have HEW4 := Lib.hid eW
      clear hW4 kW eW e0 d1 f1
      go_wp2_with fail
      go_ret
      have s3 := k3.size
      have s4 := k4.size
      have sW := HKW.out.size
      have hs1 := HS1.out
      have hs2 := HS2.out
      have hs3 := HS3.out
      have hsd : W2.drew.heap.size = W2.heap.size := rfl
      have hxw : x < w.heap.size := H.out.lt x H.out.fx
      have k24 : Keeps noBlock W2 w4 := ((Keeps.refl noBlock W2).drew.trans k3).trans k4
      refine ⟨rfl, ⟨b', m', grow noBlock w1 w2, grow noBlock w3 w4, ?_⟩, ?_⟩
      · exact {
          head := HEW4.out
          disk := (HDW.out.keep k24 (fun _ _ e => e)).keep HKW.out (fun k e e2 => by
            rcases e with e | e
            · exact e
            · omega)
          ref := h4.keep HKW.out (fun k e e2 => by
            rcases e with e | e
            · exact e
            · omega)
          dis := fun k e e2 => by
            rcases e with e | e
            · exact e
            · rcases e2 with e2 | e2
              · exact e2
              · omega
          xd := fun e => by
            rcases e with e | e
            · exact e
            · omega
          xm := fun e => by
            rcases e with e | e
            · exact e
            · omega
          fx := .inl H.out.fx
          fd := fun k e => by
            rcases e with e | e
            · exact e.elim
            · exact .inr ⟨by omega, by omega⟩
          fm := fun k e => by
            rcases e with e | e
            · exact e.elim
            · exact .inr ⟨by omega, by omega⟩
          lt := grow_lt H.out.lt (by omega) }
      · exact (HK02.out.trans' k24 (fun _ _ e => e.elim)).trans' HKW.out (fun k _ e => e ▸ H.out.fx)

end Go.Proofs.Ytmigbpfeobjhkaa
