/-
  A desk: a disk and its model in one state. Its acts do what the plain model says to both. No condition but bounds.
-/
import Derived.Test.YtmigbpfeobjhkaaDLaw1
namespace Go.Proofs.Ytmigbpfeobjhkaa
open Go Go.RowKit
set_option linter.unusedVariables false
attribute [local go_sem ↓] Go.wp_at_zero Go.wp_at_succ

structure DeskAt (w : World) (x : Nat) (F : Nat → Prop) (b m : Nat) (Fd Fm : Nat → Prop) (s : DS) : Prop where
  head : w.heap[x]? = some (.cells #[.pointer (some ⟨b, 0, none⟩), .pointer (some ⟨m, 0, none⟩)] 30 (0, 0))
  disk : DiskP w b Fd s
  ref : RefP w m Fm s
  dis : ∀ k, Fd k → ¬ Fm k
  xd : ¬ Fd x
  xm : ¬ Fm x
  fx : F x
  fd : ∀ k, Fd k → F k
  fm : ∀ k, Fm k → F k
  lt : ∀ k, F k → k < w.heap.size
def DeskP (w : World) (x : Nat) (F : Nat → Prop) (s : DS) : Prop := ∃ b m Fd Fm, DeskAt w x F b m Fd Fm s

theorem DeskAt.keep {w w' : World} {x : Nat} {F S : Nat → Prop} {b m : Nat} {Fd Fm : Nat → Prop} {s : DS} (h : DeskAt w x F b m Fd Fm s) (hk : Keeps S w w') (hs : ∀ k, F k → ¬ S k) : DeskAt w' x F b m Fd Fm s where
  head := hk.heap h.head (hs _ h.fx)
  disk := h.disk.keep hk fun k e => hs _ (h.fd k e)
  ref := h.ref.keep hk fun k e => hs _ (h.fm k e)
  dis := h.dis
  xd := h.xd
  xm := h.xm
  fx := h.fx
  fd := h.fd
  fm := h.fm
  lt := fun k e => Nat.lt_of_lt_of_le (h.lt k e) hk.size
theorem DeskP.keep {w w' : World} {x : Nat} {F S : Nat → Prop} {s : DS} (h : DeskP w x F s) (hk : Keeps S w w') (hs : ∀ k, F k → ¬ S k) : DeskP w' x F s := by
  obtain ⟨b, m, Fd, Fm, h⟩ := h
  exact ⟨b, m, Fd, Fm, h.keep hk hs⟩
theorem DeskP.lt {w : World} {x : Nat} {F : Nat → Prop} {s : DS} (h : DeskP w x F s) : ∀ k, F k → k < w.heap.size := by
  obtain ⟨b, m, Fd, Fm, h⟩ := h; exact h.lt
theorem DeskAt.cells {w : World} {x : Nat} {F : Nat → Prop} {b m : Nat} {Fd Fm : Nat → Prop} {s : DS} (h : DeskAt w x F b m Fd Fm s) :
    w.cell? ⟨x, 0, none⟩ = some (.pointer (some ⟨b, 0, none⟩)) ∧ w.cell? ⟨x, 1, none⟩ = some (.pointer (some ⟨m, 0, none⟩)) :=
  ⟨by rw [cell_of_heap h.head]; rfl, by rw [cell_of_heap h.head]; rfl⟩

/-- the footprints after both have done a step -/
theorem DeskAt.both {w w1 w2 : World} {x : Nat} {F : Nat → Prop} {b m : Nat} {Fd Fm : Nat → Prop} {s s' : DS} (h : DeskAt w x F b m Fd Fm s)
    (h1 : DiskP w1 b (grow Fd w w1) s') (k1 : Keeps Fd w w1) (h2 : RefP w2 m (grow Fm w1 w2) s') (k2 : Keeps Fm w1 w2) :
    DeskP w2 x (grow F w w2) s' ∧ Keeps F w w2 := by
  have s1 := k1.size
  have s2 := k2.size
  have hd : ∀ k, grow Fd w w1 k → ¬ grow Fm w1 w2 k := by
    intro k hk hk2
    rcases hk with hk | hk <;> rcases hk2 with hk2 | hk2
    · exact h.dis k hk hk2
    · have := h.lt k (h.fd k hk); omega
    · have := h.lt k (h.fm k hk2); omega
    · omega
  have hxl := h.lt x h.fx
  refine ⟨⟨b, m, grow Fd w w1, grow Fm w1 w2, ?_⟩, ?_⟩
  · exact {
      head := k2.heap (k1.heap h.head h.xd) h.xm
      disk := h1.keep k2 fun k hk e => hd k hk (.inl e)
      ref := h2
      dis := hd
      xd := fun e => by
        rcases e with e | e
        · exact h.xd e
        · omega
      xm := fun e => by
        rcases e with e | e
        · exact h.xm e
        · omega
      fx := .inl h.fx
      fd := fun k e => by
        rcases e with e | e
        · exact .inl (h.fd k e)
        · exact .inr ⟨e.1, by omega⟩
      fm := fun k e => by
        rcases e with e | e
        · exact .inl (h.fm k e)
        · exact .inr ⟨by omega, e.2⟩
      lt := grow_lt h.lt (by omega) }
  · exact (k1.mono fun k _ e => h.fd k e).trans' k2 fun k _ e => h.fm k e

def DS.act (s : DS) (k o n : Int) (t : List UInt8) : DS :=
  if k % 8 = 4 then s.sync else if k % 8 = 5 then s else if k % 8 = 6 then s.fail (n % 9 - 1) else if k % 8 = 7 then s.crash (surviveL n) else s.write (whereL o) (longL n t)

theorem DS.Fine.act {s : DS} {m : Nat} (h : s.Fine m) (k o n : Int) (t : List UInt8) : (s.act k o n t).Fine (m + 201) := by
  unfold DS.act
  split
  · exact h.sync.mono (by omega)
  · split
    · exact h.mono (by omega)
    · split
      · exact (h.fail _ (by omega)).mono (by omega)
      · split
        · exact (h.crash _).mono (by omega)
        · exact (h.write _ _).mono (by have := length_longL n t; omega)

/-- the end of an act -/
def DoPost (x : Nat) (F : Nat → Prop) (s : DS) (w : World) (e : Ending) (w' : World) : Prop :=
  e = .returned (.bool true) ∧ DeskP w' x (grow F w w') s ∧ Keeps F w w'

theorem DoPost.from {x : Nat} {F : Nat → Prop} {s : DS} {w w0 w' : World} (k0 : Keeps noBlock w w0) (hlt : ∀ k, F k → k < w.heap.size) (h : DeskP w' x (grow F w0 w') s ∧ Keeps F w0 w') : DeskP w' x (grow F w w') s ∧ Keeps F w w' := by
  have s0 := k0.size
  have s1 := h.2.size
  refine ⟨?_, (k0.mono fun _ _ e => e.elim).trans h.2⟩
  obtain ⟨b, m, Fd, Fm, hd⟩ := h.1
  have hg : ∀ k, grow F w0 w' k → grow F w w' k := fun k e => by
    rcases e with e | e
    · exact .inl e
    · exact .inr ⟨by omega, e.2⟩
  exact ⟨b, m, Fd, Fm, { hd with fx := hg _ hd.fx, fd := fun k e => hg _ (hd.fd k e), fm := fun k e => hg _ (hd.fm k e), lt := grow_lt hlt (by omega) }⟩

set_option maxHeartbeats 400000 in
theorem do_sync (w : World) (x : Nat) (F : Nat → Prop) (s : DS) (c : Nat) (k o n : Int) (t : List UInt8) (h : DeskP w x F s) (hf : s.Fine c) (hc : c ≤ 1099511627776) (hk : k % 8 = 4) :
    Calls Try.prog 16 #[.pointer (some ⟨x, 0, none⟩), act k o n t] w (DoPost x F (s.sync) w) := by
  obtain ⟨b, m, Fd, Fm, h⟩ := h
  unfold act
  have HK := Lib.hid hk; clear hk
  have HF := Lib.hid hf; clear hf
  obtain ⟨w0, hw0⟩ : ∃ w0 : World, w0 = w.alloc (.cells #[.int .i64 k, .int .i64 o, .int .i64 n, .string (str t)] 33) := ⟨_, rfl⟩
  have k0 : Keeps noBlock w w0 := by rw [hw0]; exact (Keeps.refl _ _).alloc _
  have h0 := h.keep k0 (fun _ _ e => e)
  have x0 : w0.cell? ⟨w.heap.size, 0, none⟩ = some (.int .i64 k) := by rw [hw0]; simp
  have x1 : w0.cell? ⟨w.heap.size, 1, none⟩ = some (.int .i64 o) := by rw [hw0]; simp
  have x2 : w0.cell? ⟨w.heap.size, 2, none⟩ = some (.int .i64 n) := by rw [hw0]; simp
  have x3 : w0.cell? ⟨w.heap.size, 3, none⟩ = some (.string (str t)) := by rw [hw0]; simp
  obtain ⟨d0, d1⟩ := h0.cells
  have HW := Lib.hid hw0
  have H := Lib.hid h
  have H0 := Lib.hid h0
  have hb0 : w.heap.size < w0.heap.size := by rw [hw0]; simp
  clear hw0 h h0
  have hd : DiskP w0.drew b Fd s := H0.out.disk.keep (Keeps.refl noBlock w0).drew (fun _ _ e => e)
  have hr : RefP w0.drew m Fm s := H0.out.ref.keep (Keeps.refl noBlock w0).drew (fun _ _ e => e)
  have hnd : ¬ Fd w.heap.size := fun e => Nat.lt_irrefl _ (H.out.disk.lt _ e)
  have hnm : ¬ Fm w.heap.size := fun e => Nat.lt_irrefl _ (H.out.ref.lt _ e)
  have HD := Lib.hid hd
  have HR := Lib.hid hr
  have HND := Lib.hid hnd
  have HNM := Lib.hid hnm
  clear hd hr hnd hnm
  go_enter Try.func16, Try.ntmps16
  go_wp2_with fail
  rw [← HW.out]
  refine (mod_any k 8 _ (by omega) (by omega)).mono ?_
  rintro e w1 ⟨rfl, rfl⟩
  rw [HK.out]
  clear x0 x1 x2 x3 hb0
  go_wp2_with fail
  go_region_held3 (fun w' => w'.cell? ⟨x, 0, none⟩ = some (.pointer (some ⟨b, 0, none⟩)) ∧ w'.cell? ⟨x, 1, none⟩ = some (.pointer (some ⟨m, 0, none⟩)))
    (first
      | go_keep
      | (go_split_ands; exact ⟨k1.cell d0 H0.out.xd, k1.cell d1 H0.out.xd⟩)
      | (go_split_ands; exact ⟨k2.cell (k1.cell d0 H0.out.xd) H0.out.xm, k2.cell (k1.cell d1 H0.out.xd) H0.out.xm⟩))
    (first
      | (go_at_call 28; refine (sync_any _ b Fd s c HD.out HF.out (by omega)).mono ?_; rintro e w1 ⟨rfl, h1, k1⟩)
      | (go_at_call 33; refine (rsync_any _ m Fm s c (HR.out.keep k1 (fun k e e2 => H0.out.dis k e2 e)) HF.out (by omega)).mono ?_; rintro e w2 ⟨rfl, h2, k2⟩))
  go_wp2_with fail
  go_ret
  exact ⟨rfl, DoPost.from (k0.drew) H.out.lt ((H0.out.keep (Keeps.refl noBlock w0).drew (fun _ _ e => e)).both h1 k1 h2 k2)⟩

set_option maxHeartbeats 400000 in
theorem do_fail (w : World) (x : Nat) (F : Nat → Prop) (s : DS) (c : Nat) (k o n : Int) (t : List UInt8) (h : DeskP w x F s) (hf : s.Fine c) (hc : c ≤ 1099511627776) (hk : k % 8 = 6) :
    Calls Try.prog 16 #[.pointer (some ⟨x, 0, none⟩), act k o n t] w (DoPost x F (s.fail (n % 9 - 1)) w) := by
  obtain ⟨b, m, Fd, Fm, h⟩ := h
  unfold act
  have HK := Lib.hid hk; clear hk
  have HF := Lib.hid hf; clear hf
  obtain ⟨w0, hw0⟩ : ∃ w0 : World, w0 = w.alloc (.cells #[.int .i64 k, .int .i64 o, .int .i64 n, .string (str t)] 33) := ⟨_, rfl⟩
  have k0 : Keeps noBlock w w0 := by rw [hw0]; exact (Keeps.refl _ _).alloc _
  have h0 := h.keep k0 (fun _ _ e => e)
  have x0 : w0.cell? ⟨w.heap.size, 0, none⟩ = some (.int .i64 k) := by rw [hw0]; simp
  have x1 : w0.cell? ⟨w.heap.size, 1, none⟩ = some (.int .i64 o) := by rw [hw0]; simp
  have x2 : w0.cell? ⟨w.heap.size, 2, none⟩ = some (.int .i64 n) := by rw [hw0]; simp
  have x3 : w0.cell? ⟨w.heap.size, 3, none⟩ = some (.string (str t)) := by rw [hw0]; simp
  obtain ⟨d0, d1⟩ := h0.cells
  have HW := Lib.hid hw0
  have H := Lib.hid h
  have H0 := Lib.hid h0
  have hb0 : w.heap.size < w0.heap.size := by rw [hw0]; simp
  clear hw0 h h0
  have hd : DiskP w0.drew b Fd s := H0.out.disk.keep (Keeps.refl noBlock w0).drew (fun _ _ e => e)
  have hr : RefP w0.drew m Fm s := H0.out.ref.keep (Keeps.refl noBlock w0).drew (fun _ _ e => e)
  have hnd : ¬ Fd w.heap.size := fun e => Nat.lt_irrefl _ (H.out.disk.lt _ e)
  have hnm : ¬ Fm w.heap.size := fun e => Nat.lt_irrefl _ (H.out.ref.lt _ e)
  have HD := Lib.hid hd
  have HR := Lib.hid hr
  have HND := Lib.hid hnd
  have HNM := Lib.hid hnm
  clear hd hr hnd hnm
  go_enter Try.func16, Try.ntmps16
  go_wp2_with fail
  rw [← HW.out]
  refine (mod_any k 8 _ (by omega) (by omega)).mono ?_
  rintro e w1 ⟨rfl, rfl⟩
  rw [HK.out]
  clear x0 x1 x3 hb0
  go_wp2_with fail
  refine (mod_any n 9 _ (by omega) (by omega)).mono ?_
  rintro e w1 ⟨rfl, rfl⟩
  have hn : IntKind.i64.wrap (n % 9 - 1) = n % 9 - 1 := by rw [IntWalk.i64_in _ (by omega)]
  obtain ⟨j, hj⟩ : ∃ j, j = n % 9 - 1 := ⟨_, rfl⟩
  go_wp2_with fail
  refine (fail_any (n % 9 - 1) w0 b Fd s H0.out.disk).mono ?_
  rintro e w1 ⟨rfl, h1, k1⟩
  have e1 := k1.cell d1 H0.out.xd
  have HH1 := Lib.hid h1; clear h1
  have HK1 := Lib.hid k1; clear k1
  go_wp2_with fail
  refine (rfail_any (n % 9 - 1) w1 m Fm s (H0.out.ref.keep HK1.out (fun k e e2 => H0.out.dis k e2 e))).mono ?_
  rintro e w2 ⟨rfl, h2, k2⟩
  go_wp2_with fail
  go_ret
  exact ⟨rfl, DoPost.from k0 H.out.lt (H0.out.both HH1.out HK1.out h2 k2)⟩

set_option maxHeartbeats 400000 in
theorem do_read (w : World) (x : Nat) (F : Nat → Prop) (s : DS) (c : Nat) (k o n : Int) (t : List UInt8) (h : DeskP w x F s) (hf : s.Fine c) (hc : c ≤ 1099511627776) (hk : k % 8 = 5) (hn1 : n ≤ 9223372036854775807) :
    Calls Try.prog 16 #[.pointer (some ⟨x, 0, none⟩), act k o n t] w (DoPost x F (s) w) := by
  obtain ⟨b, m, Fd, Fm, h⟩ := h
  unfold act
  have HK := Lib.hid hk; clear hk
  have HF := Lib.hid hf; clear hf
  obtain ⟨w0, hw0⟩ : ∃ w0 : World, w0 = w.alloc (.cells #[.int .i64 k, .int .i64 o, .int .i64 n, .string (str t)] 33) := ⟨_, rfl⟩
  have k0 : Keeps noBlock w w0 := by rw [hw0]; exact (Keeps.refl _ _).alloc _
  have h0 := h.keep k0 (fun _ _ e => e)
  have x0 : w0.cell? ⟨w.heap.size, 0, none⟩ = some (.int .i64 k) := by rw [hw0]; simp
  have x1 : w0.cell? ⟨w.heap.size, 1, none⟩ = some (.int .i64 o) := by rw [hw0]; simp
  have x2 : w0.cell? ⟨w.heap.size, 2, none⟩ = some (.int .i64 n) := by rw [hw0]; simp
  have x3 : w0.cell? ⟨w.heap.size, 3, none⟩ = some (.string (str t)) := by rw [hw0]; simp
  obtain ⟨d0, d1⟩ := h0.cells
  have HW := Lib.hid hw0
  have H := Lib.hid h
  have H0 := Lib.hid h0
  have hb0 : w.heap.size < w0.heap.size := by rw [hw0]; simp
  clear hw0 h h0
  have hd : DiskP w0.drew b Fd s := H0.out.disk.keep (Keeps.refl noBlock w0).drew (fun _ _ e => e)
  have hr : RefP w0.drew m Fm s := H0.out.ref.keep (Keeps.refl noBlock w0).drew (fun _ _ e => e)
  have hnd : ¬ Fd w.heap.size := fun e => Nat.lt_irrefl _ (H.out.disk.lt _ e)
  have hnm : ¬ Fm w.heap.size := fun e => Nat.lt_irrefl _ (H.out.ref.lt _ e)
  have HD := Lib.hid hd
  have HR := Lib.hid hr
  have HND := Lib.hid hnd
  have HNM := Lib.hid hnm
  clear hd hr hnd hnm
  go_enter Try.func16, Try.ntmps16
  go_wp2_with fail
  rw [← HW.out]
  refine (mod_any k 8 _ (by omega) (by omega)).mono ?_
  rintro e w1 ⟨rfl, rfl⟩
  rw [HK.out]
  have hnow : s.now.length ≤ 16777216 := HF.out.now
  have tok1 : True := trivial
  go_wp2_with fail
  go_region_held3 (fun w' => w'.cell? ⟨x, 0, none⟩ = some (.pointer (some ⟨b, 0, none⟩)) ∧ w'.cell? ⟨x, 1, none⟩ = some (.pointer (some ⟨m, 0, none⟩)) ∧ w'.cell? ⟨w.heap.size, 0, none⟩ = some (.int .i64 k) ∧ w'.cell? ⟨w.heap.size, 1, none⟩ = some (.int .i64 o) ∧ w'.cell? ⟨w.heap.size, 2, none⟩ = some (.int .i64 n) ∧ w'.cell? ⟨w.heap.size, 3, none⟩ = some (.string (str t)))
    (first
      | go_keep
      | (go_split_ands; exact ⟨k4.cell (by assumption) (fun h => h), k4.cell (by assumption) (fun h => h), k4.cell (by assumption) (fun h => h), k4.cell (by assumption) (fun h => h), k4.cell (by assumption) (fun h => h), k4.cell (by assumption) (fun h => h)⟩)
      | (go_split_ands; exact ⟨k3.cell (by assumption) (fun h => h), k3.cell (by assumption) (fun h => h), k3.cell (by assumption) (fun h => h), k3.cell (by assumption) (fun h => h), k3.cell (by assumption) (fun h => h), k3.cell (by assumption) (fun h => h)⟩)
      | (go_split_ands; exact ⟨k2.cell (by assumption) (fun h => h), k2.cell (by assumption) (fun h => h), k2.cell (by assumption) (fun h => h), k2.cell (by assumption) (fun h => h), k2.cell (by assumption) (fun h => h), k2.cell (by assumption) (fun h => h)⟩)
      | (go_split_ands; exact ⟨k1.cell (by assumption) (fun h => h), k1.cell (by assumption) (fun h => h), k1.cell (by assumption) (fun h => h), k1.cell (by assumption) (fun h => h), k1.cell (by assumption) (fun h => h), k1.cell (by assumption) (fun h => h)⟩)
    )
    (first
      | (go_at_call 34; have _t := tok1; refine (where_any k o n t _).mono ?_; clear _t tok1; rintro e w1 ⟨rfl, k1⟩)
      | (go_at_call 34; refine (where_any k o n t _).mono ?_; rintro e w3 ⟨rfl, k3⟩)
      | (go_at_call 29; refine (read_any _ b Fd s (whereL o) n (HD.out.keep k1 (fun _ _ e => e)) hnow hn1).mono ?_; rintro e w2 ⟨rfl, n2, hw2⟩; have k2 : Keeps noBlock w1 w2 := (by rw [hw2]; exact (Keeps.refl _ _).drewN n2); clear hw2)
      | (go_at_call 31; refine (rread_any _ m Fm s (whereL o) n (((HR.out.keep k1 (fun _ _ e => e)).keep k2 (fun _ _ e => e)).keep k3 (fun _ _ e => e)) hnow hn1).mono ?_; rintro e w4 ⟨rfl, n4, hw4⟩; have k4 : Keeps noBlock w3 w4 := (by rw [hw4]; exact (Keeps.refl _ _).drewN n4); clear hw4))
  go_wp2_with fail
  go_ret
  have kk := ((((k0.drew).trans k1).trans k2).trans k3).trans k4
  refine ⟨rfl, ?_, kk.mono fun _ _ e => e.elim⟩
  have hh := H.out.keep kk (fun _ _ e => e)
  exact ⟨b, m, Fd, Fm, { hh with fx := .inl H.out.fx, fd := fun k e => .inl (H.out.fd k e), fm := fun k e => .inl (H.out.fm k e), lt := grow_lt H.out.lt kk.size }⟩

end Go.Proofs.Ytmigbpfeobjhkaa
