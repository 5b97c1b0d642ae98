/-
  The contracts of the law's own model of a disk (cocycleref27): each method does what the plain model says. Conditions: the model's bounds (Fine).
-/
import Derived.Test.YtmigbpfeobjhkaaDCrash
namespace Go.Proofs.Ytmigbpfeobjhkaa
open Go Go.RowKit
attribute [local go_sem ↓] Go.wp_at_zero Go.wp_at_succ

def RefPost (b : Nat) (F : Nat → Prop) (s : DS) (v : Value) (w : World) (e : Ending) (w' : World) : Prop :=
  e = .returned v ∧ RefP w' b (grow F w w') s ∧ Keeps F w w'

theorem RefAt.cells {w : World} {b : Nat} {F : Nat → Prop} {s : DS} {lv : Value} {c : Bool} {l : Int} (h : RefAt w b F s lv c l) :
    w.cell? ⟨b, 0, none⟩ = some (.string (str s.now)) ∧ w.cell? ⟨b, 1, none⟩ = some (.string (str s.syn)) ∧ w.cell? ⟨b, 2, none⟩ = some lv ∧ w.cell? ⟨b, 3, none⟩ = some (.int .i64 (s.calls : Int)) ∧ w.cell? ⟨b, 4, none⟩ = some (.int .i64 l) ∧ w.cell? ⟨b, 5, none⟩ = some (.bool c) :=
  ⟨by rw [cell_of_heap h.head]; rfl, by rw [cell_of_heap h.head]; rfl, by rw [cell_of_heap h.head]; rfl, by rw [cell_of_heap h.head]; rfl, by rw [cell_of_heap h.head]; rfl, by rw [cell_of_heap h.head]; rfl⟩
theorem RefAt.free {w : World} {b : Nat} {F : Nat → Prop} {s : DS} {lv : Value} {c : Bool} {l : Int} (h : RefAt w b F s lv c l) (i : Nat) : w.frozen? ⟨b, i, none⟩ = false := frozen_of_heap h.head i

/-- a world in which the header alone has turned -/
theorem RefAt.scal {w w' : World} {b : Nat} {F : Nat → Prop} {s s' : DS} {lv : Value} {c c' : Bool} {l l' : Int} (h : RefAt w b F s lv c l) (hk : Keeps (fun k => k = b) w w') (hp : s'.parts = s.parts)
    (hh : w'.heap[b]? = some (.cells #[.string (str s'.now), .string (str s'.syn), lv, .int .i64 (s'.calls : Int), .int .i64 l', .bool c'] 64 (0, 0))) (hpow : RPower s'.lim c' l') : RefAt w' b (grow F w w') s' lv c' l' where
  head := hh
  fb := .inl h.fb
  parts := by rw [hp]; exact hk.owns h.parts fun k e e2 => owns_ne_block h.parts h.head (by decide) (e2 ▸ e)
  fparts := fun k e => .inl (h.fparts k e)
  pow := hpow
  lt := grow_lt h.lt hk.size

theorem rnew_any (w : World) :
    Calls Try.prog 15 #[] w (RefPost w.heap.size noBlock DS.zero (.pointer (some ⟨w.heap.size, 0, none⟩)) w) := by
  go_enter Try.func15, Try.ntmps15
  go_wp2
  go_ret
  refine ⟨rfl, ⟨.slice none 0 0, false, 0, ?_⟩, (Keeps.refl _ _).alloc _⟩
  exact ⟨heap_alloc_at, .inr ⟨Nat.le_refl _, by simp⟩, World.ownsRow_nil _ _ _ _, fun k h => (own_none.1 h).elim, rfl, grow_lt (fun _ h => h.elim) (by simp)⟩

theorem rsize_any (w : World) (b : Nat) (F : Nat → Prop) (s : DS) (h : RefP w b F s) :
    Calls Try.prog 18 #[.pointer (some ⟨b, 0, none⟩)] w fun e w' => e = .returned (.int .i64 (s.now.length : Int)) ∧ w = w' := by
  obtain ⟨lv, c, l, h⟩ := h
  obtain ⟨c0, _⟩ := h.cells
  have hsz := size_str s.now
  have H := Lib.hid h; clear h
  go_enter Try.func18, Try.ntmps18
  go_wp2
  go_ret
  exact ⟨rfl, rfl⟩

theorem rcalls_any (w : World) (b : Nat) (F : Nat → Prop) (s : DS) (h : RefP w b F s) :
    Calls Try.prog 20 #[.pointer (some ⟨b, 0, none⟩)] w fun e w' => e = .returned (.int .i64 (s.calls : Int)) ∧ w = w' := by
  obtain ⟨lv, c, l, h⟩ := h
  obtain ⟨_, _, _, c3, _⟩ := h.cells
  have H := Lib.hid h; clear h
  go_enter Try.func20, Try.ntmps20
  go_wp2
  go_ret
  exact ⟨rfl, rfl⟩

theorem rfail_any (n : Int) (w : World) (b : Nat) (F : Nat → Prop) (s : DS) (h : RefP w b F s) :
    Calls Try.prog 35 #[.pointer (some ⟨b, 0, none⟩), .int .i64 n] w (RefPost b F (s.fail n) (.tuple #[]) w) := by
  obtain ⟨lv, c, l, h⟩ := h
  obtain ⟨c0, c1, c2, c3, c4, c5⟩ := h.cells
  have f4 := h.free 4
  have f5 := h.free 5
  have H := Lib.hid h; clear h c0 c1 c2 c3
  go_enter Try.func35, Try.ntmps35
  go_wp2
  go_end0
  have hk := ((Keeps.refl (fun k => k = b) w).setCell (p := ⟨b, 5, none⟩) (fun _ => rfl) (.bool (decide (0 ≤ n)))).setCell (p := ⟨b, 4, none⟩) (fun _ => rfl) (.int .i64 n)
  refine ⟨rfl, ⟨lv, decide (0 ≤ n), n, ?_⟩, hk.mono fun k _ e => e ▸ H.out.fb⟩
  refine H.out.scal hk rfl (heap_set (heap_set H.out.head)) ?_
  by_cases hn : n < 0
  · simp only [DS.fail, if_pos hn, RPower]; simp; omega
  · simp only [DS.fail, if_neg hn, RPower]; simp; omega

/-- 'off' -/
def OffPost (b : Nat) (F : Nat → Prop) (s : DS) (w : World) (e : Ending) (w' : World) : Prop :=
  e = .returned (.bool s.off) ∧ RefP w' b (grow F w w') (if s.off then s else s.counted) ∧ Keeps (fun k => k = b) w w'

theorem roff_any (w : World) (b : Nat) (F : Nat → Prop) (s : DS) (n : Nat) (h : RefP w b F s) (hf : s.Fine n) (hn : n ≤ 4611686018427387904) :
    Calls Try.prog 41 #[.pointer (some ⟨b, 0, none⟩)] w (OffPost b F s w) := by
  obtain ⟨lv, c, l, h⟩ := h
  obtain ⟨c0, c1, c2, c3, c4, c5⟩ := h.cells
  have f3 := h.free 3
  have f4 := h.free 4
  have hcalls : s.calls ≤ 4611686018427387904 := Nat.le_trans hf.calls hn
  have hp := h.pow
  have hlim := hf.lim
  have H := Lib.hid h; clear h c0 c1 c2 hf hn
  obtain ⟨L, hL⟩ : ∃ L, L = s.lim := ⟨_, rfl⟩
  rw [← hL] at hp hlim
  cases L with
  | none =>
    have hp : c = false := hp
    subst hp
    have hoff : s.off = false := by simp [DS.off, ← hL]
    have HL := Lib.hid hL; clear hL hlim
    have HO := Lib.hid hoff; clear hoff
    go_enter Try.func41, Try.ntmps41
    go_wp2
    go_ret
    have hk := ((Keeps.refl (fun k => k = b) w).setCell (p := ⟨b, 4, none⟩) (fun _ => rfl) (.int .i64 (wrap64 (l - 1)))).setCell (p := ⟨b, 3, none⟩) (fun _ => rfl) (.int .i64 ((s.calls : Int) + 1))
    refine ⟨by rw [HO.out]; rfl, ?_, hk⟩
    rw [HO.out]
    exact ⟨lv, false, wrap64 (l - 1), H.out.scal (s' := s.counted) hk rfl (heap_set (heap_set H.out.head)) (by simp only [DS.counted, ← HL.out]; rfl)⟩
  | some k =>
    obtain ⟨hp, hl⟩ : c = true ∧ l = k := hp
    subst hp; subst hl
    have hlk := hlim k rfl
    clear hlim
    by_cases hk0 : k = 0
    · subst hk0
      have hoff : s.off = true := by simp [DS.off, ← hL]
      have HL := Lib.hid hL; clear hL
      have HO := Lib.hid hoff; clear hoff
      go_enter Try.func41, Try.ntmps41
      go_wp2
      go_ret
      refine ⟨by rw [HO.out]; rfl, ?_, Keeps.refl _ _⟩
      rw [HO.out]
      exact ⟨lv, true, 0, H.out.scal (s' := s) (Keeps.refl _ _) rfl H.out.head (by rw [← HL.out]; exact ⟨rfl, rfl⟩)⟩
    · have hoff : s.off = false := by simp [DS.off, ← hL, hk0]
      have HL := Lib.hid hL; clear hL
      have HO := Lib.hid hoff; clear hoff
      have hkb : ((k : Int) == 0) = false := by simp [hk0]
      go_enter Try.func41, Try.ntmps41
      go_wp2
      go_ret
      have hk := ((Keeps.refl (fun k => k = b) w).setCell (p := ⟨b, 4, none⟩) (fun _ => rfl) (.int .i64 ((k : Int) - 1))).setCell (p := ⟨b, 3, none⟩) (fun _ => rfl) (.int .i64 ((s.calls : Int) + 1))
      refine ⟨by rw [HO.out]; rfl, ?_, hk⟩
      rw [HO.out]
      exact ⟨lv, true, (k : Int) - 1, H.out.scal (s' := s.counted) hk rfl (heap_set (heap_set H.out.head)) (by simp only [DS.counted, ← HL.out]; exact ⟨rfl, by show (k : Int) - 1 = ((k - 1 : Nat) : Int); omega⟩)⟩

theorem roff_off (w : World) (b : Nat) (F : Nat → Prop) (s : DS) (n : Nat) (h : RefP w b F s) (hf : s.Fine n) (hn : n ≤ 4611686018427387904) (ho : s.off = true) :
    Calls Try.prog 41 #[.pointer (some ⟨b, 0, none⟩)] w (fun e w' => e = .returned (.bool true) ∧ RefP w' b (grow F w w') s ∧ Keeps (fun k => k = b) w w') :=
  (roff_any w b F s n h hf hn).mono fun e w' ⟨he, h1, h2⟩ => ⟨by rw [he, ho], by rw [if_pos ho] at h1; exact h1, h2⟩
theorem roff_on (w : World) (b : Nat) (F : Nat → Prop) (s : DS) (n : Nat) (h : RefP w b F s) (hf : s.Fine n) (hn : n ≤ 4611686018427387904) (ho : s.off = false) :
    Calls Try.prog 41 #[.pointer (some ⟨b, 0, none⟩)] w (fun e w' => e = .returned (.bool false) ∧ RefP w' b (grow F w w') s.counted ∧ Keeps (fun k => k = b) w w') :=
  (roff_any w b F s n h hf hn).mono fun e w' ⟨he, h1, h2⟩ => ⟨by rw [he, ho], by rw [if_neg (by rw [ho]; simp)] at h1; exact h1, h2⟩

theorem rsync_any (w : World) (b : Nat) (F : Nat → Prop) (s : DS) (n : Nat) (h : RefP w b F s) (hf : s.Fine n) (hn : n ≤ 4611686018427387904) :
    Calls Try.prog 33 #[.pointer (some ⟨b, 0, none⟩)] w (RefPost b F s.sync (.int .i64 s.syncR) w) := by
  have H := Lib.hid h; clear h
  have HF := Lib.hid hf; clear hf
  cases ho : s.off with
  | true =>
    have HO := Lib.hid ho; clear ho
    go_enter Try.func33, Try.ntmps33
    go_wp2_with fail
    refine (roff_off w b F s n H.out HF.out hn HO.out).mono ?_
    rintro e w1 ⟨rfl, h1, k1⟩
    go_wp2_with fail
    go_ret
    refine ⟨by rw [DS.syncR, if_pos HO.out]; rfl, by rw [DS.sync, if_pos HO.out]; exact h1, k1.mono fun k _ e => e ▸ H.out.fb⟩
  | false =>
    have HO := Lib.hid ho; clear ho
    go_enter Try.func33, Try.ntmps33
    go_wp2_with fail
    refine (roff_on w b F s n H.out HF.out hn HO.out).mono ?_
    rintro e w1 ⟨rfl, h1, k1⟩
    obtain ⟨lv, c, l, h1⟩ := h1
    obtain ⟨c0, c1, c2, c3, c4, c5⟩ := h1.cells
    have f1 := h1.free 1
    have f2 := h1.free 2
    obtain ⟨o, cap, rfl, _⟩ := owns_form h1.parts
    have H1 := Lib.hid h1; clear h1 c3 c4 c5
    go_wp2_with fail
    go_ret
    have hk := ((Keeps.refl (fun k => k = b) w1).setCell (p := ⟨b, 1, none⟩) (fun _ => rfl) (.string (str s.counted.now))).setCell (p := ⟨b, 2, none⟩) (fun _ => rfl) (.slice none 0 0)
    have s01 := k1.size
    refine ⟨by rw [DS.syncR, HO.out]; rfl, ⟨.slice none 0 0, c, l, ?_⟩, (k1.trans hk).mono fun k _ e => e ▸ H.out.fb⟩
    rw [show s.sync = s.synced by rw [DS.sync, HO.out]; rfl]
    exact {
      head := heap_set (heap_set H1.out.head)
      fb := .inl H.out.fb
      parts := World.ownsRow_nil _ _ _ _
      fparts := fun k h => (own_none.1 h).elim
      pow := H1.out.pow
      lt := grow_lt H.out.lt (by simp; omega) }

/-- a string in the loop of Put -/
def RPutRel (w : World) (c : List UInt8) (off : Nat) (v : Value) (wr : World) : Prop :=
  ∃ d : List UInt8, v = .string (str d) ∧ ((d = c) ∨ (c.length < off ∧ d = c ++ List.replicate (off - c.length) 0)) ∧ Keeps noBlock w wr

def RPutPost (c : List UInt8) (w : World) (e : Ending) (w' : World) : Prop := e = .returned (.string (str c)) ∧ Keeps noBlock w w'

theorem putL_pad (c : List UInt8) (off : Nat) (s : List UInt8) (h : c.length < off) : putL c off s = c ++ List.replicate (off - c.length) 0 ++ s := by
  unfold putL splice
  have h1 : List.take off (c ++ List.replicate (off + s.length - c.length) 0) = c ++ List.replicate (off - c.length) 0 := by
    rw [List.take_append, List.take_of_length_le (by omega), List.take_replicate]
    congr 2; omega
  have h2 : List.drop (off + s.length) (c ++ List.replicate (off + s.length - c.length) 0) = [] := List.drop_of_length_le (by simp; omega)
  rw [h1, h2]; simp
theorem putL_over (c : List UInt8) (off : Nat) (s : List UInt8) (h : off ≤ c.length) (h2 : c.length ≤ off + s.length) : putL c off s = c.take off ++ s := by
  unfold putL splice
  have h1 : List.take off (c ++ List.replicate (off + s.length - c.length) 0) = c.take off := List.take_append_of_le_length h
  have h3 : List.drop (off + s.length) (c ++ List.replicate (off + s.length - c.length) 0) = [] := List.drop_of_length_le (by simp; omega)
  rw [h1, h3]; simp
theorem putL_in (c : List UInt8) (off : Nat) (s : List UInt8) (h : off + s.length ≤ c.length) : putL c off s = c.take off ++ s ++ c.drop (off + s.length) := by
  unfold putL splice
  rw [Nat.sub_eq_zero_of_le h]; simp

set_option maxHeartbeats 400000 in
theorem rput_any (c : List UInt8) (off : Nat) (s : List UInt8) (w : World) (hc : c.length ≤ 16777216) (ho : off + s.length ≤ 16777216) :
    Calls Try.prog 39 #[.string (str c), .int .i64 off, .string (str s)] w (RPutPost (putL c off s) w) := by
  obtain ⟨i0, hi, hz0, hz1, hz2⟩ := info_parts infoU8
  have hsc := size_str c
  have hss := size_str s
  go_enter Try.func39, Try.ntmps39
  go_wp2_with fail
  go_loopw [0] (RPutRel w c off) (fun v _ => off - strLen v)
  case atStart => exact ⟨c, rfl, .inl rfl, Keeps.refl _ _⟩
  case round =>
    obtain ⟨d, rfl, hd, hk⟩ := hrel
    have HK := Lib.hid hk; clear hk
    have hsd := size_str d
    by_cases hlt : d.length < off
    · have hdc : d = c := by
        rcases hd with h | ⟨h1, h2⟩
        · exact h
        · rw [h2] at hlt; simp at hlt; omega
      clear hd
      subst hdc
      obtain ⟨r, hr⟩ : ∃ r : Nat, off = d.length + r := ⟨off - d.length, by omega⟩
      have hsub : IntKind.i64.wrap ((off : Int) - (d.length : Int)) = (r : Int) := by rw [IntWalk.i64_in _ (by omega)]; omega
      have HR := Lib.hid hr; clear hr
      go_wp2_with fail
      obtain ⟨w1, hrun, hown1, hgrow1⟩ := run_make_full (P := Try.prog) wr 0 56 5 i0 (.int .u8 0) 1 Try.underlying56 hi hz0 hz1 .i64 .i64 r (by have := HR.out; rw [hz2]; omega) (by have := HR.out; unfold maxLen; omega) (Nat.zero_le _)
      rw [hrun]
      clear hrun
      rw [Nat.mul_one, bvs_zeros] at hown1
      have k1 : Keeps noBlock wr w1 := (Keeps.refl _ _).grown hgrow1 (by simp)
      have hcv := run_string_of (P := Try.prog) w1 56 9 5 (some ⟨wr.heap.size, 0, none⟩) r r (List.replicate r 0) Try.underlying56 Try.underlying5 Try.underlying9 (by simp)
        (fun _ => ⟨_, rfl, fun j hj => by rw [addr_add]; have := owns_cells hown1 _ rfl j (bv 0) (by simp at hj; simp [bvs, hj]); rw [addr_add] at this; simpa using this⟩)
      have hadd := fun W => run_add_str (P := Try.prog) d (List.replicate r 0) (by have := HR.out; simp; omega) W
      clear hown1 hgrow1
      go_wp2_with fail
      go_roundw
      case rel =>
        have hr := HR.out
        exact ⟨_, rfl, .inr ⟨by omega, by rw [hr, Nat.add_sub_cancel_left]⟩, HK.out.trans k1⟩
      case measure =>
        show off - (str _).size < off - (str _).size
        have hr := HR.out
        rw [size_str, size_str]; simp; omega
    · have hdl : d.length ≤ 16777216 := by
        rcases hd with h | ⟨h1, h2⟩
        · rw [h]; exact hc
        · rw [h2]; simp; omega
      have hput : putL c off s = if d.length ≤ off + s.length then d.take off ++ s else d.take off ++ s ++ d.drop (off + s.length) := by
        rcases hd with h | ⟨h1, h2⟩
        · subst h
          split
          · exact putL_over _ _ _ (by omega) (by omega)
          · exact putL_in _ _ _ (by omega)
        · have hl : d.length = off := by rw [h2]; simp; omega
          rw [if_pos (by omega), putL_pad c off s h1, ← h2, List.take_of_length_le (by omega)]
      have HP := Lib.hid hput
      have hs1 := fun W => run_slice_str_to (P := Try.prog) 9 Try.underlying9 d .i64 off (by omega) W
      have hadd := fun W => run_add_str (P := Try.prog) (d.take off) s (by simp; omega) W
      clear hput hd hsc hc
      by_cases hover : d.length ≤ off + s.length
      · have hle : (d.length : Int) ≤ (off : Int) + (s.length : Int) := by omega
        go_wp2_with fail
        go_ret
        exact ⟨by rw [HP.out, if_pos hover]; rfl, HK.out⟩
      · have hle : (off : Int) + (s.length : Int) < (d.length : Int) := by omega
        have hs2 := fun W => run_slice_str_from (P := Try.prog) 9 Try.underlying9 d .i64 (off + s.length) (by omega) W
        rw [Int.natCast_add] at hs2
        have hadd2 := fun W => run_add_str (P := Try.prog) (d.take off ++ s) (d.drop (off + s.length)) (by simp; omega) W
        go_wp2_with fail
        go_quiet (fail)
        go_wp2_with fail
        go_ret
        exact ⟨by rw [HP.out, if_neg hover, List.append_assoc]; rfl, HK.out.drewN _⟩
end Go.Proofs.Ytmigbpfeobjhkaa
