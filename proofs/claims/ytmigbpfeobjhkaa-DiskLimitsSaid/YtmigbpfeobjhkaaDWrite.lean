/-
  The contract of the program's Write. Conditions: the model's bounds (Fine).
-/
import Derived.Test.YtmigbpfeobjhkaaDProg
import Derived.Deep.AppendLies
import Derived.Deep.DrawnRows
namespace Go.Proofs.Ytmigbpfeobjhkaa
open Go Go.RowKit
attribute [local go_sem ↓] Go.wp_at_zero Go.wp_at_succ

theorem infoPart : (Try.prog.info? 68).map (fun i => (i.zero, i.size, i.bytes)) = some (some (.agg #[.int .i64 0, .string ⟨#[]⟩]), 2, 24) := by kernel_rfl

theorem write_bad (w : World) (v : Value) (off : Int) (t : List UInt8) (hv : v = .pointer none ∨ fits off t = false) (hp : ∃ o, v = .pointer o) (h1 : off ≤ 9223372036854775807) (h2 : t.length ≤ 4611686018427387904) :
    Calls Try.prog 27 #[v, .int .i64 off, .string (str t)] w fun e w' => e = .returned (.int .i64 1) ∧ w = w' := by
  have hsz := size_str t
  obtain ⟨o, rfl⟩ := hp
  cases o with
  | none =>
    clear hv
    go_enter Try.func27, Try.ntmps27
    go_wp2
    go_ret
    exact ⟨rfl, rfl⟩
  | some a =>
    have hb : off < 0 ∨ 16777216 - (t.length : Int) < off := by
      rcases hv with hv | hv
      · cases hv
      · simp only [fits, Bool.and_eq_false_iff, decide_eq_false_iff_not] at hv; omega
    clear hv
    by_cases h0 : off < 0
    · clear hb
      go_enter Try.func27, Try.ntmps27
      go_wp2
      go_ret
      exact ⟨rfl, rfl⟩
    · have hb : 16777216 - (t.length : Int) < off := by omega
      go_enter Try.func27, Try.ntmps27
      go_wp2
      go_ret
      exact ⟨rfl, rfl⟩

theorem write_off (w : World) (b : Nat) (F : Nat → Prop) (s : DS) (n : Nat) (off : Nat) (t : List UInt8) (h : DiskP w b F s) (hf : s.Fine n) (hn : n ≤ 4611686018427387904) (ho : s.off = true) (hfit : off + t.length ≤ 16777216) :
    Calls Try.prog 27 #[.pointer (some ⟨b, 0, none⟩), .int .i64 off, .string (str t)] w (DiskPost b F s (.int .i64 70) w) := by
  have H := Lib.hid h; clear h
  have HF := Lib.hid hf; clear hf
  have HO := Lib.hid ho; clear ho
  have hsz := size_str t
  go_enter Try.func27, Try.ntmps27
  go_wp2_with fail
  refine (call_off w b F s n H.out HF.out hn HO.out).mono ?_
  rintro e w1 ⟨rfl, h1, k1⟩
  go_wp2_with fail
  go_ret
  exact ⟨rfl, h1, k1.mono fun k _ e => e ▸ H.out.fb⟩

theorem Keeps.drewN {S : Nat → Prop} {a w : World} (h : Keeps S a w) (n : Nat) : Keeps S a (w.drewN n) := h.trans' (T := S) ⟨rfl, rfl, rfl, Nat.le_refl _, fun _ _ _ => rfl⟩ (fun _ _ h => h)

/-- one part more -/
theorem disk_append {w wr : World} {b : Nat} {F : Nat → Prop} {s : DS} {nv sv lv : Value} {p l : Int} (h : DiskAt wr b (grow F w wr) s nv sv lv p l) (hF : ∀ k, F k → k < w.heap.size) (hk : Keeps F w wr) (hb : F b) (q : Nat × List UInt8) (o : Obj) (g cap : Nat) (w4 : World)
    (hown4 : w4.ownsRow 0 68 2 (.slice (some ⟨g, 0, none⟩) (s.parts.length + 1) cap) (s.parts.length + 1) (pvs s.parts ++ pv q)) (hgrow : ((wr.alloc o).drew).grownBy w4 lv.ownBlock) (hat : lv.ownBlock = some g ∨ g = wr.heap.size + 1) (nq : Nat) :
    DiskP ((w4.setCell ⟨b, 2, none⟩ (.slice (some ⟨g, 0, none⟩) (s.parts.length + 1) cap)).drewN nq) b (grow F w ((w4.setCell ⟨b, 2, none⟩ (.slice (some ⟨g, 0, none⟩) (s.parts.length + 1) cap)).drewN nq)) { s with parts := s.parts ++ [q] } ∧
      Keeps F w ((w4.setCell ⟨b, 2, none⟩ (.slice (some ⟨g, 0, none⟩) (s.parts.length + 1) cap)).drewN nq) := by
  have k4 : Keeps (fun k => lv.ownBlock = some k) wr w4 := ((Keeps.refl _ wr).alloc o).drew.grown hgrow (fun k e _ => e)
  have hb4 : w4.heap[b]? = _ := k4.heap h.head (fun e => owns_ne_block h.parts h.head (by decide) e)
  have k5 : Keeps (fun k => k = b) w4 ((w4.setCell ⟨b, 2, none⟩ (.slice (some ⟨g, 0, none⟩) (s.parts.length + 1) cap)).drewN nq) := ((Keeps.refl (fun k => k = b) w4).setCell (p := ⟨b, 2, none⟩) (fun _ => rfl) _).drewN nq
  have s4 := k4.size
  have s5 := k5.size
  have hs := hk.size
  have hgl := (hown4.lt g (own_slice.2 rfl)).2
  refine ⟨⟨nv, sv, .slice (some ⟨g, 0, none⟩) (s.parts.length + 1) cap, p, l, ?_⟩, ?_⟩
  · exact {
      head := heap_set hb4
      fb := .inl hb
      now := k5.owns (k4.owns h.now fun k e e2 => owns_ne h.parts h.now (by decide) e2 e) fun k e e2 => owns_ne_block h.now h.head (by decide) (e2 ▸ e)
      fnow := fun k e => grow_sub hs (by omega) (h.fnow k e)
      syn := k5.owns (k4.owns h.syn fun k e e2 => owns_ne h.parts h.syn (by decide) e2 e) fun k e e2 => owns_ne_block h.syn h.head (by decide) (e2 ▸ e)
      fsyn := fun k e => grow_sub hs (by omega) (h.fsyn k e)
      parts := by
        rw [List.length_append, pvs_append]
        have := k5.owns hown4 fun k e e2 => owns_ne_block hown4 hb4 (by decide) (e2 ▸ e)
        simpa [pvs] using this
      fparts := fun k e => by
        have := own_slice.1 e
        subst this
        rcases hat with h2 | h2
        · exact grow_sub hs (by omega) (h.fparts _ h2)
        · exact .inr ⟨by omega, by omega⟩
      ne := h.ne
      pow := h.pow
      lt := grow_lt hF (by omega) }
  · refine (hk.trans' k4 ?_).trans' k5 ?_
    · intro k hk2 e
      rcases h.fparts k e with h | h
      · exact h
      · omega
    · intro k _ e; exact e ▸ hb

/-- how long a string in a slot is -/
def strLen : Value → Nat | .string s => s.size | _ => 0

/-- the disk in the loop of Write -/
def WriteRel (w : World) (b : Nat) (F : Nat → Prop) (s : DS) (c : List UInt8) (off : Nat) (t : List UInt8) (o u : Value) (wr : World) : Prop :=
  ∃ (k : Nat) (rest : List UInt8) (done : List (Nat × List UInt8)), o = .int .i64 k ∧ u = .string (str rest) ∧ done ++ cut k rest = cut off t ∧ k + rest.length = off + t.length ∧ done.length + rest.length ≤ t.length ∧
    DiskP wr b (grow F w wr) { s.counted with now := c, parts := s.parts ++ done } ∧ Keeps F w wr

set_option maxHeartbeats 1000000 in
theorem write_on (w : World) (b : Nat) (F : Nat → Prop) (s : DS) (n : Nat) (off : Nat) (t : List UInt8) (h : DiskP w b F s) (hf : s.Fine n) (hn : n ≤ 1099511627776) (ho : s.off = false) (hfit : off + t.length ≤ 16777216) :
    Calls Try.prog 27 #[.pointer (some ⟨b, 0, none⟩), .int .i64 off, .string (str t)] w (DiskPost b F (s.wrote off t) (.int .i64 0) w) := by
  obtain ⟨i0, hi, hz0, hz1, hz2⟩ := info_parts infoPart
  have H := Lib.hid h; clear h
  have HF := Lib.hid hf; clear hf
  have HO := Lib.hid ho; clear ho
  have hnow : s.now.length ≤ 16777216 := HF.out.now
  have hpl : s.parts.length ≤ n := HF.out.parts
  have hsz := size_str t
  go_enter Try.func27, Try.ntmps27
  go_wp2_with fail
  refine (call_on w b F s n H.out HF.out (by omega) HO.out).mono ?_
  rintro e w1 ⟨rfl, ⟨nv, sv, lv, p, l, h1⟩, k1⟩
  obtain ⟨c0, c1, c2, c3, c4, c5⟩ := h1.cells
  have H1 := Lib.hid h1; clear h1 c1 c2 c3 c4 c5
  go_wp2_with fail
  refine (put_any s.now nv off (str t) _ H1.out.now hnow (by rw [hsz]; exact hfit)).mono ?_
  rintro e w2 ⟨nv2, rfl, hown2, k2, hnew⟩
  rw [data_str] at hown2
  obtain ⟨o2, cap2, rfl, _⟩ := owns_form hown2
  have k12 : Keeps F w w2 := (k1.mono fun k _ e => e ▸ H.out.fb).trans' k2 fun k hk e => by
    rcases H1.out.fnow k e with h | h
    · exact h
    · omega
  have hb2 : w2.heap[b]? = _ := k2.heap H1.out.head (fun e => owns_ne_block H1.out.now H1.out.head (by decide) e)
  have cc0 : w2.cell? ⟨b, 0, none⟩ = some nv := by rw [cell_of_heap hb2]; rfl
  have ff0 := frozen_of_heap hb2 0
  have HB := Lib.hid hb2; clear hb2
  obtain ⟨w3, hw3⟩ : ∃ w3, w3 = w2.setCell ⟨b, 0, none⟩ (.slice o2 (putL s.now off t).length cap2) := ⟨_, rfl⟩
  have k3 : Keeps (fun k => k = b) w2 w3 := by rw [hw3]; exact (Keeps.refl (fun k => k = b) w2).setCell (p := ⟨b, 0, none⟩) (fun _ => rfl) _
  have s01 := k1.size
  have s12 := k2.size
  have s23 := k3.size
  have hd3 : DiskP w3 b (grow F w w3) { s.counted with now := putL s.now off t, parts := s.parts ++ [] } := by
    refine ⟨.slice o2 (putL s.now off t).length cap2, sv, lv, p, l, ?_⟩
    have hnb : ∀ k, nv.ownBlock = some k → k < w1.heap.size := fun k e => (H1.out.now.lt k e).2
    exact {
      head := by rw [hw3]; exact heap_set HB.out
      fb := .inl H.out.fb
      now := k3.owns hown2 fun k e e2 => owns_ne_block hown2 HB.out (by decide) (e2 ▸ e)
      fnow := fun k e => by
        rcases hnew k e with h | h
        · exact grow_sub s01 (by omega) (H1.out.fnow k h)
        · exact .inr ⟨by omega, by have := (hown2.lt k e).2; omega⟩
      syn := k3.owns (k2.owns H1.out.syn fun k e e2 => H1.out.ne k e2 e) fun k e e2 => owns_ne_block H1.out.syn H1.out.head (by decide) (e2 ▸ e)
      fsyn := fun k e => grow_sub s01 (by omega) (H1.out.fsyn k e)
      parts := by rw [List.append_nil]; exact k3.owns (k2.owns H1.out.parts fun k e e2 => owns_ne H1.out.parts H1.out.now (by decide) e e2) fun k e e2 => owns_ne_block H1.out.parts H1.out.head (by decide) (e2 ▸ e)
      fparts := fun k e => grow_sub s01 (by omega) (H1.out.fparts k e)
      ne := fun k e e2 => by
        rcases hnew k e with h | h
        · exact H1.out.ne k h e2
        · have := (H1.out.syn.lt k e2).2; omega
      pow := H1.out.pow
      lt := grow_lt H.out.lt (by omega) }
  have k03 : Keeps F w w3 := k12.trans' k3 fun k _ e => e ▸ H.out.fb
  have HD3 := Lib.hid hd3; clear hd3
  have HW3 := Lib.hid hw3; clear hw3
  go_wp2_with fail
  rw [← HW3.out]
  clear HB cc0 ff0 hown2 hnew k12
  go_loopw [1, 2] (WriteRel w b F s (putL s.now off t) off t) (fun _ u _ => (strLen u))
  case atStart => exact ⟨off, t, [], rfl, rfl, rfl, rfl, by simp, HD3.out, k03⟩
  case round =>
    obtain ⟨k, rest, done, rfl, rfl, hcut, hlen, hdl, hd, hkr⟩ := hrel
    have hszr := size_str rest
    by_cases hr0 : rest = []
    · subst hr0
      have HX := Lib.hid hcut; clear hcut
      have HD := Lib.hid hd; clear hd
      have HK := Lib.hid hkr; clear hkr
      simp only [List.length_nil] at hszr
      clear HW3 HD3 k03 k3 hlen hdl
      go_wp2_with fail
      go_ret
      refine ⟨rfl, ?_, HK.out⟩
      have := HX.out
      rw [cut_nil, List.append_nil] at this
      subst this
      exact HD.out
    · have hlp : 0 < rest.length := List.length_pos_iff.2 hr0
      have hst := cut_step k rest hr0
      obtain ⟨r, hr⟩ : ∃ r, r = 64 - k % 64 := ⟨_, rfl⟩
      obtain ⟨m, hm⟩ : ∃ m, m = min r rest.length := ⟨_, rfl⟩
      rw [← hr, ← hm] at hst
      have hm1 : 1 ≤ m := by omega
      have hml : m ≤ rest.length := by omega
      obtain ⟨k', hk'⟩ : ∃ k', k' = k + m := ⟨_, rfl⟩
      have hrr : (64 : Int) - (k : Int) % 64 = (r : Int) := by omega
      have hmin : (if rest.length < r then (rest.length : Int) else (r : Int)) = (m : Int) := by split <;> omega
      have hs1 := fun W => run_slice_str_to (P := Try.prog) 9 Try.underlying9 rest .i64 m hml W
      have hs2 := fun W => run_slice_str_from (P := Try.prog) 9 Try.underlying9 rest .i64 m hml W
      have hsum : IntKind.i64.wrap ((k : Int) + (m : Int)) = (k' : Int) := by rw [IntWalk.i64_in _ (by omega)]; omega
      have HR := Lib.hid hr
      have HM := Lib.hid hm
      have HK' := Lib.hid hk'
      have HST := Lib.hid hst
      have HX := Lib.hid hcut
      have HL := Lib.hid hlen
      have HKR := Lib.hid hkr
      obtain ⟨nv, sv, lv, p, l, hd⟩ := hd
      obtain ⟨x0, x1, x2, x3, x4, x5⟩ := hd.cells
      have y2 := hd.free 2
      obtain ⟨lo, lcap, rfl, hlcap, _⟩ := owns_form hd.parts
      obtain ⟨N, hNe⟩ : ∃ N, (s.parts ++ done).length = N := ⟨_, rfl⟩
      have HPB := Lib.hid (show some b ≠ (Value.slice lo N lcap).ownBlock from fun e => owns_ne_block hd.parts hd.head (by decide) (hNe ▸ e.symm))
      have hbl : b < wr.heap.size := lt_of_heap hd.head
      have hN : N ≤ n + t.length := by rw [← hNe]; simp only [List.length_append]; omega
      have hpo := hd.parts
      rw [hNe] at x2 hpo
      have HPO := Lib.hid hpo
      have HNE := Lib.hid hNe
      have HD := Lib.hid hd
      clear hpo hNe hr hm hk' hst hcut hlen hkr hd x0 x1 x3 x4 x5 HW3 HD3 k03 k3 c0
      go_wp2_with fail
      go_region_law
        ((refine step_append_lies _ (by rfl) _ _ _ (by rfl) 0 68 i0 _ 2 24 Try.underlying58 hi hz0 hz1 hz2 rfl (by omega) (.slice lo N lcap) N (pvs (s.parts ++ done)) (by rfl) ((HPO.out.alloc _).drew)
            ⟨wr.heap.size, 0, none⟩ 1 1 [.int .i64 k, .string (str (rest.take m))] (by rfl) (by rfl) (World.news_of_block (cs := #[.int .i64 k, .string (str (rest.take m))]) (t := 68) (fr := (0, 0)) (heap_alloc_new wr _)) (by simp [Value.oneCell'])
            (by omega) (by unfold maxLen; omega) (by omega) (by simp) (wr.heap.size + 1) (by simp) ?_; intro g cap4 w4 hown4 hgrow hat hlt; have y4 : w4.frozen? ⟨b, 2, none⟩ = false := (hgrow.frozen_far _ (by simp; omega) HPB.out).trans ((World.frozen?_alloc_old wr _ _ (Nat.ne_of_lt hbl)).trans y2); have x4 : w4.cell? ⟨b, 2, none⟩ = some (.slice lo N lcap) := (hgrow.cell_far _ (by simp; omega) HPB.out).trans ((World.cell?_alloc_old wr _ _ (Nat.ne_of_lt hbl)).trans x2)))
      all_goals
        go_wp2_with fail
        go_quiet (fail)
        go_wp2_with fail
        go_roundw
        case rel =>
          obtain rfl := HNE.out
          have hp := disk_append (w := w) HD.out H.out.lt HKR.out H.out.fb (k, rest.take m) _ g cap4 w4 hown4 hgrow hat nq
          have hk' := HK'.out
          have hst := HST.out
          have hx := HX.out
          have hl := HL.out
          refine ⟨k', rest.drop m, done ++ [(k, rest.take m)], rfl, rfl, ?_, ?_, ?_, ?_, hp.2⟩
          · rw [hk', List.append_assoc, List.singleton_append, ← hst]; exact hx
          · rw [List.length_drop]; omega
          · rw [List.length_drop, List.length_append]; simp only [List.length_cons, List.length_nil]; omega
          · rw [← List.append_assoc]; exact hp.1
        case measure =>
          simp only [strLen]
          show (str (rest.drop m)).size < (str rest).size
          rw [size_str, size_str, List.length_drop]; omega

theorem write_nil (w : World) (off : Int) (s : ByteArray) :
    Calls Try.prog 27 #[.pointer none, .int .i64 off, .string s] w fun e w' => e = .returned (.int .i64 1) ∧ w = w' := by
  go_enter Try.func27, Try.ntmps27
  go_wp2
  go_ret
  exact ⟨rfl, rfl⟩

theorem write_any (w : World) (b : Nat) (F : Nat → Prop) (s : DS) (n : Nat) (off : Int) (t : List UInt8) (h : DiskP w b F s) (hf : s.Fine n) (hn : n ≤ 1099511627776) (h1 : off ≤ 9223372036854775807) (h2 : t.length ≤ 4611686018427387904) :
    Calls Try.prog 27 #[.pointer (some ⟨b, 0, none⟩), .int .i64 off, .string (str t)] w (DiskPost b F (s.write off t) (.int .i64 (s.writeR off t)) w) := by
  by_cases hfit : fits off t = true
  · have hb := hfit
    simp only [fits, Bool.and_eq_true, decide_eq_true_eq] at hb
    obtain ⟨o, ho⟩ : ∃ o : Nat, off = o := ⟨off.toNat, by omega⟩
    subst ho
    by_cases hoff : s.off = true
    · have e1 : s.write o t = s := by simp [DS.write, hoff]
      have e2 : s.writeR o t = 70 := by simp [DS.writeR, hfit, hoff]
      rw [e1, e2]
      exact write_off w b F s n o t h hf (by omega) hoff (by omega)
    · have hoff := eq_false_of_ne_true hoff
      have e1 : s.write o t = s.wrote o t := by simp [DS.write, hoff, hfit]
      have e2 : s.writeR o t = 0 := by simp [DS.writeR, hfit, hoff]
      rw [e1, e2]
      exact write_on w b F s n o t h hf hn hoff (by omega)
  · have hfit := eq_false_of_ne_true hfit
    have e1 : s.write off t = s := by simp [DS.write, hfit]
    have e2 : s.writeR off t = 1 := by simp [DS.writeR, hfit]
    rw [e1, e2]
    refine (write_bad w _ off t (.inr hfit) ⟨_, rfl⟩ h1 h2).mono fun e w' ⟨he, hw⟩ => ?_
    subst hw
    obtain ⟨nv, sv, lv, p, l, h⟩ := h
    refine ⟨he, ⟨nv, sv, lv, p, l, ?_⟩, Keeps.refl _ _⟩
    have := h.scal (Keeps.refl _ _) s.calls s.lim p l h.head h.pow
    exact this
#print axioms write_any
end Go.Proofs.Ytmigbpfeobjhkaa
