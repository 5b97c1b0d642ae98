/-
  The contracts of the model's Read and Write (cocycleref27). Conditions: the model's bounds (Fine).
-/
import Derived.Test.YtmigbpfeobjhkaaDRef
namespace Go.Proofs.Ytmigbpfeobjhkaa
open Go Go.RowKit
set_option linter.unusedVariables false
attribute [local go_sem ↓] Go.wp_at_zero Go.wp_at_succ

set_option maxHeartbeats 400000 in
theorem rread_some (w : World) (b : Nat) (F : Nat → Prop) (s : DS) (off m : Nat) (h : RefP w b F s) (hl : s.now.length ≤ 16777216) (hoff : off < s.now.length) (hm : 1 ≤ m) (hm' : m ≤ 9223372036854775807) :
    Calls Try.prog 31 #[.pointer (some ⟨b, 0, none⟩), .int .i64 off, .int .i64 m] w fun e w' => e = .returned (.string (str ((s.now.drop off).take m))) ∧ ∃ n, w' = w.drewN n := by
  obtain ⟨lv, c, l, h⟩ := h
  obtain ⟨c0, _⟩ := h.cells
  have hsz := size_str s.now
  obtain ⟨r, hr⟩ : ∃ r, s.now.length = off + r := ⟨s.now.length - off, by omega⟩
  obtain ⟨u, hu⟩ : ∃ u, u = min m r := ⟨_, rfl⟩
  obtain ⟨e1, he1⟩ : ∃ e1, e1 = off + u := ⟨_, rfl⟩
  have hsub : IntKind.i64.wrap ((s.now.length : Int) - (off : Int)) = (r : Int) := by rw [IntWalk.i64_in _ (by omega)]; omega
  have hsum : IntKind.i64.wrap ((off : Int) + (u : Int)) = (e1 : Int) := by rw [IntWalk.i64_in _ (by omega)]; omega
  have hmin : (if r < m then (r : Int) else (m : Int)) = (u : Int) := by split <;> omega
  have hs1 : ∀ W, (Instr.slice 9 (.string (str s.now)) (some (.int .i64 (off : Int))) (some (.int .i64 (e1 : Int))) none).run Try.prog W = .ok (.string (str ((s.now.drop off).take m))) W := fun W => by
    rw [run_slice_str (P := Try.prog) 9 Try.underlying9 s.now .i64 .i64 off e1 (by omega) (by omega) W]
    have : List.take (e1 - off) (List.drop off s.now) = List.take m (List.drop off s.now) := by
      rw [List.take_eq_take_iff, List.length_drop]; omega
    rw [this]
  have H := Lib.hid h
  have HR := Lib.hid hr
  have HU := Lib.hid hu
  have HE := Lib.hid he1
  clear h hr hu he1
  go_enter Try.func31, Try.ntmps31
  go_wp2_with fail
  go_quiet (fail)
  go_wp2_with fail
  go_ret
  exact ⟨rfl, _, rfl⟩

theorem rread_none (w : World) (b : Nat) (F : Nat → Prop) (s : DS) (off m : Int) (h : RefP w b F s) (hl : s.now.length ≤ 16777216) (hn : off < 0 ∨ m < 1 ∨ (s.now.length : Int) ≤ off) :
    Calls Try.prog 31 #[.pointer (some ⟨b, 0, none⟩), .int .i64 off, .int .i64 m] w fun e w' => e = .returned (.string (str [])) ∧ w = w' := by
  obtain ⟨lv, c, l, h⟩ := h
  obtain ⟨c0, _⟩ := h.cells
  have hsz := size_str s.now
  have H := Lib.hid h
  clear h
  by_cases h1 : off < 0
  · go_enter Try.func31, Try.ntmps31
    go_wp2
    go_ret
    exact ⟨rfl, rfl⟩
  · by_cases h2 : m < 1
    · clear hn
      go_enter Try.func31, Try.ntmps31
      go_wp2
      go_ret
      exact ⟨rfl, rfl⟩
    · have h3 : (s.now.length : Int) ≤ off := by omega
      clear hn
      go_enter Try.func31, Try.ntmps31
      go_wp2
      go_ret
      exact ⟨rfl, rfl⟩

theorem rread_any (w : World) (b : Nat) (F : Nat → Prop) (s : DS) (off m : Int) (h : RefP w b F s) (hl : s.now.length ≤ 16777216) (hm : m ≤ 9223372036854775807) :
    Calls Try.prog 31 #[.pointer (some ⟨b, 0, none⟩), .int .i64 off, .int .i64 m] w fun e w' => e = .returned (.string (str (readL s.now off m))) ∧ ∃ n, w' = w.drewN n := by
  by_cases hc : off < 0 ∨ m < 1 ∨ (s.now.length : Int) ≤ off
  · refine (rread_none w b F s off m h hl hc).mono fun e w' ⟨h1, h2⟩ => ⟨?_, 0, h2 ▸ rfl⟩
    rw [h1, readL, if_pos hc]
  · obtain ⟨a, ha⟩ : ∃ a : Nat, off = a := ⟨off.toNat, by omega⟩
    obtain ⟨c, hcc⟩ : ∃ c : Nat, m = c := ⟨m.toNat, by omega⟩
    subst ha; subst hcc
    have hr : readL s.now (a : Int) (c : Int) = (s.now.drop a).take c := by rw [readL, if_neg hc]; simp
    rw [hr]
    exact rread_some w b F s a c h hl (by omega) (by omega) (by omega)

theorem infoRPart : (Try.prog.info? 72).map (fun i => (i.zero, i.size, i.bytes)) = some (some (.agg #[.int .i64 0, .string ⟨#[]⟩]), 2, 24) := by kernel_rfl

theorem rwrite_bad (w : World) (a : Addr) (off : Int) (t : List UInt8) (hv : fits off t = false) (h1 : off ≤ 9223372036854775807) (h2 : t.length ≤ 4611686018427387904) :
    Calls Try.prog 32 #[.pointer (some a), .int .i64 off, .string (str t)] w fun e w' => e = .returned (.int .i64 1) ∧ w = w' := by
  have hsz := size_str t
  simp only [fits, Bool.and_eq_false_iff, decide_eq_false_iff_not] at hv
  by_cases h0 : off < 0
  · clear hv
    go_enter Try.func32, Try.ntmps32
    go_wp2
    go_ret
    exact ⟨rfl, rfl⟩
  · by_cases h3 : 16777216 < off
    · clear hv
      go_enter Try.func32, Try.ntmps32
      go_wp2
      go_ret
      exact ⟨rfl, rfl⟩
    · have h4 : 16777216 < off + (t.length : Int) := by omega
      clear hv
      go_enter Try.func32, Try.ntmps32
      go_wp2
      go_ret
      exact ⟨rfl, rfl⟩

theorem rwrite_off (w : World) (b : Nat) (F : Nat → Prop) (s : DS) (n : Nat) (off : Nat) (t : List UInt8) (h : RefP w b F s) (hf : s.Fine n) (hn : n ≤ 4611686018427387904) (ho : s.off = true) (hfit : off + t.length ≤ 16777216) :
    Calls Try.prog 32 #[.pointer (some ⟨b, 0, none⟩), .int .i64 off, .string (str t)] w (RefPost b F s (.int .i64 70) w) := by
  have H := Lib.hid h; clear h
  have HF := Lib.hid hf; clear hf
  have HO := Lib.hid ho; clear ho
  have hsz := size_str t
  go_enter Try.func32, Try.ntmps32
  go_wp2_with fail
  refine (roff_off w b F s n H.out HF.out hn HO.out).mono ?_
  rintro e w1 ⟨rfl, h1, k1⟩
  go_wp2_with fail
  go_ret
  exact ⟨rfl, h1, k1.mono fun k _ e => e ▸ H.out.fb⟩

/-- one part more -/
theorem ref_append {w wr : World} {b : Nat} {F : Nat → Prop} {s : DS} {lv : Value} {c : Bool} {l : Int} (h : RefAt wr b (grow F w wr) s lv c l) (hF : ∀ k, F k → k < w.heap.size) (hk : Keeps F w wr) (hb : F b) (q : Nat × List UInt8) (o : Obj) (g cap : Nat) (w4 : World)
    (hown4 : w4.ownsRow 0 72 2 (.slice (some ⟨g, 0, none⟩) (s.parts.length + 1) cap) (s.parts.length + 1) (pvs s.parts ++ pv q)) (hgrow : ((wr.alloc o).drew).grownBy w4 lv.ownBlock) (hat : lv.ownBlock = some g ∨ g = wr.heap.size + 1) (nq : Nat) :
    RefP ((w4.setCell ⟨b, 2, none⟩ (.slice (some ⟨g, 0, none⟩) (s.parts.length + 1) cap)).drewN nq) b (grow F w ((w4.setCell ⟨b, 2, none⟩ (.slice (some ⟨g, 0, none⟩) (s.parts.length + 1) cap)).drewN nq)) { s with parts := s.parts ++ [q] } ∧
      Keeps F w ((w4.setCell ⟨b, 2, none⟩ (.slice (some ⟨g, 0, none⟩) (s.parts.length + 1) cap)).drewN nq) := by
  have k4 : Keeps (fun k => lv.ownBlock = some k) wr w4 := ((Keeps.refl _ wr).alloc o).drew.grown hgrow (fun k e _ => e)
  have hb4 : w4.heap[b]? = _ := k4.heap h.head (fun e => owns_ne_block h.parts h.head (by decide) e)
  have k5 : Keeps (fun k => k = b) w4 ((w4.setCell ⟨b, 2, none⟩ (.slice (some ⟨g, 0, none⟩) (s.parts.length + 1) cap)).drewN nq) := ((Keeps.refl (fun k => k = b) w4).setCell (p := ⟨b, 2, none⟩) (fun _ => rfl) _).drewN nq
  have s4 := k4.size
  have s5 := k5.size
  have hs := hk.size
  have hgl := (hown4.lt g (own_slice.2 rfl)).2
  refine ⟨⟨.slice (some ⟨g, 0, none⟩) (s.parts.length + 1) cap, c, l, ?_⟩, ?_⟩
  · exact {
      head := heap_set hb4
      fb := .inl hb
      parts := by
        rw [List.length_append, pvs_append]
        have := k5.owns hown4 fun k e e2 => owns_ne_block hown4 hb4 (by decide) (e2 ▸ e)
        simpa [pvs] using this
      fparts := fun k e => by
        have := own_slice.1 e
        subst this
        rcases hat with h2 | h2
        · exact grow_sub hs (by omega) (h.fparts _ h2)
        · exact .inr ⟨by omega, by omega⟩
      pow := h.pow
      lt := grow_lt hF (by omega) }
  · refine (hk.trans' k4 ?_).trans' k5 ?_
    · intro k hk2 e
      rcases h.fparts k e with h | h
      · exact h
      · omega
    · intro k _ e; exact e ▸ hb

/-- the model in the loop of Write -/
def RWriteRel (w : World) (b : Nat) (F : Nat → Prop) (s : DS) (c : List UInt8) (off : Nat) (t : List UInt8) (i : Value) (wr : World) : Prop :=
  ∃ (k : Nat) (done : List (Nat × List UInt8)), i = .int .i64 k ∧ k ≤ t.length ∧ done ++ cut (off + k) (t.drop k) = cut off t ∧ done.length ≤ k ∧
    RefP wr b (grow F w wr) { s.counted with now := c, parts := s.parts ++ done } ∧ Keeps F w wr

set_option maxHeartbeats 1000000 in
theorem rwrite_on (w : World) (b : Nat) (F : Nat → Prop) (s : DS) (n : Nat) (off : Nat) (t : List UInt8) (h : RefP w b F s) (hf : s.Fine n) (hn : n ≤ 1099511627776) (ho : s.off = false) (hfit : off + t.length ≤ 16777216) :
    Calls Try.prog 32 #[.pointer (some ⟨b, 0, none⟩), .int .i64 off, .string (str t)] w (RefPost b F (s.wrote off t) (.int .i64 0) w) := by
  obtain ⟨i0, hi, hz0, hz1, hz2⟩ := info_parts infoRPart
  have H := Lib.hid h; clear h
  have HF := Lib.hid hf; clear hf
  have HO := Lib.hid ho; clear ho
  have hnow : s.now.length ≤ 16777216 := HF.out.now
  have hpl : s.parts.length ≤ n := HF.out.parts
  have hsz := size_str t
  go_enter Try.func32, Try.ntmps32
  go_wp2_with fail
  refine (roff_on w b F s n H.out HF.out (by omega) HO.out).mono ?_
  rintro e w1 ⟨rfl, ⟨lv, c, l, h1⟩, k1⟩
  obtain ⟨c0, c1, c2, c3, c4, c5⟩ := h1.cells
  have H1 := Lib.hid h1; clear h1 c1 c2 c3 c4 c5
  go_wp2_with fail
  refine (rput_any s.now off t _ hnow hfit).mono ?_
  rintro e w2 ⟨rfl, k2⟩
  have h2 := H1.out.keep k2 (fun _ _ h => h)
  obtain ⟨c0, c1, c2, c3, c4, c5⟩ := h2.cells
  have f0 := h2.free 0
  have H2 := Lib.hid h2; clear h2 c1 c2 c3 c4 c5
  obtain ⟨w3, hw3⟩ : ∃ w3, w3 = w2.setCell ⟨b, 0, none⟩ (.string (str (putL s.now off t))) := ⟨_, rfl⟩
  have k3 : Keeps (fun k => k = b) w2 w3 := by rw [hw3]; exact (Keeps.refl (fun k => k = b) w2).setCell (p := ⟨b, 0, none⟩) (fun _ => rfl) _
  have s01 := k1.size
  have s12 := k2.size
  have s23 := k3.size
  have hd3 : RefP w3 b (grow F w w3) { s.counted with now := putL s.now off t, parts := s.parts ++ [] } := by
    refine ⟨lv, c, l, ?_⟩
    exact {
      head := by rw [hw3]; exact heap_set H2.out.head
      fb := .inl H.out.fb
      parts := by rw [List.append_nil]; exact k3.owns H2.out.parts fun k e e2 => owns_ne_block H2.out.parts H2.out.head (by decide) (e2 ▸ e)
      fparts := fun k e => grow_sub s01 (by omega) (H1.out.fparts k e)
      pow := H1.out.pow
      lt := grow_lt H.out.lt (by omega) }
  have k03 : Keeps F w w3 := ((k1.mono fun k _ e => e ▸ H.out.fb).trans' k2 fun _ _ h => h.elim).trans' k3 fun k _ e => e ▸ H.out.fb
  have HD3 := Lib.hid hd3; clear hd3
  have HW3 := Lib.hid hw3; clear hw3
  have HK03 := Lib.hid k03; clear k03
  go_wp2_with fail
  rw [← HW3.out]
  clear c0 f0
  go_loopw [8] (RWriteRel w b F s (putL s.now off t) off t) (fun i _ => t.length - (intOf i).toNat)
  case atStart => exact ⟨0, [], rfl, Nat.zero_le _, rfl, Nat.le_refl _, HD3.out, HK03.out⟩
  case round =>
    obtain ⟨k, done, rfl, hkl, hcut, hdl, hd, hkr⟩ := hrel
    clear HW3 HD3 k3
    by_cases hr0 : k = t.length
    · subst hr0
      have HX := Lib.hid hcut; clear hcut
      have HD := Lib.hid hd; clear hd
      have HK := Lib.hid hkr; clear hkr
      clear hdl
      go_wp2_with fail
      go_ret
      refine ⟨rfl, ?_, HK.out⟩
      have := HX.out
      rw [List.drop_of_length_le (Nat.le_refl _), cut_nil, List.append_nil] at this
      subst this
      exact HD.out
    · have hlt : k < t.length := by omega
      have hst := cut_step (off + k) (t.drop k) (by intro e; have := congrArg List.length e; simp at this; omega)
      rw [List.length_drop] at hst
      obtain ⟨r, hr⟩ : ∃ r, r = 64 - (off + k) % 64 := ⟨_, rfl⟩
      obtain ⟨d, hdd⟩ : ∃ d, t.length = k + d := ⟨t.length - k, by omega⟩
      obtain ⟨m, hm⟩ : ∃ m, m = min r (t.length - k) := ⟨_, rfl⟩
      rw [← hr, ← hm] at hst
      have hm1 : 1 ≤ m := by omega
      obtain ⟨k', hk'⟩ : ∃ k', k' = k + m := ⟨_, rfl⟩
      obtain ⟨ok, hok⟩ : ∃ ok, ok = off + k := ⟨_, rfl⟩
      have hrr : (64 : Int) - (ok : Int) % 64 = (r : Int) := by omega
      have hokl : ok ≤ 16777216 := by omega
      have hdi : (t.length : Int) - (k : Int) = (d : Int) := by omega
      have hmin : (if d < r then (d : Int) else (r : Int)) = (m : Int) := by split <;> omega
      have hs1 := fun W => run_slice_str (P := Try.prog) 9 Try.underlying9 t .i64 .i64 k k' (by omega) (by omega) W
      rw [show k' - k = m by omega] at hs1
      have hsum : IntKind.i64.wrap ((k : Int) + (m : Int)) = (k' : Int) := by rw [IntWalk.i64_in _ (by omega)]; omega
      have hsum2 : IntKind.i64.wrap ((off : Int) + (k : Int)) = (ok : Int) := by rw [IntWalk.i64_in _ (by omega)]; omega
      have hsum3 : (k : Int) + (m : Int) = (k' : Int) := by omega
      have HS3 := Lib.hid hsum3
      have HDD := Lib.hid hdd
      have HR := Lib.hid hr
      have HM := Lib.hid hm
      have HK' := Lib.hid hk'
      have HOK := Lib.hid hok
      have HST := Lib.hid hst
      have HX := Lib.hid hcut
      have HKR := Lib.hid hkr
      obtain ⟨lv2, c2, l2, hd⟩ := hd
      obtain ⟨x0, x1, x2, x3, x4, x5⟩ := hd.cells
      have y2 := hd.free 2
      obtain ⟨lo, lcap, rfl, hlcap, _⟩ := owns_form hd.parts
      obtain ⟨N, hNe⟩ : ∃ N, (s.parts ++ done).length = N := ⟨_, rfl⟩
      have HPB := Lib.hid (show some b ≠ (Value.slice lo N lcap).ownBlock from fun e => owns_ne_block hd.parts hd.head (by decide) (hNe ▸ e.symm))
      have hbl : b < wr.heap.size := lt_of_heap hd.head
      have hN : N ≤ n + t.length := by rw [← hNe]; simp only [List.length_append]; omega
      have hpo := hd.parts
      rw [hNe] at x2 hpo
      have HPO := Lib.hid hpo
      have HNE := Lib.hid hNe
      have HD := Lib.hid hd
      have hk'l : k' ≤ t.length := by omega
      clear hpo hNe hr hm hk' hok hst hcut hkr hd x0 x1 x3 x4 x5 hsum3 hdd
      go_wp2_with fail
      go_region_law
        ((refine step_append_lies _ (by rfl) _ _ _ (by rfl) 0 72 i0 _ 2 24 Try.underlying62 hi hz0 hz1 hz2 rfl (by omega) (.slice lo N lcap) N (pvs (s.parts ++ done)) (by rfl) ((HPO.out.alloc _).drew)
            ⟨wr.heap.size, 0, none⟩ 1 1 [.int .i64 ok, .string (str ((t.drop k).take m))] (by rfl) (by rfl) (World.news_of_block (cs := #[.int .i64 ok, .string (str ((t.drop k).take m))]) (t := 72) (fr := (0, 0)) (heap_alloc_new wr _)) (by simp [Value.oneCell'])
            (by omega) (by unfold maxLen; omega) (by omega) (by simp) (wr.heap.size + 1) (by simp) ?_; intro g cap4 w4 hown4 hgrow hat hlt; have y4 : w4.frozen? ⟨b, 2, none⟩ = false := (hgrow.frozen_far _ (by simp; omega) HPB.out).trans ((World.frozen?_alloc_old wr _ _ (Nat.ne_of_lt hbl)).trans y2); have x4 : w4.cell? ⟨b, 2, none⟩ = some (.slice lo N lcap) := (hgrow.cell_far _ (by simp; omega) HPB.out).trans ((World.cell?_alloc_old wr _ _ (Nat.ne_of_lt hbl)).trans x2)))
      all_goals
        go_wp2_with fail
        go_roundw
        case rel =>
          obtain rfl := HNE.out
          obtain rfl := HOK.out
          have hp := ref_append (w := w) HD.out H.out.lt HKR.out H.out.fb (off + k, (t.drop k).take m) _ g cap4 w4 hown4 hgrow hat 0
          have hk' := HK'.out
          have hst := HST.out
          have hx := HX.out
          refine ⟨k', done ++ [(off + k, (t.drop k).take m)], rfl, hk'l, ?_, ?_, ?_, hp.2⟩
          · rw [hst, List.drop_drop, Nat.add_assoc, ← hk'] at hx
            rw [List.append_assoc, List.singleton_append]; exact hx
          · rw [List.length_append]; simp only [List.length_cons, List.length_nil]; omega
          · rw [← List.append_assoc]; exact hp.1
        case measure =>
          have hk' := HK'.out
          simp [intOf]; omega

theorem rwrite_any (w : World) (b : Nat) (F : Nat → Prop) (s : DS) (n : Nat) (off : Int) (t : List UInt8) (h : RefP w b F s) (hf : s.Fine n) (hn : n ≤ 1099511627776) (h1 : off ≤ 9223372036854775807) (h2 : t.length ≤ 4611686018427387904) :
    Calls Try.prog 32 #[.pointer (some ⟨b, 0, none⟩), .int .i64 off, .string (str t)] w (RefPost b F (s.write off t) (.int .i64 (s.writeR off t)) w) := by
  by_cases hfit : fits off t = true
  · have hb := hfit
    simp only [fits, Bool.and_eq_true, decide_eq_true_eq] at hb
    obtain ⟨o, ho⟩ : ∃ o : Nat, off = o := ⟨off.toNat, by omega⟩
    subst ho
    by_cases hoff : s.off = true
    · have e1 : s.write o t = s := by simp [DS.write, hoff]
      have e2 : s.writeR o t = 70 := by simp [DS.writeR, hfit, hoff]
      rw [e1, e2]
      exact rwrite_off w b F s n o t h hf (by omega) hoff (by omega)
    · have hoff := eq_false_of_ne_true hoff
      have e1 : s.write o t = s.wrote o t := by simp [DS.write, hoff, hfit]
      have e2 : s.writeR o t = 0 := by simp [DS.writeR, hfit, hoff]
      rw [e1, e2]
      exact rwrite_on w b F s n o t h hf hn hoff (by omega)
  · have hfit := eq_false_of_ne_true hfit
    have e1 : s.write off t = s := by simp [DS.write, hfit]
    have e2 : s.writeR off t = 1 := by simp [DS.writeR, hfit]
    rw [e1, e2]
    refine (rwrite_bad w _ off t hfit h1 h2).mono fun e w' ⟨he, hw⟩ => ?_
    subst hw
    obtain ⟨lv, c, l, h⟩ := h
    exact ⟨he, ⟨lv, c, l, h.scal (s' := s) (Keeps.refl _ _) rfl h.head h.pow⟩, Keeps.refl _ _⟩
#print axioms rwrite_any
#print axioms rread_any
end Go.Proofs.Ytmigbpfeobjhkaa
