/-
  The contracts of the program's disk: each method does what the plain model says, and writes only the disk's own blocks and new ones. Conditions: the model's bounds (Fine).
-/
import Derived.Test.YtmigbpfeobjhkaaDRep
import Derived.Deep.RegionHeld3
import Derived.Deep.QuietTactic
import Derived.BigQuiet
namespace Go.Proofs.Ytmigbpfeobjhkaa
open Go Go.RowKit
set_option linter.unusedVariables false

def DiskPost (b : Nat) (F : Nat → Prop) (s : DS) (v : Value) (w : World) (e : Ending) (w' : World) : Prop :=
  e = .returned v ∧ DiskP w' b (grow F w w') s ∧ Keeps F w w'

theorem DiskAt.cells {w : World} {b : Nat} {F : Nat → Prop} {s : DS} {nv sv lv : Value} {p l : Int} (h : DiskAt w b F s nv sv lv p l) :
    w.cell? ⟨b, 0, none⟩ = some nv ∧ w.cell? ⟨b, 1, none⟩ = some sv ∧ w.cell? ⟨b, 2, none⟩ = some lv ∧ w.cell? ⟨b, 3, none⟩ = some (.int .i64 (s.calls : Int)) ∧ w.cell? ⟨b, 4, none⟩ = some (.int .i64 p) ∧ w.cell? ⟨b, 5, none⟩ = some (.int .i64 l) :=
  ⟨by rw [cell_of_heap h.head]; rfl, by rw [cell_of_heap h.head]; rfl, by rw [cell_of_heap h.head]; rfl, by rw [cell_of_heap h.head]; rfl, by rw [cell_of_heap h.head]; rfl, by rw [cell_of_heap h.head]; rfl⟩
theorem DiskAt.free {w : World} {b : Nat} {F : Nat → Prop} {s : DS} {nv sv lv : Value} {p l : Int} (h : DiskAt w b F s nv sv lv p l) (i : Nat) : w.frozen? ⟨b, i, none⟩ = false := frozen_of_heap h.head i

theorem new_any (w : World) :
    Calls Try.prog 14 #[] w (DiskPost w.heap.size noBlock DS.zero (.pointer (some ⟨w.heap.size, 0, none⟩)) w) := by
  go_enter Try.func14, Try.ntmps14
  go_wp2
  go_ret
  refine ⟨rfl, ⟨.slice none 0 0, .slice none 0 0, .slice none 0 0, 0, 0, ?_⟩, (Keeps.refl _ _).alloc _⟩
  refine ⟨heap_alloc_at, .inr ⟨Nat.le_refl _, by simp⟩, World.ownsRow_nil _ _ _ _, fun k h => (own_none.1 h).elim, World.ownsRow_nil _ _ _ _, fun k h => (own_none.1 h).elim, World.ownsRow_nil _ _ _ _, fun k h => (own_none.1 h).elim, fun k h => (own_none.1 h).elim, rfl, ?_⟩
  exact grow_lt (fun _ h => h.elim) (by simp)

theorem size_any (w : World) (b : Nat) (F : Nat → Prop) (s : DS) (h : DiskP w b F s) :
    Calls Try.prog 17 #[.pointer (some ⟨b, 0, none⟩)] w fun e w' => e = .returned (.int .i64 (s.now.length : Int)) ∧ w = w' := by
  obtain ⟨nv, sv, lv, p, l, h⟩ := h
  obtain ⟨c0, _⟩ := h.cells
  obtain ⟨o, cap, rfl, _⟩ := owns_form h.now
  have H := Lib.hid h; clear h
  go_enter Try.func17, Try.ntmps17
  go_wp2
  go_ret
  exact ⟨rfl, rfl⟩
theorem size_nil (w : World) :
    Calls Try.prog 17 #[.pointer none] w fun e w' => e = .returned (.int .i64 0) ∧ w = w' := by
  go_enter Try.func17, Try.ntmps17
  go_wp2
  go_ret
  exact ⟨rfl, rfl⟩

theorem calls_any (w : World) (b : Nat) (F : Nat → Prop) (s : DS) (h : DiskP w b F s) :
    Calls Try.prog 19 #[.pointer (some ⟨b, 0, none⟩)] w fun e w' => e = .returned (.int .i64 (s.calls : Int)) ∧ w = w' := by
  obtain ⟨nv, sv, lv, p, l, h⟩ := h
  obtain ⟨_, _, _, c3, _⟩ := h.cells
  have H := Lib.hid h; clear h
  go_enter Try.func19, Try.ntmps19
  go_wp2
  go_ret
  exact ⟨rfl, rfl⟩
theorem calls_nil (w : World) :
    Calls Try.prog 19 #[.pointer none] w fun e w' => e = .returned (.int .i64 0) ∧ w = w' := by
  go_enter Try.func19, Try.ntmps19
  go_wp2
  go_ret
  exact ⟨rfl, rfl⟩

theorem fail_nil (n : Int) (w : World) :
    Calls Try.prog 30 #[.pointer none, .int .i64 n] w fun e w' => e = .returned (.tuple #[]) ∧ w = w' := by
  go_enter Try.func30, Try.ntmps30
  go_wp2
  exact bodyPost_ret (results_none rfl _ _ _) rfl ⟨rfl, rfl⟩

theorem fail_any (n : Int) (w : World) (b : Nat) (F : Nat → Prop) (s : DS) (h : DiskP w b F s) :
    Calls Try.prog 30 #[.pointer (some ⟨b, 0, none⟩), .int .i64 n] w (DiskPost b F (s.fail n) (.tuple #[]) w) := by
  obtain ⟨nv, sv, lv, p, l, h⟩ := h
  obtain ⟨c0, c1, c2, c3, c4, c5⟩ := h.cells
  have f4 := h.free 4
  have f5 := h.free 5
  have H := Lib.hid h; clear h c0 c1 c2 c3
  by_cases hn : n < 0
  · go_enter Try.func30, Try.ntmps30
    go_wp2
    go_end0
    have hk := (((Keeps.refl (fun k => k = b) w).setCell (p := ⟨b, 4, none⟩) (fun _ => rfl) (.int .i64 1)).setCell (p := ⟨b, 5, none⟩) (fun _ => rfl) (.int .i64 n)).setCell (p := ⟨b, 4, none⟩) (fun _ => rfl) (.int .i64 0)
    refine ⟨rfl, ⟨nv, sv, lv, 0, n, ?_⟩, hk.mono fun k _ e => e ▸ H.out.fb⟩
    exact H.out.scal hk s.calls _ 0 n (heap_set (heap_set (heap_set H.out.head))) (by rw [if_pos hn]; rfl)
  · go_enter Try.func30, Try.ntmps30
    go_wp2
    go_end0
    have hk := ((Keeps.refl (fun k => k = b) w).setCell (p := ⟨b, 4, none⟩) (fun _ => rfl) (.int .i64 1)).setCell (p := ⟨b, 5, none⟩) (fun _ => rfl) (.int .i64 n)
    refine ⟨rfl, ⟨nv, sv, lv, 1, n, ?_⟩, hk.mono fun k _ e => e ▸ H.out.fb⟩
    exact H.out.scal hk s.calls _ 1 n (heap_set (heap_set H.out.head)) (by rw [if_neg (by omega)]; exact ⟨rfl, by omega⟩)

/-- 'call': the power is off, and nothing turns; or it counts. -/
def CallPost (b : Nat) (F : Nat → Prop) (s : DS) (w : World) (e : Ending) (w' : World) : Prop :=
  e = .returned (.bool (!s.off)) ∧ DiskP w' b (grow F w w') (if s.off then s else s.counted) ∧ Keeps (fun k => k = b) w w'

theorem call_any (w : World) (b : Nat) (F : Nat → Prop) (s : DS) (n : Nat) (h : DiskP w b F s) (hf : s.Fine n) (hn : n ≤ 4611686018427387904) :
    Calls Try.prog 40 #[.pointer (some ⟨b, 0, none⟩)] w (CallPost b F s w) := by
  obtain ⟨nv, sv, lv, p, l, h⟩ := h
  obtain ⟨c0, c1, c2, c3, c4, c5⟩ := h.cells
  have f3 := h.free 3
  have f5 := h.free 5
  have hcalls : s.calls ≤ 4611686018427387904 := Nat.le_trans hf.calls hn
  have hp := h.pow
  have hlim := hf.lim
  have H := Lib.hid h; clear h c0 c1 c2 hf hn
  obtain ⟨L, hL⟩ : ∃ L, L = s.lim := ⟨_, rfl⟩
  rw [← hL] at hp hlim
  cases L with
  | none =>
    have hp : p = 0 := hp
    subst hp
    have hoff : s.off = false := by simp [DS.off, ← hL]
    have HL := Lib.hid hL; clear hL hlim
    have HO := Lib.hid hoff; clear hoff
    go_enter Try.func40, Try.ntmps40
    go_wp2
    go_ret
    have hk := (Keeps.refl (fun k => k = b) w).setCell (p := ⟨b, 3, none⟩) (fun _ => rfl) (.int .i64 ((s.calls : Int) + 1))
    refine ⟨by rw [HO.out]; rfl, ?_, hk⟩
    rw [HO.out]
    refine ⟨nv, sv, lv, 0, l, ?_⟩
    exact H.out.scal hk (s.calls + 1) _ 0 l (heap_set H.out.head) (by rw [← HL.out]; rfl)
  | some k =>
    obtain ⟨hp, hl⟩ : p = 1 ∧ l = k := hp
    subst hp; subst hl
    have hlk := hlim k rfl
    clear hlim
    by_cases hk0 : k = 0
    · subst hk0
      have hoff : s.off = true := by simp [DS.off, ← hL]
      have HL := Lib.hid hL; clear hL
      have HO := Lib.hid hoff; clear hoff
      go_enter Try.func40, Try.ntmps40
      go_wp2
      go_ret
      refine ⟨by rw [HO.out]; rfl, ?_, Keeps.refl _ _⟩
      rw [HO.out]
      have := H.out.scal (Keeps.refl _ _) s.calls s.lim 1 0 H.out.head (by rw [← HL.out]; exact ⟨rfl, rfl⟩)
      exact ⟨nv, sv, lv, 1, 0, this⟩
    · have hoff : s.off = false := by simp [DS.off, ← hL, hk0]
      have HL := Lib.hid hL; clear hL
      have HO := Lib.hid hoff; clear hoff
      have hkb : ((k : Int) == 0) = false := by simp [hk0]
      go_enter Try.func40, Try.ntmps40
      go_wp2
      go_ret
      have hk := ((Keeps.refl (fun k => k = b) w).setCell (p := ⟨b, 5, none⟩) (fun _ => rfl) (.int .i64 ((k : Int) - 1))).setCell (p := ⟨b, 3, none⟩) (fun _ => rfl) (.int .i64 ((s.calls : Int) + 1))
      refine ⟨by rw [HO.out]; rfl, ?_, hk⟩
      rw [HO.out]
      refine ⟨nv, sv, lv, 1, (k : Int) - 1, ?_⟩
      exact H.out.scal hk (s.calls + 1) _ 1 ((k : Int) - 1) (heap_set (heap_set H.out.head)) (by rw [← HL.out]; exact ⟨rfl, by show (k : Int) - 1 = ((k - 1 : Nat) : Int); omega⟩)

theorem call_off (w : World) (b : Nat) (F : Nat → Prop) (s : DS) (n : Nat) (h : DiskP w b F s) (hf : s.Fine n) (hn : n ≤ 4611686018427387904) (ho : s.off = true) :
    Calls Try.prog 40 #[.pointer (some ⟨b, 0, none⟩)] w (fun e w' => e = .returned (.bool false) ∧ DiskP w' b (grow F w w') s ∧ Keeps (fun k => k = b) w w') :=
  (call_any w b F s n h hf hn).mono fun e w' ⟨he, h1, h2⟩ => ⟨by rw [he, ho]; rfl, by rw [if_pos ho] at h1; exact h1, h2⟩
theorem call_on (w : World) (b : Nat) (F : Nat → Prop) (s : DS) (n : Nat) (h : DiskP w b F s) (hf : s.Fine n) (hn : n ≤ 4611686018427387904) (ho : s.off = false) :
    Calls Try.prog 40 #[.pointer (some ⟨b, 0, none⟩)] w (fun e w' => e = .returned (.bool true) ∧ DiskP w' b (grow F w w') s.counted ∧ Keeps (fun k => k = b) w w') :=
  (call_any w b F s n h hf hn).mono fun e w' ⟨he, h1, h2⟩ => ⟨by rw [he, ho]; rfl, by rw [if_neg (by rw [ho]; simp)] at h1; exact h1, h2⟩

theorem grow_sub {F : Nat → Prop} {w w1 w2 : World} (h1 : w.heap.size ≤ w1.heap.size) (h2 : w1.heap.size ≤ w2.heap.size) {k : Nat} (h : grow F w w1 k) : grow F w w2 k := by
  rcases h with h | h
  · exact .inl h
  · exact .inr ⟨h.1, by omega⟩

theorem sync_nil (w : World) :
    Calls Try.prog 28 #[.pointer none] w fun e w' => e = .returned (.int .i64 1) ∧ w = w' := by
  go_enter Try.func28, Try.ntmps28
  go_wp2
  go_ret
  exact ⟨rfl, rfl⟩

set_option maxHeartbeats 400000 in
theorem sync_any (w : World) (b : Nat) (F : Nat → Prop) (s : DS) (n : Nat) (h : DiskP w b F s) (hf : s.Fine n) (hn : n ≤ 4611686018427387904) :
    Calls Try.prog 28 #[.pointer (some ⟨b, 0, none⟩)] w (DiskPost b F s.sync (.int .i64 s.syncR) w) := by
  have H := Lib.hid h; clear h
  have HF := Lib.hid hf; clear hf
  by_cases ho : s.off = true
  · have HO := Lib.hid ho; clear ho
    go_enter Try.func28, Try.ntmps28
    go_wp2_with fail
    refine (call_off w b F s n H.out HF.out hn HO.out).mono ?_
    rintro e w1 ⟨rfl, h1, k1⟩
    go_wp2_with fail
    go_ret
    refine ⟨by rw [DS.syncR, if_pos HO.out]; rfl, by rw [DS.sync, if_pos HO.out]; exact h1, k1.mono fun k _ e => e ▸ H.out.fb⟩
  · have HO := Lib.hid (eq_false_of_ne_true ho); clear ho
    go_enter Try.func28, Try.ntmps28
    go_wp2_with fail
    refine (call_on w b F s n H.out HF.out hn HO.out).mono ?_
    rintro e w1 ⟨rfl, ⟨nv, sv, lv, p, l, h1⟩, k1⟩
    obtain ⟨c0, c1, c2, c3, c4, c5⟩ := h1.cells
    have hnow : s.now.length ≤ 16777216 := HF.out.now
    have H1 := Lib.hid h1; clear h1 c3 c4 c5
    go_wp2_with fail
    refine (own_any s.now nv _ H1.out.now hnow).mono ?_
    rintro e w2 ⟨nv2, rfl, hown2, k2, hnew⟩
    obtain ⟨o2, cap2, rfl, _⟩ := owns_form hown2
    have h2 := H1.out.keep k2 (fun _ _ h => h)
    obtain ⟨c0, c1, c2, c3, c4, c5⟩ := h2.cells
    have f1 := h2.free 1
    have f2 := h2.free 2
    have H2 := Lib.hid h2; clear h2 c3 c4 c5
    go_wp2_with fail
    go_ret
    have hk := ((Keeps.refl (fun k => k = b) w2).setCell (p := ⟨b, 1, none⟩) (fun _ => rfl) (.slice o2 s.now.length cap2)).setCell (p := ⟨b, 2, none⟩) (fun _ => rfl) (.slice none 0 0)
    have hb2 : ∀ k, (Value.slice o2 s.now.length cap2).ownBlock = some k → ¬ k = b := fun k e e2 => owns_ne_block hown2 H2.out.head (by decide) (e2 ▸ e)
    have s01 := k1.size
    have s12 := k2.size
    refine ⟨by rw [DS.syncR, HO.out]; rfl, ⟨nv, .slice o2 s.now.length cap2, .slice none 0 0, p, l, ?_⟩, ?_⟩
    · rw [show s.sync = s.synced by rw [DS.sync, HO.out]; rfl]
      exact {
        head := heap_set (heap_set H2.out.head)
        fb := .inl H.out.fb
        now := hk.owns H2.out.now fun k e e2 => owns_ne_block H2.out.now H2.out.head (by decide) (e2 ▸ e)
        fnow := fun k e => grow_sub s01 (by simpa using s12) (H2.out.fnow k e)
        syn := hk.owns hown2 hb2
        fsyn := fun k e => .inr ⟨by have := hnew k e; omega, by have := (hown2.lt k e).2; simpa using this⟩
        parts := World.ownsRow_nil _ _ _ _
        fparts := fun k h => (own_none.1 h).elim
        ne := fun k e e2 => by have := hnew k e2; have := (H1.out.now.lt k e).2; omega
        pow := H2.out.pow
        lt := grow_lt H.out.lt (by simp; omega) }
    · have k2' : Keeps (fun k => k = b) w1 w2 := k2.mono fun k _ h => h.elim
      exact ((k1.trans k2').trans hk).mono fun k _ e => e ▸ H.out.fb

theorem read_nil (off m : Int) (w : World) :
    Calls Try.prog 29 #[.pointer none, .int .i64 off, .int .i64 m] w fun e w' => e = .returned (.string (str [])) ∧ w = w' := by
  go_enter Try.func29, Try.ntmps29
  go_wp2
  go_ret
  exact ⟨rfl, rfl⟩

set_option maxHeartbeats 400000 in
theorem read_some (w : World) (b : Nat) (F : Nat → Prop) (s : DS) (off m : Nat) (h : DiskP w b F s) (hl : s.now.length ≤ 16777216) (hoff : off < s.now.length) (hm : 1 ≤ m) (hm' : m ≤ 9223372036854775807) :
    Calls Try.prog 29 #[.pointer (some ⟨b, 0, none⟩), .int .i64 off, .int .i64 m] w fun e w' => e = .returned (.string (str ((s.now.drop off).take m))) ∧ ∃ n, w' = w.drewN n := by
  obtain ⟨nv, sv, lv, p, l, h⟩ := h
  obtain ⟨c0, _⟩ := h.cells
  have hnow := h.now
  obtain ⟨o, cap, rfl, hcap, hcm, hform⟩ := owns_form hnow
  unfold maxLen at hcm
  obtain ⟨r, hr⟩ : ∃ r, s.now.length = off + r := ⟨s.now.length - off, by omega⟩
  obtain ⟨u, hu⟩ : ∃ u, u = min m r := ⟨_, rfl⟩
  have hsub : IntKind.i64.wrap ((s.now.length : Int) - (off : Int)) = (r : Int) := by rw [IntWalk.i64_in _ (by omega)]; omega
  have hmin : (if r < m then (r : Int) else (m : Int)) = (u : Int) := by split <;> omega
  have hs1 : ∀ W, (Instr.slice 56 (.slice o s.now.length cap) (some (.int .i64 (off : Int))) none none).run Try.prog W = .ok (.slice (cutA o cap off) r (cap - off)) W := fun W => by
    rw [run_slice_from (P := Try.prog) 56 5 Try.underlying56 sizeU8 o s.now.length cap off .i64 (by omega) W, hr, Nat.add_sub_cancel_left]
  have hs2 := fun W => run_slice_to (P := Try.prog) 56 5 Try.underlying56 sizeU8 (cutA o cap off) r (cap - off) u .i64 (by omega) W
  have hs3 : ∀ nq, (convert 56 9 (.slice (cutA o cap off) u (cap - off))).run Try.prog (w.drewN nq) = .ok (.string (str ((s.now.drop off).take m))) (w.drewN nq) := fun nq => by
    refine run_string_of (w.drewN nq) 56 9 5 (cutA o cap off) u (cap - off) _ Try.underlying56 Try.underlying5 Try.underlying9 (by simp; omega) (fun hp => ?_)
    rcases hform with ⟨_, h0, _⟩ | ⟨g, cur, rfl, _⟩
    · omega
    · refine ⟨_, cutA_some rfl (by omega), fun j hj => ?_⟩
      have hj' : j < m ∧ off + j < s.now.length := by simp at hj; omega
      have hc : w.cell? ⟨g, off + j, none⟩ = some (bv s.now[off + j]) := by
        have := owns_cells hnow _ rfl (off + j) (bv s.now[off + j]) (by simp [bvs, hj'.2])
        rwa [addr_add, Nat.zero_add] at this
      rw [addr_add]
      have : (List.take m (List.drop off s.now))[j] = s.now[off + j]'hj'.2 := by simp
      rw [this]; exact hc
  have H := Lib.hid h
  have HR := Lib.hid hr
  have HU := Lib.hid hu
  clear h hnow hform hr hu
  go_enter Try.func29, Try.ntmps29
  go_wp2_with fail
  go_quiet (fail)
  go_wp2_with fail
  go_ret
  exact ⟨rfl, _, rfl⟩

theorem read_none (w : World) (b : Nat) (F : Nat → Prop) (s : DS) (off m : Int) (h : DiskP w b F s) (hl : s.now.length ≤ 16777216) (hn : off < 0 ∨ m < 1 ∨ (s.now.length : Int) ≤ off) :
    Calls Try.prog 29 #[.pointer (some ⟨b, 0, none⟩), .int .i64 off, .int .i64 m] w fun e w' => e = .returned (.string (str [])) ∧ w = w' := by
  obtain ⟨nv, sv, lv, p, l, h⟩ := h
  obtain ⟨c0, _⟩ := h.cells
  obtain ⟨o, cap, rfl, hcap, hcm, hform⟩ := owns_form h.now
  have H := Lib.hid h
  clear h hform
  by_cases h1 : off < 0
  · go_enter Try.func29, Try.ntmps29
    go_wp2
    go_ret
    exact ⟨rfl, rfl⟩
  · by_cases h2 : m < 1
    · clear hn
      go_enter Try.func29, Try.ntmps29
      go_wp2
      go_ret
      exact ⟨rfl, rfl⟩
    · have h3 : (s.now.length : Int) ≤ off := by omega
      clear hn
      go_enter Try.func29, Try.ntmps29
      go_wp2
      go_ret
      exact ⟨rfl, rfl⟩

theorem read_any (w : World) (b : Nat) (F : Nat → Prop) (s : DS) (off m : Int) (h : DiskP w b F s) (hl : s.now.length ≤ 16777216) (hm : m ≤ 9223372036854775807) :
    Calls Try.prog 29 #[.pointer (some ⟨b, 0, none⟩), .int .i64 off, .int .i64 m] w fun e w' => e = .returned (.string (str (readL s.now off m))) ∧ ∃ n, w' = w.drewN n := by
  by_cases hc : off < 0 ∨ m < 1 ∨ (s.now.length : Int) ≤ off
  · refine (read_none w b F s off m h hl hc).mono fun e w' ⟨h1, h2⟩ => ⟨?_, 0, h2 ▸ rfl⟩
    rw [h1, readL, if_pos hc]
  · obtain ⟨a, ha⟩ : ∃ a : Nat, off = a := ⟨off.toNat, by omega⟩
    obtain ⟨c, hcc⟩ : ∃ c : Nat, m = c := ⟨m.toNat, by omega⟩
    subst ha; subst hcc
    have hr : readL s.now (a : Int) (c : Int) = (s.now.drop a).take c := by rw [readL, if_neg hc]; simp
    rw [hr]
    exact read_some w b F s a c h hl (by omega) (by omega) (by omega)
#print axioms read_any
#print axioms sync_any
end Go.Proofs.Ytmigbpfeobjhkaa
