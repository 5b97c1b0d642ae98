/-
  DigestReads: the law's walk: it returns true, and writes nothing that was there. No condition.
-/
import Derived.Test.YteikldemppbjpaaGRead
import Derived.Test.YteikldemppbjpaaGBits2
import Derived.Deep.RegionHeld3
import Derived.BigRegion
namespace Go.Proofs.Yteikldemppbjpaa
open Go Go.RowKit
set_option linter.unusedVariables false

/-- a normal end, in a state that R says -/
def EndIs (R : Act → World → Prop) : Exit → Act → World → Prop
  | .normal, a, w => R a w
  | _, _, _ => False
theorem wp_endIs {P : Program} {c : Code} {Q : Exit → Act → World → Prop} {a : Act} {w : World} {R : Act → World → Prop}
    (h : c.wp P (EndIs R) a w) (hk : ∀ a w, R a w → Q .normal a w) : c.wp P Q a w :=
  Code.wp_mono (by intro e a w h; cases e <;> first | exact hk _ _ h | exact h.elim) h

/-- a load of a whole row under a guard that says yes -/
theorem wpList_load_row_guard {P : Program} {ops : Array Oper} {rest : List Oper} {o : Oper} {a : Act} {w : World} {Q : Exit → Act → World → Prop} (hgd : Region.wanted o (yielded ops a.tmps) = true) (ty : TypeId) (x : Operand) (ho : o.op = .load ty x)
    (g : Nat) (hx : a.eval x = .pointer (some ⟨g, 0, none⟩)) (t : TypeId) (cs : Array Value) (fr : Nat × Nat) (d : TypeDesc) (hg : w.heap[g]? = some (.cells cs t fr))
    (hu : P.underlying ty = some d) (hd : (match d with | .struct _ | .array _ _ => true | _ => false) = true) (hi : (P.info? ty).map (·.size) = some cs.size)
    (h : wpList P ops Q rest (a.put o.dst (.agg cs)) w) : wpList P ops Q (o :: rest) a w := by
  rw [wpList, if_pos hgd]
  exact Or.inl (wp_load_row ty x ho g hx t cs fr d hg hu hd hi h)

set_option maxRecDepth 100000 in
set_option maxHeartbeats 4000000 in
theorem reads_walk (h : List UInt8) (q0 q1 : Int) (s : ByteArray) (w : World) (hh : h.length = 32) (h0 : (Lit.int .i64 q0).wf = true) (h1 : (Lit.int .i64 q1).wf = true) (ws : s.size ≤ maxLen) : Calls Try.prog 9 #[.agg (bvs h).toArray, .agg #[.int .i64 q0, .int .i64 q1], .string s] w fun e w' => e = .returned (.bool true) ∧ Below w.heap.size w w' := by
  unfold maxLen at ws
  obtain ⟨l, rfl⟩ : ∃ l, s = str l := ⟨s.data.toList, (str_data s).symm⟩
  rw [size_str] at ws
  obtain ⟨t, ht⟩ : ∃ t, t = textL h := ⟨_, rfl⟩
  have htl : t.length = 64 := by rw [ht, textL_length, hh]
  have hts : (str t).size = 64 := by rw [size_str, htl]
  have hrt : readL t = (h, true) := by rw [ht]; exact read_text h hh
  obtain ⟨k, hk⟩ : ∃ k : Nat, q0 % 64 = (k : Int) := ⟨(q0 % 64).toNat, by omega⟩
  have hk64 : k < 64 := by omega
  have HK := Lib.hid hk; have HH := Lib.hid hh; have HRT := Lib.hid hrt; have HTL := Lib.hid htl
  have hht : ∀ W, Calls Try.prog 16 #[.agg (bvs h).toArray] W fun e w' => e = .returned (.string (str t)) ∧ Keeps noBlock W w' := fun W => by rw [ht]; exact text_any h W hh
  have HT := Lib.hid hht
  have h5 : ((w.alloc (.cells (bvs h).toArray 24)).alloc (.cells #[.int .i64 q0, .int .i64 q1] 35)).heap[w.heap.size]? = some (.cells (bvs h).toArray 24 (0, 0)) := heap_alloc_at0
  have h6 : ((w.alloc (.cells (bvs h).toArray 24)).alloc (.cells #[.int .i64 q0, .int .i64 q1] 35)).heap[w.heap.size + 1]? = some (.cells #[.int .i64 q0, .int .i64 q1] 35 (0, 0)) := heap_alloc_at1
  obtain ⟨w0, hw0⟩ : ∃ w0, w0 = (w.alloc (.cells (bvs h).toArray 24)).alloc (.cells #[.int .i64 q0, .int .i64 q1] 35) := ⟨_, rfl⟩
  have k0 : Keeps noBlock w w0 := by rw [hw0]; exact ((Keeps.refl _ _).alloc _).alloc _
  rw [← hw0] at h5 h6
  have HW0 := Lib.hid hw0; have K0 := Lib.hid k0; have H6 := Lib.hid h6
  have hsz : (Try.prog.info? 24).map (·.size) = some (bvs h).toArray.size := by rw [List.size_toArray, length_bvs, hh]; kernel_rfl
  have HSZ := Lib.hid hsz; have H5 := Lib.hid h5
  clear hk hh hrt htl hht ht h0 h1 h5 hsz hw0 k0 h6
  go_enter Try.func9, Try.ntmps9
  go_wp2_with fail
  rw [← HW0.out]
  refine (sanity_any _).mono ?_
  rintro e w1 ⟨rfl, k1⟩
  have HA1 := Lib.hid (k1.heap H5.out (fun e => e)); have HB1 := Lib.hid (k1.heap H6.out (fun e => e))
  have K1 := Lib.hid (K0.out.trans k1); clear k1
  go_wp2_with (refine wpList_load_row rfl _ _ rfl w.heap.size rfl _ (bvs h).toArray (0, 0) _ HA1.out Try.underlying24 rfl HSZ.out ?_)
  refine (HT.out _).mono ?_
  rintro e w2 ⟨rfl, k2⟩
  have HA2 := Lib.hid (k2.heap HA1.out (fun e => e)); have HB2 := Lib.hid (k2.heap HB1.out (fun e => e))
  have hq0 : w2.cell? ⟨w.heap.size + 1, 0, none⟩ = some (.int .i64 q0) := by rw [cell_of_heap HB2.out]; rfl
  have hq1 : w2.cell? ⟨w.heap.size + 1, 1, none⟩ = some (.int .i64 q1) := by rw [cell_of_heap HB2.out]; rfl
  have K2 := Lib.hid (K1.out.trans k2); clear k2
  go_wp2_with fail
  refine (mod_any q0 64 _ (by decide) (by decide)).mono ?_
  rintro e w' ⟨rfl, rfl⟩
  rw [HK.out]
  have hrd := read_any t w2 (by rw [HTL.out]; decide)
  rw [HRT.out] at hrd
  have HRD := Lib.hid hrd
  clear hrd
  go_wp2_with fail
  refine HRD.out.mono ?_
  rintro e w3 ⟨rfl, k3⟩
  have HA3 := Lib.hid (k3.heap HA2.out (fun e => e)); have HB3 := Lib.hid (k3.heap HB2.out (fun e => e))
  have K3 := Lib.hid (K2.out.trans k3); clear k3 hq0 hq1
  have hq1 : w3.cell? ⟨w.heap.size + 1, 1, none⟩ = some (.int .i64 q1) := by rw [cell_of_heap HB3.out]; rfl
  obtain ⟨HL, hHL⟩ : ∃ L, L = bvs h := ⟨_, rfl⟩
  have hll : HL.length = 32 := by rw [hHL, length_bvs, HH.out]
  have hinf : (Try.prog.info? 24).map (·.size) = some HL.length := by rw [hll]; kernel_rfl
  have hone : HL.toArray.all (·.oneCell') = true := by rw [hHL]; exact all_oneCell_toArray (oneCell_bvs _)
  have HINF := Lib.hid hinf; have HONE := Lib.hid hone; have HLL := Lib.hid hll; have HHL := Lib.hid hHL
  dsimp only
  rw [← hHL]
  clear hHL hinf hone
  go_wp2_with fail
  rw [run_storeCells_list w3 _ _ HL HINF.out (by rw [HLL.out]; rfl) HONE.out]
  obtain ⟨w4, hw4⟩ : ∃ w4, w4 = w3.alloc (Obj.cells HL.toArray 24) := ⟨_, rfl⟩
  have hc4 : w4.heap[w3.heap.size]? = some (.cells HL.toArray 24 (0, 0)) := by rw [hw4]; exact heap_alloc_at
  have k4 : Keeps noBlock w3 w4 := by rw [hw4]; exact (Keeps.refl _ _).alloc _
  have HA4 := Lib.hid (k4.heap HA3.out (fun e => e)); have HB4 := Lib.hid (k4.heap HB3.out (fun e => e)); have HC4 := Lib.hid hc4
  have K4 := Lib.hid (K3.out.trans k4)
  rw [← hw4]
  clear hw4 hc4 k4 hq1
  have hq1 : w4.cell? ⟨w.heap.size + 1, 1, none⟩ = some (.int .i64 q1) := by rw [cell_of_heap HB4.out]; rfl
  obtain ⟨kk, hkk⟩ : ∃ n : Nat, n = k + 1 := ⟨_, rfl⟩
  have hkk1 : (k : Int) + 1 = (kk : Int) := by omega
  obtain ⟨tp, htp⟩ : ∃ x, x = t.take k := ⟨_, rfl⟩
  obtain ⟨tq, htq⟩ : ∃ x, x = t.drop kk := ⟨_, rfl⟩
  have d1 := run_slice_str_to (P := Try.prog) 9 Try.underlying9 t .i64 k (by rw [HTL.out]; omega)
  have d2 := run_slice_str_from (P := Try.prog) 9 Try.underlying9 t .i64 kk (by rw [HTL.out]; omega)
  rw [← htp] at d1
  rw [← htq] at d2
  have hs1 : (str tp).size ≤ 64 := by rw [size_str, htp, List.length_take]; omega
  have hs2 : (str tq).size ≤ 64 := by rw [size_str, htq, List.length_drop, HTL.out]; omega
  obtain ⟨y, hy⟩ : ∃ y : UInt8, q1 % 256 = (y.toNat : Int) := ⟨UInt8.ofNat (q1 % 256).toNat, by rw [UInt8.toNat_ofNat']; omega⟩
  have hk0 : (0 : Int) ≤ (k : Int) := by omega
  have hk1 : (k : Int) ≤ 64 := by omega
  have hcv : ∀ W W' : World, W'.heap[W.heap.size]? = some (.cells #[.int .u8 (y.toNat : Int)] 5 (0, 0)) → (convert 33 9 (.slice (some ⟨W.heap.size, 0, none⟩) 1 1)).run Try.prog W' = .ok (.string (str [y])) W' := fun W W' hW => by
    refine run_string_of (P := Try.prog) _ 33 9 5 _ 1 1 [y] Try.underlying33 Try.underlying5 Try.underlying9 rfl (fun _ => ⟨_, rfl, fun j hj => ?_⟩)
    obtain rfl : j = 0 := by simp at hj; omega
    rw [addr_add, Nat.zero_add, cell_of_heap hW]
    rfl
  have hwr : IntKind.u8.wrap q1 = (y.toNat : Int) := by rw [← hy]; rfl
  obtain ⟨Sb, hSb⟩ : ∃ S : Obj, S = .cells #[.int .u8 (y.toNat : Int)] 5 := ⟨_, rfl⟩
  obtain ⟨Ab, hAb⟩ : ∃ A : Obj, A = .cells #[.string ⟨#[]⟩, .string ⟨#[]⟩, .string ⟨#[]⟩, .string ⟨#[]⟩, .string ⟨#[]⟩] 38 := ⟨_, rfl⟩
  have hqd : w4.drew.cell? ⟨w.heap.size + 1, 1, none⟩ = some (.int .i64 q1) := hq1
  have hqa : (w4.alloc Ab).drew.cell? ⟨w.heap.size + 1, 1, none⟩ = some (.int .i64 q1) := ((Keeps.refl noBlock w4).alloc Ab).drew.cell hq1 (fun e => e)
  have hc1 := hcv w4 (w4.alloc Sb).drew (by rw [hSb]; exact heap_alloc_at)
  have hc2 := hcv (w4.alloc Ab) ((w4.alloc Ab).alloc Sb).drew (by rw [hSb]; exact heap_alloc_at)
  have hc3 := hcv w4 ((w4.alloc Sb).alloc Ab).drew (by rw [hSb]; exact heap_alloc_at0)
  rw [show (w4.alloc Ab).heap.size = w4.heap.size + 1 by simp] at hc2
  rw [hSb] at hc1
  rw [hSb, hAb] at hc2 hc3
  rw [hAb] at hqa
  have hzp : (str tp).size = k := by rw [size_str, htp, List.length_take, HTL.out]; omega
  obtain ⟨zq, hzq⟩ : ∃ z, z = (str tq).size := ⟨_, rfl⟩
  have hzq64 : zq ≤ 64 := by rw [hzq]; exact hs2
  have hz1 : (str [y]).size = 1 := size_str [y]
  have hpy : (str tp ++ str [y]).size = k + 1 := by rw [str_append, size_str, List.length_append, ← size_str tp, hzp]; rfl
  have hpA : (str tp ++ (⟨#[65]⟩ : ByteArray)).size = k + 1 := by rw [show (⟨#[65]⟩ : ByteArray) = str [65] from rfl, str_append, size_str, List.length_append, ← size_str tp, hzp]; rfl
  have hn1 : ¬ 9223372036854775807 < k + 1 := by omega
  have hn2 : ¬ 9223372036854775807 < k + 1 + zq := by omega
  have hn3 : ¬ 9223372036854775807 ≤ k := by omega
  rw [eq_comm] at hzq
  obtain ⟨x1, hx1⟩ : ∃ x, x = tp ++ [y] ++ tq := ⟨_, rfl⟩
  obtain ⟨x3, hx3⟩ : ∃ x, x = t ++ [48] := ⟨_, rfl⟩
  obtain ⟨x4, hx4⟩ : ∃ x, x = tp ++ [65] ++ tq := ⟨_, rfl⟩
  have e1 : str tp ++ str [y] ++ str tq = str x1 := by rw [hx1, ← str_append, ← str_append]
  have e3 : str t ++ (⟨#[48]⟩ : ByteArray) = str x3 := by rw [hx3, ← str_append]; rfl
  have e4 : str tp ++ (⟨#[65]⟩ : ByteArray) ++ str tq = str x4 := by rw [hx4, ← str_append, ← str_append]; rfl
  have hpl : tp.length ≤ 64 := by rw [← size_str]; omega
  have hql : tq.length ≤ 64 := by rw [← size_str]; omega
  have hlens : ∀ x ∈ [l, x1, tp, x3, x4], x.length ≤ 9223372036854775807 := by
    intro x hx
    simp only [List.mem_cons, List.not_mem_nil, or_false] at hx
    rcases hx with rfl | rfl | rfl | rfl | rfl
    · exact ws
    · rw [hx1]; simp; omega
    · omega
    · rw [hx3]; simp [HTL.out]
    · rw [hx4]; simp; omega
  have E1 := Lib.hid e1; have E3 := Lib.hid e3; have E4 := Lib.hid e4; have HLENS := Lib.hid hlens
  clear e1 e3 e4 hlens hpl hql hx1 hx3 hx4
  clear hkk htp htq hll hcv hSb hAb hy hs1 hs2
  go_wp2_with fail
  refine wp_endIs (R := fun a' w' => ∃ b c : Nat, a' = { tmps := #[Value.agg HL.toArray, Value.agg #[Value.int IntKind.i64 q0, Value.int IntKind.i64 q1], Value.string (str l), Value.pointer (some ⟨w.heap.size, 0, none⟩), Value.pointer (some ⟨w.heap.size + 1, 0, none⟩), undef, Value.bool false, Value.bool true, Value.string (str t), Value.int IntKind.i64 ↑k, Value.pointer (some ⟨w3.heap.size, 0, none⟩), Value.bool true, Value.pointer (some ⟨b, 0, none⟩), undef, undef, undef, undef, undef, Value.bool true, Value.agg HL.toArray, Value.string (str t), Value.string (str t), Value.int IntKind.i64 64, Value.bool false, Value.pointer (some ⟨w.heap.size + 1, 0, none⟩), Value.int IntKind.i64 q0, Value.int IntKind.i64 ↑k, Value.tuple #[Value.agg HL.toArray, Value.bool true], Value.string (str t), Value.tuple #[Value.agg HL.toArray, Value.bool true], Value.agg HL.toArray, Value.bool true, Value.string (str l), Value.string (str t), Value.int IntKind.i64 ↑k, Value.string (str tp), Value.pointer (some ⟨w.heap.size + 1, 1, none⟩), Value.int IntKind.i64 q1, Value.int IntKind.u8 ↑y.toNat, Value.slice (some ⟨c, 0, none⟩) 1 1, Value.string (str [y]), Value.string (str tp ++ str [y]), Value.string (str t), Value.int IntKind.i64 ↑k, Value.int IntKind.i64 ↑kk, Value.string (str tq), Value.string (str tp ++ str [y] ++ str tq), Value.string (str t), Value.int IntKind.i64 ↑k, Value.string (str tp), Value.string (str t), Value.string (str t ++ (⟨#[48]⟩ : ByteArray)), Value.string (str t), Value.int IntKind.i64 ↑k, Value.string (str tp), Value.string (str tp ++ (⟨#[65]⟩ : ByteArray)), Value.string (str t), Value.int IntKind.i64 ↑k, Value.int IntKind.i64 ↑kk, Value.string (str tq), Value.string (str tp ++ (⟨#[65]⟩ : ByteArray) ++ str tq), Value.agg #[Value.string (str l), Value.string (str tp ++ str [y] ++ str tq), Value.string (str tp), Value.string (str t ++ (⟨#[48]⟩ : ByteArray)), Value.string (str tp ++ (⟨#[65]⟩ : ByteArray) ++ str tq)], undef, undef, undef, undef, undef, undef, undef, undef, undef, undef, undef, undef, undef, undef, undef, undef, undef, undef, undef, undef, undef, undef, undef, undef, undef, undef, undef, undef, undef, undef, undef, undef, undef, undef, undef], defers := [] } ∧ w'.heap[b]? = some (.cells #[.string (str l), .string (str tp ++ str [y] ++ str tq), .string (str tp), .string (str t ++ (⟨#[48]⟩ : ByteArray)), .string (str tp ++ (⟨#[65]⟩ : ByteArray) ++ str tq)] 38 (0, 0)) ∧ w4.heap.size ≤ b ∧ Keeps noBlock w4 w') ?_ ?_
  · go_region
    · exact ⟨_, _, rfl, heap_alloc_at1, Nat.le_succ _, (((Keeps.refl noBlock w4).alloc _).alloc _).drew⟩
    · exact ⟨_, _, rfl, heap_alloc_at1, Nat.le_succ _, (((Keeps.refl noBlock w4).alloc _).alloc _).drew⟩
    · exact ⟨_, _, rfl, heap_alloc_at0, Nat.le_refl _, (((Keeps.refl noBlock w4).alloc _).alloc _).drew⟩
  rintro a5 w5 ⟨b, c, rfl, hb, hb4, k5⟩
  rw [E1.out, E3.out, E4.out] at hb
  rw [E1.out, E3.out, E4.out]
  dsimp only
  have hcell : ∀ (W : World), Keeps noBlock w5 W → ∀ i, i < 5 → W.cell? ⟨b, i, none⟩ = some (.string (str ([l, x1, tp, x3, x4].getD i []))) := fun W hk i hi => by
    rw [cell_of_heap (hk.heap hb (fun e => e))]
    match i, hi with
    | 0, _ => rfl
    | 1, _ => rfl
    | 2, _ => rfl
    | 3, _ => rfl
    | 4, _ => rfl
  have hmem : ∀ i, i < 5 → ([l, x1, tp, x3, x4].getD i []).length ≤ 9223372036854775807 := fun i hi => HLENS.out _ (by
    match i, hi with
    | 0, _ => simp
    | 1, _ => simp
    | 2, _ => simp
    | 3, _ => simp
    | 4, _ => simp)
  have HCELL := Lib.hid hcell; have HMEM := Lib.hid hmem; have K5 := Lib.hid k5
  clear hcell hmem hb k5 hqd hqa hc1 hc2 hc3 d1 d2 hwr hzp hzq hz1 hpy hpA hn1 hn2 hn3 hts hkk1
  go_wp2_with fail
  go_loopw [13] (fun i wr => ∃ j : Nat, j ≤ 5 ∧ i = .int .i64 (j : Int) ∧ Keeps noBlock w5 wr) (fun i _ => 5 - (intOf i).toNat)
  case atStart => exact ⟨0, by omega, rfl, Keeps.refl _ _⟩
  case round =>
    obtain ⟨j, hj, rfl, hkr⟩ := hrel
    have hj0 : (0 : Int) ≤ (j : Int) := by omega
    by_cases hlt : j < 5
    · have hj5 : (j : Int) < 5 := by omega
      obtain ⟨x, hx⟩ : ∃ x, x = [l, x1, tp, x3, x4].getD j [] := ⟨_, rfl⟩
      have hxl := HMEM.out j hlt
      have hc := HCELL.out wr hkr j hlt
      rw [← hx] at hxl hc
      have HX := Lib.hid hx; have HKR := Lib.hid hkr; have HXL := Lib.hid hxl
      clear hx hxl hkr
      go_wp2_with fail
      obtain ⟨g, hg⟩ : ∃ g, g = (readL x).1 := ⟨_, rfl⟩
      obtain ⟨f, hf⟩ : ∃ f, f = (readL x).2 := ⟨_, rfl⟩
      have hgl : g.length = 32 := by rw [hg]; exact readL_length x
      have hra := read_any x wr HXL.out
      rw [← hg, ← hf] at hra
      have hrb : ∀ W, Calls Try.prog 19 #[.string (str x)] W fun e w' => e = .returned (.tuple #[.agg (bvs g).toArray, .bool f]) ∧ Keeps noBlock W w' := fun W => by rw [hg, hf]; exact rread_any x W HXL.out
      have heq := eq_hash g g hgl hgl
      rw [beq_self_eq_true] at heq
      obtain ⟨G, hG⟩ : ∃ L, L = bvs g := ⟨_, rfl⟩
      have hGl : G.length = 32 := by rw [hG, length_bvs, hgl]
      have hGone : G.toArray.all (·.oneCell') = true := by rw [hG]; exact all_oneCell_toArray (oneCell_bvs _)
      have hGinf : (Try.prog.info? 24).map (·.size) = some G.length := by rw [hGl]; kernel_rfl
      rw [← hG] at hra hrb heq
      have HRB := Lib.hid hrb; have HGL := Lib.hid hGl; have HGO := Lib.hid hGone; have HGI := Lib.hid hGinf
      clear hg hf hgl hG hGl hGone hGinf hrb
      refine hra.mono ?_
      rintro e wa ⟨rfl, ka⟩
      have KA := Lib.hid (HKR.out.trans ka)
      clear hra ka hc
      dsimp only
      go_wp2_with fail
      rw [run_storeCells_list wa _ _ G HGI.out (by rw [HGL.out]; rfl) HGO.out]
      obtain ⟨wb, hwb⟩ : ∃ W, W = wa.alloc (Obj.cells G.toArray 24) := ⟨_, rfl⟩
      have hcb : wb.heap[wa.heap.size]? = some (.cells G.toArray 24 (0, 0)) := by rw [hwb]; exact heap_alloc_at
      have KB := Lib.hid (show Keeps noBlock w5 wb by rw [hwb]; exact KA.out.alloc _)
      have HCB := Lib.hid hcb
      rw [← hwb]
      clear hwb hcb
      have hc := HCELL.out wb KB.out j hlt
      rw [← HX.out] at hc
      go_wp2_with fail
      refine (HRB.out wb).mono ?_
      rintro e wc ⟨rfl, kc⟩
      have HCC := Lib.hid (kc.heap HCB.out (fun e => e))
      have KC := Lib.hid (KB.out.trans kc)
      clear kc hc
      dsimp only
      go_wp2_with fail
      rw [run_storeCells_list wc _ _ G HGI.out (by rw [HGL.out]; rfl) HGO.out]
      obtain ⟨wd, hwd⟩ : ∃ W, W = wc.alloc (Obj.cells G.toArray 24) := ⟨_, rfl⟩
      have hcd : wd.heap[wc.heap.size]? = some (.cells G.toArray 24 (0, 0)) := by rw [hwd]; exact heap_alloc_at
      have hca : wd.heap[wa.heap.size]? = some (.cells G.toArray 24 (0, 0)) := by
        rw [hwd]; exact ((Keeps.refl noBlock wc).alloc _).heap HCC.out (fun e => e)
      have KD := Lib.hid (show Keeps noBlock w5 wd by rw [hwd]; exact KC.out.alloc _)
      have HCD := Lib.hid hcd; have HCA := Lib.hid hca
      have hGs : (Try.prog.info? 24).map (·.size) = some G.toArray.size := by rw [List.size_toArray]; exact HGI.out
      have HGS := Lib.hid hGs
      have hne : (f != f) = false := by cases f <;> rfl
      rw [← hwd]
      clear hwd hcd hca hGs
      go_wp2_with (first
        | (refine wpList_load_row rfl _ _ rfl wa.heap.size rfl _ G.toArray (0, 0) _ HCA.out Try.underlying24 rfl HGS.out ?_)
        | (refine wpList_load_row rfl _ _ rfl wc.heap.size rfl _ G.toArray (0, 0) _ HCD.out Try.underlying24 rfl HGS.out ?_))
      exact ⟨⟨j + 1, by omega, by go_num, KD.out⟩, by simp [intOf]; omega⟩
    · obtain rfl : j = 5 := by omega
      have hj5 : ¬ ((5 : Nat) : Int) < 5 := by omega
      have hb1 : wr.heap[w3.heap.size]? = some (.cells HL.toArray 24 (0, 0)) := (K5.out.trans hkr).heap HC4.out (fun e => e)
      have hb2 : wr.heap[w.heap.size]? = some (.cells HL.toArray 24 (0, 0)) := by rw [HHL.out]; exact (K5.out.trans hkr).heap HA4.out (fun e => e)
      have hHs : (Try.prog.info? 24).map (·.size) = some HL.toArray.size := by rw [List.size_toArray]; exact HINF.out
      have heq := eq_hash h h HH.out HH.out
      rw [beq_self_eq_true, ← HHL.out] at heq
      have HB1 := Lib.hid hb1; have HB2 := Lib.hid hb2; have HHS := Lib.hid hHs; have HKR := Lib.hid hkr
      clear hb1 hb2 hHs hkr
      go_wp2_with (first
        | (refine wpList_load_row_guard (by rfl) _ _ rfl w3.heap.size rfl _ HL.toArray (0, 0) _ HB1.out Try.underlying24 rfl HHS.out ?_)
        | (refine wpList_load_row_guard (by rfl) _ _ rfl w.heap.size rfl _ HL.toArray (0, 0) _ HB2.out Try.underlying24 rfl HHS.out ?_))
      go_ret
      exact ⟨rfl, keeps_below ((K4.out.trans K5.out).trans HKR.out)⟩
end Go.Proofs.Yteikldemppbjpaa
