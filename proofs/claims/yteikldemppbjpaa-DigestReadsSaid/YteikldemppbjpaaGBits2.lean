/-
  DigestBits: the law's walk: it returns true, and writes nothing that was there. No condition.
-/
import Derived.Test.YteikldemppbjpaaGHelp
import Derived.Deep.RegionHeld3
namespace Go.Proofs.Yteikldemppbjpaa
open Go Go.RowKit
set_option linter.unusedVariables false

theorem xor_bit (o : UInt8) (r : Nat) (hr : r < 8) : ∃ z : UInt8, bits .xor .u8 (o.toNat : Int) (2 ^ r % 256) = (z.toNat : Int) := by
  have h : ∀ (n : Fin 256) (r : Fin 8), 0 ≤ bits .xor .u8 ((n.val : Nat) : Int) (2 ^ r.val % 256) ∧ bits .xor .u8 ((n.val : Nat) : Int) (2 ^ r.val % 256) < 256 := by decide +kernel
  obtain ⟨h1, h2⟩ := h ⟨o.toNat, o.toNat_lt⟩ ⟨r, hr⟩
  refine ⟨UInt8.ofNat (bits .xor .u8 (o.toNat : Int) (2 ^ r % 256)).toNat, ?_⟩
  rw [UInt8.toNat_ofNat']
  dsimp only at h1 h2
  omega

theorem run_storeCells_list {P : Program} (w : World) (t : TypeId) (c : Array Value) (cs : List Value) (hi : (P.info? t).map (·.size) = some cs.length) (ho : c.size = cs.length) (h1 : cs.toArray.all (·.oneCell') = true) :
    (storeCells ⟨w.heap.size, 0, none⟩ cs 0).run P (w.alloc (.cells c t)) = .ok () (w.alloc (.cells cs.toArray t)) :=
  run_storeCells_new w t c cs.toArray (by rw [List.size_toArray]; exact hi) (by rw [List.size_toArray]; exact ho) h1

set_option maxHeartbeats 4000000 in
theorem bits_walk (s : ByteArray) (bit : Int) (w : World) (ws : s.size ≤ maxLen) (hm : (Lit.int .i64 bit).wf = true) : Calls Try.prog 7 #[.string s, .int .i64 bit] w fun e w' => e = .returned (.bool true) ∧ Below w.heap.size w w' := by
  unfold maxLen at ws
  clear hm
  obtain ⟨l, rfl⟩ : ∃ l, s = str l := ⟨s.data.toList, (str_data s).symm⟩
  rw [size_str] at ws
  obtain ⟨K, hK⟩ : ∃ K : Nat, K = min l.length 200 := ⟨_, rfl⟩
  have hm : min (l.length : Int) 200 = (K : Int) := by omega
  have hsz : (str l).size = l.length := size_str l
  obtain ⟨x, hx⟩ : ∃ x, x = l.take K := ⟨_, rfl⟩
  have hex : (str l).extract 0 K = str x := by rw [hx, extract_str, List.drop_zero, Nat.sub_zero]
  have hxl : x.length ≤ 200 := by rw [hx, List.length_take]; omega
  have hxs : (str x).size ≤ 200 := by rw [size_str]; exact hxl
  obtain ⟨n, hn⟩ : ∃ n, n = l.length := ⟨_, rfl⟩
  rw [← hn] at hsz hm ws
  obtain ⟨y, hy⟩ : ∃ y, y = x ++ [101, 110, 100] := ⟨_, rfl⟩
  have hxy : str x ++ (⟨#[101, 110, 100]⟩ : ByteArray) = str y := by rw [hy]; exact str_append x [101, 110, 100]
  obtain ⟨m, hm2⟩ : ∃ m, m = y.length := ⟨_, rfl⟩
  have hm3 : 3 ≤ m := by rw [hm2, hy, List.length_append]; simp
  have hm203 : m ≤ 203 := by rw [hm2, hy, List.length_append]; simp; omega
  clear hx hK hn hy
  go_enter Try.func7, Try.ntmps7
  go_wp2_with fail
  refine (sanity_any w).mono ?_
  rintro e w1 ⟨rfl, k1⟩
  have K1 := Lib.hid k1; clear k1
  go_wp2_with fail
  have hcv := Lib.run_convert_string_bytes (P := Try.prog) w1 9 33 5 (str y) Try.underlying9 Try.underlying33 Try.underlying5
  obtain ⟨r2, k2⟩ := row8_of_string w1 5 (str y)
  have hdl : (str y).data.toList = y := rfl
  have hds : (str y).size = m := by rw [hm2]; exact size_str y
  obtain ⟨cap, hcap⟩ : ∃ c, c = grownCap w1 (str y).size 0 5 := ⟨_, rfl⟩
  obtain ⟨w2, hw2⟩ : ∃ w2, w2 = Lib.bytesWorld w1 5 (str y) := ⟨_, rfl⟩
  rw [hdl] at r2
  rw [← hw2, ← hcap] at hcv
  rw [← hw2, ← hcap] at r2
  rw [← hw2] at k2
  rw [hds] at hcv r2
  have R2 := Lib.hid r2; have K2 := Lib.hid k2
  clear r2 k2 hdl hcap hw2 hxy
  rw [hcv]
  clear hcv
  obtain ⟨k, hk⟩ : ∃ k : Nat, bit % (8 * (m : Int)) = (k : Int) := ⟨(bit % (8 * (m : Int))).toNat, by have := Int.emod_nonneg bit (show 8 * (m : Int) ≠ 0 by omega); omega⟩
  have hkm : k < 8 * m := by
    have := Int.emod_lt_of_pos bit (show (0 : Int) < 8 * (m : Int) by omega)
    omega
  have HK := Lib.hid hk; clear hk
  have HM2 := Lib.hid hm2
  clear hex hm hsz hxl hxs ws hm2 hds
  have hmm : IntKind.i64.wrap (8 * (m : Int)) = 8 * (m : Int) := IntWalk.i64_in _ (by omega)
  go_wp2_with fail
  refine (mod_any bit (8 * (m : Int)) w2 (by omega) (by omega)).mono ?_
  rintro e w' ⟨rfl, rfl⟩
  rw [HK.out]
  go_wp2_with fail
  obtain ⟨g, cap', hg, hB, hgl, hcl, ht, hr⟩ := R2.out
  simp only [Value.slice.injEq, Option.some.injEq, Addr.mk.injEq] at hg
  obtain ⟨⟨hg, -⟩, -, hcc⟩ := hg
  subst hg; subst hcc
  obtain ⟨d, hd⟩ : ∃ d, d = k / 8 := ⟨_, rfl⟩
  obtain ⟨r, hrr⟩ : ∃ r, r = k % 8 := ⟨_, rfl⟩
  have hdm : d < m := by omega
  have hdy : d < y.length := by rw [← HM2.out]; exact hdm
  obtain ⟨o, ho⟩ : ∃ o, o = y.getD d 0 := ⟨_, rfl⟩
  have hc : w2.cell? ⟨w1.heap.size, d, none⟩ = some (.int .u8 (o.toNat : Int)) := by
    have := hr d (bv o) (by simp [bvs, ho, hdy, List.getD_eq_getElem?_getD])
    rw [Nat.zero_add] at this
    exact this
  have hf : w2.frozen? ⟨w1.heap.size, d, none⟩ = false := by
    have := (ht d (by omega)).2
    simpa using this
  have e1 : (k : Int).tdiv 8 = (d : Int) := by rw [Int.tdiv_eq_ediv_of_nonneg (by omega)]; omega
  have e1' : (k : Int) / 8 = (d : Int) := by omega
  have e2 : (k : Int).tmod 8 = (r : Int) := by rw [Int.tmod_eq_emod_of_nonneg (by omega)]; omega
  have e2' : (k : Int) % 8 = (r : Int) := by omega
  have hd0 : (0 : Int) ≤ (d : Int) := by omega
  have hd1 : (d : Int) < (m : Int) := by omega
  have hr0 : (0 : Int) ≤ (r : Int) := by omega
  have hr1 : (r : Int) < 8 := by omega
  have HT := Lib.hid ht; have HR := Lib.hid hr
  clear ht hr hB hgl hcl hd hrr ho
  go_wp2_with fail
  apply wp_oneEnd
  · go_region
    all_goals exact ⟨rfl, rfl⟩
  go_wp2_with fail
  obtain ⟨z, hz⟩ := xor_bit o r (by omega)
  rw [hz]
  obtain ⟨Y, hY⟩ : ∃ Y, Y = y.set d z := ⟨_, rfl⟩
  have hYl : Y.length = m := by rw [hY, List.length_set, HM2.out]
  have hgh : w1.heap.size < w2.heap.size := by
    obtain ⟨_, _, _, _, hh, _⟩ := R2.out
    obtain ⟨g, cap', hg, hB, hgl, hcl, ht, hr⟩ := R2.out
    simp only [Value.slice.injEq, Option.some.injEq, Addr.mk.injEq] at hg
    omega
  obtain ⟨w3, hw3⟩ : ∃ w3, w3 = (w2.setCell ⟨w1.heap.size, d, none⟩ (.int .u8 (z.toNat : Int))).drew := ⟨_, rfl⟩
  have hrng : ∀ j (hj : j < Y.length), w3.cell? ⟨w1.heap.size, j, none⟩ = some (bv Y[j]) := by
    intro j hj
    rw [hw3, World.cell?_drew]
    by_cases e : d = j
    · subst e
      rw [World.cell?_setCell_same _ _ _ hc]
      simp [hY, bv]
    · refine cell_set_ne _ _ _ _ _ _ e ?_
      have := HR.out j (bv Y[j]) (by simp [bvs, hY, List.getElem_set_ne e, show j < y.length by rw [← HM2.out, ← hYl]; exact hj])
      rw [Nat.zero_add] at this
      exact this
  have k3 : Keeps noBlock w1 w3 := by rw [hw3]; exact (K2.out.setCell (fun h => absurd h (Nat.lt_irrefl _)) _).drew
  have hgh3 : w1.heap.size < w3.heap.size := by rw [hw3]; simpa [World.setCell] using hgh
  have hcs : ∀ W, Keeps noBlock w3 W → (convert 33 9 (.slice (some ⟨w1.heap.size, 0, none⟩) m cap)).run Try.prog W = .ok (.string (str Y)) W := by
    intro W hW
    refine run_string_of W 33 9 5 _ m cap Y Try.underlying33 Try.underlying5 Try.underlying9 hYl.symm (fun _ => ⟨_, rfl, fun j hj => ?_⟩)
    rw [addr_add, Nat.zero_add, cell_keep hW hgh3 (fun e => e)]
    exact hrng j hj
  have hYs : Y.length ≤ 203 := by omega
  have K3 := Lib.hid k3; have HCS := Lib.hid hcs
  rw [← hw3]
  clear hcs k3 hrng hgh3 hgh hw3 hY hYl hz hc hf e1 e1' e2 e2' hd0 hd1 hr0 hr1 hdy hdm hmm
  have h1 := HCS.out w3 (Keeps.refl _ _)
  rw [h1]
  clear h1
  go_wp2_with fail
  refine (sum_str Y w3 (by omega)).mono ?_
  rintro e w4 ⟨rfl, k4⟩
  have K4 := Lib.hid k4; clear k4
  have heq := eq_hash (sha Y) (sha Y) (sha_length Y) (sha_length Y)
  rw [beq_self_eq_true] at heq
  obtain ⟨RL, hRL⟩ : ∃ RL, RL = bvs (sha Y) := ⟨_, rfl⟩
  have hs2 : ∀ W, Calls Try.prog 13 #[.string (str Y)] W fun e w' => e = .returned (.agg RL.toArray) ∧ Keeps noBlock W w' := fun W => by rw [hRL]; exact rsum_str Y W (by omega)
  have HS2 := Lib.hid hs2
  have hRs : RL.length = 32 := by rw [hRL]; simp [bvs, sha_length]
  have hinf : (Try.prog.info? 24).map (·.size) = some RL.length := by rw [hRs]; kernel_rfl
  have hone : RL.toArray.all (·.oneCell') = true := by rw [hRL]; exact all_oneCell_toArray (oneCell_bvs _)
  rw [← hRL] at heq
  rw [← hRL]
  have hund := Try.underlying24
  have HINF := Lib.hid hinf; have HONE := Lib.hid hone; have HRS := Lib.hid hRs
  clear hs2 hRL hone hRs hinf
  have hRs := HRS.out
  go_wp2_with fail
  rw [run_storeCells_list w4 _ _ RL HINF.out (by rw [HRS.out]; rfl) HONE.out]
  obtain ⟨w5, hw5⟩ : ∃ w5, w5 = w4.alloc (Obj.cells RL.toArray 24) := ⟨_, rfl⟩
  have h5 : w5.heap[w4.heap.size]? = some (.cells RL.toArray 24 (0, 0)) := by rw [hw5]; exact heap_alloc_at
  have k5 : Keeps noBlock w3 w5 := by rw [hw5]; exact K4.out.alloc _
  have H5 := Lib.hid h5; have K5 := Lib.hid k5
  have hall : ∀ W, Keeps noBlock w5 W → (W.rangeAt w4.heap.size 0 RL ∧ (convert 33 9 (.slice (some ⟨w1.heap.size, 0, none⟩) m cap)).run Try.prog W = .ok (.string (str Y)) W ∧ Keeps noBlock w5 W) := by
    intro W hW
    refine ⟨fun j v hv => ?_, HCS.out W (K5.out.trans hW), hW⟩
    rw [Nat.zero_add, cell_of_heap (hW.heap H5.out (fun e => e))]
    simpa using hv
  have HA := Lib.hid hall
  rw [← hw5]
  clear h5 k5 hw5 hall hkm hm3 hm203 hYs
  go_wp2_with fail
  go_region_held3 (fun w' => w'.rangeAt w4.heap.size 0 RL ∧ (convert 33 9 (.slice (some ⟨w1.heap.size, 0, none⟩) m cap)).run Try.prog w' = .ok (.string (str Y)) w' ∧ Keeps noBlock w5 w')
    (first
      | exact HA.out _ (Keeps.refl _ _)
      | exact HA.out _ (Keeps.refl _ _).drew
      | (go_split_ands; exact HA.out _ (by first | exact Keeps.trans (by assumption) k2 | exact Keeps.trans (Keeps.drew (by assumption)) k2))
      | (go_split_ands; exact HA.out _ (Keeps.drew (by assumption))))
    (first
      | (go_at_call_of 13 (str Y); refine (HS2.out _).mono ?_; rintro e w2 ⟨rfl, k2⟩))
  all_goals
    go_split_ands
    have kl := Lib.hid (Keeps.trans ((K1.out.trans K3.out).trans K5.out) (by assumption))
    clear heq
    go_wp2_with fail
    go_ret
    exact ⟨rfl, keeps_below kl.out⟩
end Go.Proofs.Yteikldemppbjpaa
