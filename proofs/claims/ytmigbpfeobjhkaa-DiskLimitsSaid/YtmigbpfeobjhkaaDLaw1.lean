/-
  The contracts of the laws' helpers: Mod, Where, Long, survive, repeated. Conditions: bounds on numbers.
-/
import Derived.Test.YtmigbpfeobjhkaaDRef3
namespace Go.Proofs.Ytmigbpfeobjhkaa
open Go Go.RowKit
attribute [local go_sem ↓] Go.wp_at_zero Go.wp_at_succ

theorem mod_num (n m : Int) (hm : 0 < m) (hm' : m ≤ 4611686018427387904) : (wrap64 (n.tmod m + m)).tmod m = n % m := by
  have h1 := Int.lt_tmod_of_pos n hm
  have h2 := Int.tmod_lt_of_pos n hm
  rw [IntWalk.wrap64_in _ ⟨by omega, by omega⟩]
  rw [Int.tmod_eq_emod_of_nonneg (by omega)]
  have h3 : n.tmod m + m = n + m * (1 - n.tdiv m) := by
    have := Int.tmod_add_mul_tdiv n m
    rw [Int.mul_sub, Int.mul_one]
    omega
  rw [h3, Int.add_mul_emod_self_left]

theorem mod_any (n m : Int) (w : World) (hm : 0 < m) (hm' : m ≤ 4611686018427387904) :
    Calls Try.prog 22 #[.int .i64 n, .int .i64 m] w fun e w' => e = .returned (.int .i64 (n % m)) ∧ w = w' := by
  have H := Lib.hid (mod_num n m hm hm')
  go_enter Try.func22, Try.ntmps22
  go_wp2
  go_ret
  exact ⟨by rw [← H.out]; rfl, rfl⟩

def whereL (o : Int) : Int := if o < 0 ∨ 16777216 < o then o else o % 300
def act (k o n : Int) (t : List UInt8) : Value := .agg #[.int .i64 k, .int .i64 o, .int .i64 n, .string (str t)]

theorem where_any (k o n : Int) (t : List UInt8) (w : World) :
    Calls Try.prog 34 #[act k o n t] w fun e w' => e = .returned (.int .i64 (whereL o)) ∧ Keeps noBlock w w' := by
  unfold act
  by_cases h1 : o < 0
  · have HW := Lib.hid (show whereL o = o by rw [whereL, if_pos (.inl h1)])
    go_enter Try.func34, Try.ntmps34
    go_wp2
    go_ret
    exact ⟨by rw [HW.out]; rfl, (Keeps.refl _ _).alloc _⟩
  · by_cases h2 : 16777216 < o
    · have HW := Lib.hid (show whereL o = o by rw [whereL, if_pos (.inr h2)])
      go_enter Try.func34, Try.ntmps34
      go_wp2
      go_ret
      exact ⟨by rw [HW.out]; rfl, (Keeps.refl _ _).alloc _⟩
    · have HW := Lib.hid (show whereL o = o % 300 by rw [whereL, if_neg (by omega)])
      go_enter Try.func34, Try.ntmps34
      go_wp2_with fail
      refine (mod_any _ _ _ (by omega) (by omega)).mono ?_
      rintro e w1 ⟨rfl, rfl⟩
      go_wp2_with fail
      go_ret
      exact ⟨by rw [HW.out]; rfl, (Keeps.refl _ _).alloc _⟩

def longF : Nat → Nat → List UInt8 → List UInt8 → List UInt8
  | 0, _, _, s => s
  | f + 1, m, t, s => if 0 < s.length ∧ s.length < m then longF f m t (s ++ t) else s
def longL (n : Int) (t : List UInt8) : List UInt8 := (longF 200 (n % 200).toNat t t).take 200
theorem length_longL (n : Int) (t : List UInt8) : (longL n t).length ≤ 200 := by simp [longL]; omega
theorem longF_stop (f m : Nat) (t s : List UInt8) (h : ¬ (0 < s.length ∧ s.length < m)) : longF f m t s = s := by
  cases f with
  | zero => rfl
  | succ f => rw [longF, if_neg h]

/-- the text in the loop of Long -/
def LongRel (w : World) (m : Nat) (t : List UInt8) (v : Value) (wr : World) : Prop :=
  ∃ (s : List UInt8) (f : Nat), v = .string (str s) ∧ longF 200 m t t = longF f m t s ∧ m ≤ s.length + f ∧ (s = t ∨ t.length < 200 ∧ 0 < t.length ∧ s.length < 400) ∧ wr = w

set_option maxHeartbeats 400000 in
theorem long_any (k o n : Int) (t : List UInt8) (w : World) (ht : t.length ≤ 9223372036854775807) :
    Calls Try.prog 36 #[act k o n t] w fun e w' => e = .returned (.string (str (longL n t))) ∧ Keeps noBlock w w' := by
  unfold act
  obtain ⟨m, hm⟩ : ∃ m : Nat, n % 200 = m := ⟨(n % 200).toNat, by omega⟩
  have hm2 : m < 200 := by omega
  have hL : longL n t = (longF 200 m t t).take 200 := by rw [longL, hm]; simp
  have HM := Lib.hid hm
  have HL := Lib.hid hL
  have hst := size_str t
  clear hm hL
  go_enter Try.func36, Try.ntmps36
  go_wp2_with fail
  obtain ⟨w0, hw0⟩ : ∃ w0 : World, w0 = w.alloc (.cells #[.int .i64 k, .int .i64 o, .int .i64 n, .string (str t)] 33) := ⟨_, rfl⟩
  have x2 : w0.cell? ⟨w.heap.size, 2, none⟩ = some (.int .i64 n) := by rw [hw0]; simp
  have x3 : w0.cell? ⟨w.heap.size, 3, none⟩ = some (.string (str t)) := by rw [hw0]; simp
  have kw : Keeps noBlock w w0 := by rw [hw0]; exact (Keeps.refl _ _).alloc _
  rw [← hw0]
  have HW0 := Lib.hid hw0
  have HKW := Lib.hid kw
  clear hw0 kw
  go_loopw [3] (LongRel w0 m t) (fun v _ => 200 - strLen v)
  case atStart => exact ⟨t, 200, rfl, rfl, by omega, .inl rfl, rfl⟩
  case round =>
    obtain ⟨s, f, rfl, hf, hfm, hsl, rfl⟩ := hrel
    have hss := size_str s
    by_cases h1 : 0 < s.length
    · by_cases h2 : s.length < m
      · have HF := Lib.hid hf
        have HS := Lib.hid hsl
        have hadd := fun W => run_add_str (P := Try.prog) s t (by have := hsl.elim (fun h => (by rw [h] at h2; omega : t.length < 200)) (fun h => h.1); omega) W
        clear hf hsl
        go_wp2_with fail
        refine (mod_any _ _ _ (by omega) (by omega)).mono ?_
        rintro e w1 ⟨rfl, rfl⟩
        rw [HM.out]
        go_wp2_with fail
        go_roundw
        case rel =>
          refine ⟨s ++ t, f - 1, rfl, ?_, ?_, ?_, rfl⟩
          · have hf := HF.out
            obtain ⟨g, hg⟩ : ∃ g, f = g + 1 := ⟨f - 1, by omega⟩
            rw [hf, hg, longF, if_pos ⟨h1, h2⟩]; rfl
          · rw [List.length_append]
            have : 0 < t.length := HS.out.elim (fun h => by rw [h] at h1; exact h1) (fun h => h.2.1)
            omega
          · rw [List.length_append]
            rcases HS.out with h | h
            · subst h; exact .inr ⟨by omega, h1, by omega⟩
            · exact .inr ⟨h.1, h.2.1, by omega⟩
        case measure =>
          show 200 - (str (s ++ t)).size < 200 - (str s).size
          have : 0 < t.length := HS.out.elim (fun h => by rw [h] at h1; exact h1) (fun h => h.2.1)
          rw [size_str, size_str, List.length_append]; omega
      · have h2' : m ≤ s.length := by omega
        have hsl400 : s.length ≤ 9223372036854775807 := hsl.elim (fun h => by rw [h]; exact ht) (fun h => by omega)
        have hend : longL n t = s.take 200 := by rw [HL.out, hf, longF_stop _ _ _ _ (by omega)]
        have HE := Lib.hid hend
        clear hend hf hsl
        by_cases h200 : 200 < s.length
        · have HE2 := Lib.hid (show str (longL n t) = (str s).extract 0 200 by rw [HE.out, extract_str]; rfl)
          go_wp2_with fail
          refine (mod_any _ _ _ (by omega) (by omega)).mono ?_
          rintro e w1 ⟨rfl, rfl⟩
          rw [HM.out]
          go_wp2_with fail
          go_ret
          exact ⟨by rw [HE2.out]; rfl, HKW.out⟩
        · have HE2 := Lib.hid (show str (longL n t) = (str s).extract 0 s.length by rw [HE.out, extract_str, List.take_of_length_le (by omega), List.drop_zero, Nat.sub_zero, List.take_length])
          go_wp2_with fail
          refine (mod_any _ _ _ (by omega) (by omega)).mono ?_
          rintro e w1 ⟨rfl, rfl⟩
          rw [HM.out]
          go_wp2_with fail
          go_ret
          exact ⟨by rw [HE2.out]; rfl, HKW.out⟩
    · have h1' : s.length ≤ 0 := by omega
      have hsl400 : s.length ≤ 9223372036854775807 := hsl.elim (fun h => by rw [h]; exact ht) (fun h => by omega)
      have hend : longL n t = s.take 200 := by rw [HL.out, hf, longF_stop _ _ _ _ (by omega)]
      have HE := Lib.hid hend
      clear hend hf hsl
      by_cases h200 : 200 < s.length
      · have HE2 := Lib.hid (show str (longL n t) = (str s).extract 0 200 by rw [HE.out, extract_str]; rfl)
        go_wp2_with fail
        go_ret
        exact ⟨by rw [HE2.out]; rfl, HKW.out⟩
      · have HE2 := Lib.hid (show str (longL n t) = (str s).extract 0 s.length by rw [HE.out, extract_str, List.take_of_length_le (by omega), List.drop_zero, Nat.sub_zero, List.take_length])
        go_wp2_with fail
        go_ret
        exact ⟨by rw [HE2.out]; rfl, HKW.out⟩

def surviveL (n : Int) : List Int := [n, n.tdiv 2, n.tdiv 3, n.tdiv 5, n.tdiv 7].take (n % 6).toNat

theorem tdiv_fits (n m : Int) (hm : 0 < m) (h0 : -9223372036854775808 ≤ n) (h1 : n ≤ 9223372036854775807) : -9223372036854775808 ≤ n.tdiv m ∧ n.tdiv m ≤ 9223372036854775807 := by
  have h := Int.natAbs_tdiv_le_natAbs n m
  by_cases hn : 0 ≤ n
  · have := Int.tdiv_nonneg hn (Int.le_of_lt hm)
    omega
  · have := Int.tdiv_nonneg (a := -n) (b := m) (by omega) (Int.le_of_lt hm)
    rw [Int.neg_tdiv] at this
    omega

theorem survive_any (n : Int) (w : World) (h0 : -9223372036854775808 ≤ n) (h1 : n ≤ 9223372036854775807) :
    Calls Try.prog 25 #[.int .i64 n] w fun e w' => ∃ v, e = .returned v ∧ Ints w' v (surviveL n) ∧ Keeps noBlock w w' := by
  obtain ⟨m, hm⟩ : ∃ m : Nat, n % 6 = m := ⟨(n % 6).toNat, by omega⟩
  have HM := Lib.hid hm
  have hm6 : m < 6 := by omega
  clear hm
  have hs2 := fun W => run_slice_to (P := Try.prog) 36 3 Try.underlying36 (by kernel_rfl) (some ⟨w.heap.size, 0, none⟩) 5 5 m .i64 (by omega) W
  go_enter Try.func25, Try.ntmps25
  go_wp2_with fail
  refine (mod_any _ _ _ (by omega) (by omega)).mono ?_
  rintro e w1 ⟨rfl, rfl⟩
  rw [HM.out]
  go_wp2_with fail
  go_ret
  have hlen : (surviveL n).length = m := by simp [surviveL, HM.out]; omega
  have b2 : -9223372036854775808 ≤ n.tdiv 2 ∧ n.tdiv 2 ≤ 9223372036854775807 := tdiv_fits n 2 (by omega) h0 h1
  have b3 := tdiv_fits n 3 (by omega) h0 h1
  have b5 := tdiv_fits n 5 (by omega) h0 h1
  have b7 := tdiv_fits n 7 (by omega) h0 h1
  refine ⟨_, rfl, ⟨some ⟨w.heap.size, 0, none⟩, 5, by rw [hlen]; rfl, by omega, by omega, fun _ => ⟨w.heap.size, 0, rfl, fun i hi => ?_⟩, fun x hx => ?_⟩, (Keeps.refl _ _).alloc _⟩
  · rw [Nat.zero_add, World.cell?_alloc_new]
    have hi5 : i < 5 := by omega
    have hq : (surviveL n)[i] = [n, n.tdiv 2, n.tdiv 3, n.tdiv 5, n.tdiv 7][i] := by simp [surviveL]
    rw [hq]
    match i, hi5 with
    | 0, _ => rfl
    | 1, _ => rfl
    | 2, _ => rfl
    | 3, _ => rfl
    | 4, _ => rfl
  · have hx := List.mem_of_mem_take hx
    simp only [List.mem_cons, List.not_mem_nil, or_false] at hx
    rcases hx with rfl | rfl | rfl | rfl | rfl
    · exact ⟨h0, h1⟩
    · exact b2
    · exact b3
    · exact b5
    · exact b7

theorem rep_set (k n : Nat) (c : UInt8) (h : k < n) : (bvs (List.replicate k c ++ List.replicate (n - k) 0)).set k (bv c) = bvs (List.replicate (k + 1) c ++ List.replicate (n - (k + 1)) 0) := by
  obtain ⟨m, hm⟩ : ∃ m, n - k = m + 1 := ⟨n - k - 1, by omega⟩
  have hm2 : n - (k + 1) = m := by omega
  rw [hm, hm2]
  unfold bvs
  rw [← List.map_set]
  congr 1
  rw [List.set_append_right _ _ (by simp)]
  simp only [List.length_replicate, Nat.sub_self, List.replicate_succ, List.set_cons_zero]
  rw [← List.replicate_succ, List.replicate_succ', List.append_assoc]; rfl

/-- the bytes in the loop of repeated -/
def RepRel (w : World) (c : UInt8) (n : Nat) (i : Value) (wr : World) : Prop :=
  ∃ k : Nat, i = .int .i64 k ∧ k ≤ n ∧ wr.ownsRow 0 5 1 (.slice (some ⟨w.heap.size, 0, none⟩) n n) n (bvs (List.replicate k c ++ List.replicate (n - k) 0)) ∧ Keeps noBlock w wr

set_option maxHeartbeats 400000 in
theorem repeated_any (c : UInt8) (n : Nat) (w : World) (hn : n ≤ 16777216) :
    Calls Try.prog 26 #[bv c, .int .i64 n] w fun e w' => e = .returned (.string (str (List.replicate n c))) ∧ Keeps noBlock w w' := by
  obtain ⟨i0, hi, hz0, hz1, hz2⟩ := info_parts infoU8
  unfold bv
  go_enter Try.func26, Try.ntmps26
  go_wp2_with fail
  obtain ⟨w1, hrun, hown1, hgrow1⟩ := run_make_full (P := Try.prog) w 0 56 5 i0 (.int .u8 0) 1 Try.underlying56 hi hz0 hz1 .i64 .i64 n (by rw [hz2]; omega) (by unfold maxLen; omega) (Nat.zero_le _)
  rw [hrun]
  clear hrun
  go_wp2_with fail
  have k1 : Keeps noBlock w w1 := (Keeps.refl _ _).grown hgrow1 (by simp)
  rw [Nat.mul_one, bvs_zeros] at hown1
  have hs1 := k1.size
  have HO := Lib.hid hown1
  clear hown1 hgrow1
  go_loopw [6] (RepRel w c n) (fun i _ => n - (intOf i).toNat)
  case atStart => exact ⟨0, rfl, Nat.zero_le _, by simpa using HO.out, k1⟩
  case round =>
    obtain ⟨k, rfl, hk, hown, hkr⟩ := hrel
    have HKR := Lib.hid hkr
    have HOR := Lib.hid hown
    clear hkr k1 hs1
    by_cases hlt : k < n
    · obtain ⟨o, cap, ho, _, _, hform⟩ := owns_form hown
      simp only [Value.slice.injEq] at ho
      obtain ⟨g, cur, hg, hh, hsz, _⟩ := hform.resolve_left (by omega)
      obtain ⟨ho1, _, ho2⟩ := ho
      subst ho1
      simp only [Option.some.injEq, Addr.mk.injEq] at hg
      obtain ⟨hg, _⟩ := hg
      subst hg; subst ho2
      have hc : ∃ v, wr.cell? ⟨w.heap.size, k, none⟩ = some v := ⟨cur[k]'(by omega), by rw [cell_of_heap hh]; exact Array.getElem?_eq_getElem _⟩
      obtain ⟨v, hv⟩ := hc
      have hf := frozen_of_heap hh k
      have hl0 : (0 : Int) ≤ (k : Int) := by omega
      have hl1 : (k : Int) < (n : Int) := by omega
      clear hown hform hh hsz
      go_wp2_with fail
      go_roundw
      case rel =>
        refine ⟨k + 1, by simp, by omega, ?_, HKR.out.setCell (fun h => absurd h (Nat.lt_irrefl _)) _⟩
        have := HOR.out.stored k (bv c)
        rw [rep_set k n c hlt] at this
        exact this.1
      case measure => simp [intOf]; omega
    · clear hown
      obtain rfl : k = n := by omega
      have hcv := run_string_of (P := Try.prog) wr 56 9 5 (some ⟨w.heap.size, 0, none⟩) k k (List.replicate k c) Try.underlying56 Try.underlying5 Try.underlying9 (by simp)
        (fun _ => ⟨_, rfl, fun j hj => by rw [addr_add]; have := owns_cells HOR.out _ rfl j (bv c) (by simp at hj; simp [bvs, hj]); rw [addr_add] at this; simpa using this⟩)
      go_wp2_with fail
      go_ret
      exact ⟨rfl, HKR.out⟩
#print axioms repeated_any
#print axioms survive_any
#print axioms long_any
end Go.Proofs.Ytmigbpfeobjhkaa
