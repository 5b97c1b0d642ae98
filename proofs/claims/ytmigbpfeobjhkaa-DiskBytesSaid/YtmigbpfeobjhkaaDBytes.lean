/-
  DiskBytes: the law's walk: it returns true, and writes nothing that was there. No condition.
-/
import Derived.Test.YtmigbpfeobjhkaaDPlays
import Derived.Test.YtmigbpfeobjhkaaDLaws2
namespace Go.Proofs.Ytmigbpfeobjhkaa
open Go Go.RowKit Go.ChangeShapes Go.WideShapes Go.ChangeAt
attribute [local go_sem ↓] Go.wp_at_zero Go.wp_at_succ
set_option linter.unusedVariables false

/-- the loop of DiskBytes -/
def ByRel (w : World) (n : Nat) (i : Value) (wr : World) : Prop := ∃ k : Nat, i = .int .i64 (k : Int) ∧ k ≤ n ∧ Keeps noBlock w wr

set_option maxRecDepth 100000 in
set_option maxHeartbeats 2000000 in
theorem bytes_walk (s0 : ByteArray) (q0 q1 : Int) (l2 : List Int) (v2 : Value) (w : World) (hs0 : s0.size ≤ maxLen) (hq0 : inI64 q0) (hq1 : inI64 q1) (hl2 : Ints w v2 l2) :
    Calls Try.prog 5 #[.string s0, .agg #[.int .i64 q0, .int .i64 q1], v2] w fun e w' => e = .returned (.bool true) ∧ Below w.heap.size w w' := by
  obtain ⟨t0, rfl⟩ : ∃ t, s0 = str t := ⟨_, (str_data s0).symm⟩
  have hsz := size_str t0
  rw [size_str] at hs0
  have hs0 : t0.length ≤ 9223372036854775807 := hs0
  have HQ2 := Lib.hid hl2
  obtain ⟨na, hna⟩ : ∃ n, n = min t0.length 200 := ⟨_, rfl⟩
  have hna1 : na ≤ t0.length := by omega
  have hna2 : na ≤ 200 := by omega
  have hmin : (if (200 : Int) < (t0.length : Int) then (200 : Int) else (t0.length : Int)) = (na : Int) := by split <;> omega
  have hsl := fun W => run_slice_str_to (P := Try.prog) 9 Try.underlying9 t0 .i64 na hna1 W
  obtain ⟨a, ha⟩ : ∃ a, a = t0.take na := ⟨_, rfl⟩
  have hal : a.length = na := by rw [ha]; simp; omega
  rw [← ha] at hsl
  obtain ⟨o, ho⟩ : ∃ o : Nat, q0 % 250 = o := ⟨(q0 % 250).toNat, by omega⟩
  have ho250 : o < 250 := by omega
  obtain ⟨j, hj⟩ : ∃ j : Nat, q1 % 200 = j := ⟨(q1 % 200).toNat, by omega⟩
  have hj200 : j < 200 := by omega
  obtain ⟨n, hn⟩ : ∃ n, n = j + 1 := ⟨_, rfl⟩
  have hz : (1 : Int) + (j : Int) = (n : Int) := by omega
  have hn200 : n ≤ 200 := by omega
  obtain ⟨r1, r2, r3, r4⟩ := bytes_state a o n 238 l2 (by omega) (by omega) (by omega)
  have hf0 := DS.Fine.zero
  have f1 : (DS.zero.write 0 a).Fine 300 := (hf0.write 0 a).mono (by omega)
  have f2 := f1.sync
  have f3 := f2.write o (List.replicate n 238)
  have fc := f3.crash l2
  have R1 := Lib.hid r1; have R2 := Lib.hid r2; have R3 := Lib.hid r3
  have F1 := Lib.hid f1; have F2 := Lib.hid f2; have F3 := Lib.hid f3; have FC := Lib.hid fc.now
  obtain ⟨G, hG⟩ : ∃ G, G = (((DS.zero.write 0 a).sync.write o (List.replicate n 238)).crash l2).now := ⟨_, rfl⟩
  rw [← hG] at r4
  have R4 := Lib.hid r4
  have HG := Lib.hid hG
  obtain ⟨r5, r6, _⟩ := r4
  rw [hal] at r5 r6
  simp only [List.length_replicate] at r6
  have HAL := Lib.hid hal
  have hgl : G.length ≤ 16777216 := by rw [hG]; exact FC.out
  obtain ⟨M, hM⟩ : ∃ M, M = max na (o + n) := ⟨_, rfl⟩
  have hmax : (if (na : Int) < (o : Int) + (n : Int) then (o : Int) + (n : Int) else (na : Int)) = (M : Int) := by split <;> omega
  have r6 : G.length ≤ M := by omega
  have HO := Lib.hid ho
  have HJ := Lib.hid hj
  have hsa := size_str a
  rw [hal] at hsa
  have hsb : (str (List.replicate n 238)).size = n := by rw [size_str]; simp
  clear hl2 hna ha ho hj hn r1 r2 r3 f1 f2 f3 fc hG hM hal hf0
  go_enter Try.func5, Try.ntmps5
  go_wp2_with fail
  obtain ⟨w0, hw0⟩ : ∃ w0, w0 = w.alloc (.cells #[.int .i64 q0, .int .i64 q1] 42) := ⟨_, rfl⟩
  obtain ⟨hp, k0, z0⟩ := box_two w w0 q0 q1 _ hw0
  rw [← hw0]
  have HP := Lib.hid hp
  have K0 := Lib.hid k0
  clear hp k0 hw0
  refine (sanity_any w0).mono ?_
  rintro e w1 ⟨rfl, k1⟩
  have K1 := Lib.hid k1; have z1 := k1.size; clear k1
  go_wp2_with fail
  refine (new_in w1).mono ?_
  rintro e w2 ⟨rfl, d2, k2⟩
  have K2 := Lib.hid ((K1.out.any _).trans (k2.lower z1)); have D2 := Lib.hid d2; have z2 := k2.size
  obtain ⟨p0, p1⟩ := HP.out w2 ((K1.out.any _).trans (k2.lower z1))
  clear k2 d2
  go_wp2_with fail
  refine (mod_any q0 250 w2 (by decide) (by decide)).mono ?_
  rintro e w' ⟨rfl, rfl⟩
  rw [HO.out]
  go_wp2_with fail
  refine (mod_any q1 200 w2 (by decide) (by decide)).mono ?_
  rintro e w' ⟨rfl, rfl⟩
  rw [HJ.out]
  go_wp2_with fail
  refine (repeated_any 238 n w2 (by omega)).mono ?_
  rintro e w3 ⟨rfl, k3⟩
  have D3 := Lib.hid (D2.out.still k3); have K3 := Lib.hid (K2.out.trans (k3.any _)); have z3 := k3.size
  clear k3
  go_wp2_with fail
  refine (write_in w3 w1.heap.size w1.heap.size _ DS.zero 0 0 a D3.out DS.Fine.zero (by decide) (by decide) (by have := HAL.out; omega) (by omega)).mono ?_
  rintro e w4 ⟨rfl, d4, k4⟩
  rw [R1.out]
  have D4 := Lib.hid d4; have K4 := Lib.hid (K3.out.trans (k4.lower z1)); have z4 := k4.size
  clear d4 k4
  go_wp2_with fail
  refine (sync_in w4 w1.heap.size _ _ _ _ D4.out F1.out (by decide) (by omega)).mono ?_
  rintro e w5 ⟨rfl, d5, k5⟩
  rw [R2.out]
  have D5 := Lib.hid d5; have K5 := Lib.hid (K4.out.trans (k5.lower z1)); have z5 := k5.size
  clear d5 k5
  go_wp2_with fail
  refine (write_in w5 w1.heap.size _ _ _ _ o (List.replicate n 238) D5.out F2.out (by decide) (by omega) (by simp; omega) (by omega)).mono ?_
  rintro e w6 ⟨rfl, d6, k6⟩
  rw [R3.out]
  have D6 := Lib.hid d6; have K6 := Lib.hid (K5.out.trans (k6.lower z1)); have z6 := k6.size
  have HQ6 := Lib.hid ((HQ2.out.keep K0.out).from_ (K5.out.trans (k6.lower z1)))
  clear d6 k6
  go_wp2_with fail
  refine (crash_in w6 _ w1.heap.size _ _ _ v2 l2 D6.out F3.out (by simp; omega) HQ6.out).mono ?_
  rintro e w7 ⟨c, rfl, d7, k7⟩
  have D7 := Lib.hid d7; have K7 := Lib.hid (K6.out.trans (k7.any _)); have z7 := k7.size
  clear d7 k7
  go_wp2_with fail
  refine (size_in w7 c _ _ _ D7.out).mono ?_
  rintro e w' ⟨rfl, rfl⟩
  rw [← HG.out]
  go_wp2_with fail
  refine (size_in w7 c _ _ _ D7.out).mono ?_
  rintro e w' ⟨rfl, rfl⟩
  rw [← HG.out]
  go_wp2_with fail
  refine (size_in w7 c _ _ _ D7.out).mono ?_
  rintro e w' ⟨rfl, rfl⟩
  rw [← HG.out]
  go_wp2_with fail
  refine (read_in w7 c _ _ _ 0 (G.length : Int) D7.out (by rw [← HG.out]; exact hgl) (by omega)).mono ?_
  rintro e w8 ⟨rfl, k8⟩
  rw [← HG.out, readL_take G G.length (Nat.le_refl _), List.take_length]
  have D8 := Lib.hid (D7.out.still k8); have K8 := Lib.hid (K7.out.trans (k8.any _)); have z8 := k8.size
  clear k8
  go_wp2_with fail
  refine (size_in w8 c _ _ _ D8.out).mono ?_
  rintro e w' ⟨rfl, rfl⟩
  rw [← HG.out]
  have hsg := size_str G
  go_wp2_with fail
  go_loopw [17] (ByRel w8 G.length) (fun i _ => G.length - (intOf i).toNat)
  case atStart => exact ⟨0, rfl, Nat.zero_le _, Keeps.refl _ _⟩
  case round =>
    obtain ⟨k, rfl, hkl, hkr⟩ := hrel
    have HKR := Lib.hid hkr
    clear hkr
    by_cases hlt : k < G.length
    · have hi0 : (0 : Int) ≤ (k : Int) := by omega
      have hi1 : (k : Int) < (G.length : Int) := by omega
      have hkG : k < (str G).size := by rw [hsg]; exact hlt
      have hbt := R4.out.2.2 k G[k] (List.getElem?_eq_getElem hlt)
      have hgk : (str G)[k]'hkG = G[k] := rfl
      have HGK := Lib.hid hgk
      clear hgk
      rcases hbt with ⟨hka, hab⟩ | ⟨hb1, hb2, hb3⟩ | ⟨hc1, hc2⟩
      · have hal := HAL.out
        have hka : k < na := by omega
        have hkA : k < (str a).size := by rw [hsa]; exact hka
        have hd1 : decide ((k : Int) < (na : Int)) = true := by simp; omega
        have hi2 : (k : Int) < (na : Int) := by omega
        have hak : (str a)[k]'hkA = G[k] := by
          rw [List.getElem?_eq_getElem (by omega)] at hab
          exact Option.some.inj hab
        have heq : ((((str G)[k]'hkG).toNat : Int) == (((str a)[k]'hkA).toNat : Int)) = true := by rw [hak, HGK.out]; simp
        clear hal hak hab
        go_wp2_with fail
        go_quiet (fail)
        go_wp2_with fail
        all_goals
          go_roundw
          case rel => exact ⟨k + 1, by simp, by omega, HKR.out.trans ((Keeps.refl noBlock wr).drewN _)⟩
          case measure => simp [intOf]; omega
      · rw [List.length_replicate] at hb2
        have hd2 : decide ((o : Int) ≤ (k : Int)) = true := by simp; omega
        have hd3 : decide ((k : Int) < (o : Int) + (n : Int)) = true := by simp; omega
        have hi2 : (o : Int) ≤ (k : Int) := by omega
        have hi3 : (k : Int) < (o : Int) + (n : Int) := by omega
        have hnew : ((((str G)[k]'hkG).toNat : Int) == 238) = true := by rw [HGK.out, hb3]; decide
        clear hb3
        by_cases hka : k < na
        · have hkA : k < (str a).size := by rw [hsa]; exact hka
          have hd1 : decide ((k : Int) < (na : Int)) = true := by simp; omega
          have hi4 : (k : Int) < (na : Int) := by omega
          cases heq : ((((str G)[k]'hkG).toNat : Int) == (((str a)[k]'hkA).toNat : Int)) with
          | true =>
            go_wp2_with fail
            go_quiet (fail)
            go_wp2_with fail
            all_goals
              go_roundw
              case rel => exact ⟨k + 1, by simp, by omega, HKR.out.trans ((Keeps.refl noBlock wr).drewN _)⟩
              case measure => simp [intOf]; omega
          | false =>
            go_wp2_with fail
            go_quiet (fail)
            go_wp2_with fail
            all_goals
              go_roundw
              case rel => exact ⟨k + 1, by simp, by omega, HKR.out.trans ((Keeps.refl noBlock wr).drewN _)⟩
              case measure => simp [intOf]; omega
        · have hd1 : decide ((k : Int) < (na : Int)) = false := by simp; omega
          have hi4 : (na : Int) ≤ (k : Int) := by omega
          go_wp2_with fail
          go_quiet (fail)
          go_wp2_with fail
          all_goals
            go_roundw
            case rel => exact ⟨k + 1, by simp, by omega, HKR.out.trans ((Keeps.refl noBlock wr).drewN _)⟩
            case measure => simp [intOf]; omega
      · have hal := HAL.out
        have hka : ¬ k < na := by omega
        have hd1 : decide ((k : Int) < (na : Int)) = false := by simp; omega
        have hi4 : (na : Int) ≤ (k : Int) := by omega
        have hgap : ((((str G)[k]'hkG).toNat : Int) == 0) = true := by rw [HGK.out, hc2]; decide
        clear hal hc1 hc2
        go_wp2_with fail
        go_quiet (fail)
        go_wp2_with fail
        all_goals
          go_roundw
          case rel => exact ⟨k + 1, by simp, by omega, HKR.out.trans ((Keeps.refl noBlock wr).drewN _)⟩
          case measure => simp [intOf]; omega
    · skip
      go_wp2_with fail
      go_ret
      exact ⟨rfl, (((K0.out.any (from_ w.heap.size)).trans ((K8.out.trans (HKR.out.any _)).lower (Nat.le_of_lt z0)))).below (Nat.le_refl _) (fun k hk e => by have : w.heap.size ≤ k := e; omega)⟩
end Go.Proofs.Ytmigbpfeobjhkaa
