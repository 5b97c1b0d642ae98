/-
  The contracts of container/heap's down and Pop at parcels behind a pointer. Conditions: bounds on the number of parcels.
-/
import Derived.Test.YthhimnihgkegiaaNHeap
namespace Go.Proofs.Ythhimnihgkegiaa
open Go Go.RowKit
set_option linter.unusedVariables false

theorem geA_refl (H : List Pc) (c : Nat) : geA H c c := fun a b ha hb => by
  rw [ha] at hb; simp only [Option.some.injEq] at hb; subst hb; exact le_refl' _
theorem geA_of {H : List Pc} {i j : Nat} (hi : i < H.length) (hj : j < H.length) (h : ltB (H[i]'hi) (H[j]'hj) = false) : geA H i j := fun a b ha hb => by
  rw [List.getElem?_eq_getElem hi] at ha
  rw [List.getElem?_eq_getElem hj] at hb
  simp only [Option.some.injEq] at ha hb
  subst ha; subst hb; exact h
theorem min_child (H : List Pc) (n k j : Nat) (hn : n ≤ H.length) (h : (j = 2 * k + 1 ∧ (n ≤ 2 * k + 2 ∨ geA H (2 * k + 2) (2 * k + 1))) ∨ (j = 2 * k + 2 ∧ geA H (2 * k + 1) (2 * k + 2))) :
    ∀ c, 0 < c → c < n → (c - 1) / 2 = k → geA H c j := by
  intro c h0 hc hp
  have hcc : c = 2 * k + 1 ∨ c = 2 * k + 2 := by omega
  rcases h with ⟨rfl, h⟩ | ⟨rfl, h⟩
  · rcases hcc with rfl | rfl
    · exact geA_refl _ _
    · rcases h with h | h
      · omega
      · exact h
  · rcases hcc with rfl | rfl
    · exact h
    · exact geA_refl _ _

/-- the heap in the loop of down -/
def DownRel (w : World) (b o : Nat) (v : Value) (H : List Pc) (n : Nat) (j : Value) (wr : World) : Prop :=
  ∃ (k : Nat) (H' : List Pc), j = .int .i64 (k : Int) ∧ k ≤ n ∧ H'.Perm H ∧ DownInv n H' k ∧ (∀ c, n ≤ c → H'[c]? = H[c]?) ∧ PL wr b o v H' ∧ Keeps (fun k => v.ownBlock = some k) w wr
def DownPost (w : World) (b o : Nat) (v : Value) (H : List Pc) (n : Nat) (w' : World) : Prop :=
  ∃ H', H'.Perm H ∧ HeapTo n H' ∧ (∀ c, n ≤ c → H'[c]? = H[c]?) ∧ PL w' b o v H' ∧ Keeps (fun k => v.ownBlock = some k) w w'
def DownEnd (w : World) (b o : Nat) (v : Value) (H : List Pc) (n : Nat) (e : Ending) (w' : World) : Prop := ∃ x, e = .returned (.bool x) ∧ DownPost w b o v H n w'

set_option maxHeartbeats 1000000 in
theorem down_any {w : World} {b o : Nat} {v : Value} {H : List Pc} {n : Nat} (h : PL w b o v H) (hinv : DownInv n H 0) (hnl : n ≤ H.length) (hn : H.length ≤ 1048576) :
    Calls Try.prog 26 #[.iface 75 (.pointer (some ⟨b, o, none⟩)), .int .i64 0, .int .i64 (n : Int)] w (DownEnd w b o v H n) := by
  have HP := Lib.hid h
  have HI := Lib.hid hinv
  clear h hinv
  go_enter Try.func26, Try.ntmps26
  go_wp2_with fail
  go_loopw [7] (DownRel w b o v H n) (fun j _ => n - (intOf j).toNat)
  case atStart => exact ⟨0, H, rfl, Nat.zero_le _, List.Perm.refl _, HI.out, fun _ _ => rfl, HP.out, Keeps.refl _ _⟩
  case round =>
    obtain ⟨k, H', rfl, hkn, hperm, hinv, hst, hp, hkr⟩ := hrel
    have hlen := hperm.length_eq
    have HPM := Lib.hid hperm
    have HINV := Lib.hid hinv
    have HPL := Lib.hid hp
    have HKR := Lib.hid hkr
    have HST := Lib.hid hst
    have HL := Lib.hid hlen
    clear hperm hinv hp hkr hlen hst
    obtain ⟨c1, hc1⟩ : ∃ c1 : Nat, c1 = 2 * k + 1 := ⟨_, rfl⟩
    obtain ⟨c2, hc2⟩ : ∃ c2 : Nat, c2 = 2 * k + 2 := ⟨_, rfl⟩
    have z1 : 2 * (k : Int) + 1 = (c1 : Int) := by omega
    have z2 : (c1 : Int) + 1 = (c2 : Int) := by omega
    have b0 : (0 : Int) ≤ (c1 : Int) := by omega
    have b1 : c1 ≤ 4000000 := by omega
    have b2 : k < c1 := by omega
    have b3 : c1 < c2 := by omega
    by_cases hc : n ≤ c1
    · have hc' : (n : Int) ≤ (c1 : Int) := by omega
      have HC := Lib.hid (show n ≤ 2 * k + 1 by omega)
      clear hc1 hc2
      go_wp2_with fail
      go_ret
      exact ⟨_, rfl, H', HPM.out, HINV.out.leaf HC.out, HST.out, HPL.out, HKR.out⟩
    · have hc' : (c1 : Int) < (n : Int) := by omega
      have hd : decide ((n : Int) ≤ (c1 : Int)) = false := by simp; omega
      have HC1 := Lib.hid hc1
      have HC2 := Lib.hid hc2
      have hm := m_less _ _ _ HPL.out.cell
      clear hc1 hc2 hc
      have hl1 : c1 < H'.length := by rw [HL.out]; omega
      by_cases h2 : c2 < n
      · have h2' : (c2 : Int) < (n : Int) := by omega
        have hl2 : c2 < H'.length := by rw [HL.out]; omega
        go_wp2_with fail
        refine (less_any HPL.out c2 c1 hl2 hl1 (by rw [HL.out]; omega)).mono ?_
        rintro e w1 ⟨rfl, k1⟩
        obtain ⟨x, hx⟩ : ∃ x, x = ltB (H'[c2]'hl2) (H'[c1]'hl1) := ⟨_, rfl⟩
        rw [← hx]
        have HP1 := Lib.hid (HPL.out.still k1)
        have HX := Lib.hid hx
        have HK1 := Lib.hid (HKR.out.trans (k1.any' _))
        clear hx k1 hm
        cases x with
        | true =>
          have hmc := min_child H' n k c2 (by rw [HL.out]; omega) (.inr ⟨by have := HC2.out; omega, by have h := le_of_lt' HX.out.symm; have e1 := HC1.out; have e2 := HC2.out; subst e1; subst e2; exact geA_of hl1 hl2 h⟩)
          have HMC := Lib.hid hmc
          clear hmc
          have hjl : c2 < H'.length := by rw [HL.out]; omega
          have hm := m_less _ _ _ HP1.out.cell
          go_wp2_with fail
          refine (less_any HP1.out c2 k hjl (by rw [HL.out]; omega) (by rw [HL.out]; omega)).mono ?_
          rintro e w3 ⟨rfl, k3⟩
          have hkl' : k < H'.length := by rw [HL.out]; omega
          obtain ⟨y, hy⟩ : ∃ y, y = ltB (H'[c2]'hjl) (H'[k]'hkl') := ⟨_, rfl⟩
          rw [← hy]
          have hp3 := HP1.out.still k3
          have hm := m_swap _ _ _ hp3.cell
          have HP3 := Lib.hid hp3
          have HY := Lib.hid hy
          have HK3 := Lib.hid (HK1.out.trans (k3.any' _))
          clear hy hp3 k3
          cases y with
          | false =>
            clear hm
            go_wp2_with fail
            go_ret
            refine ⟨_, rfl, H', HPM.out, HINV.out.done (j := c2) (by omega) (by rw [HL.out]; omega) HMC.out ?_, HST.out, HP3.out, HK3.out⟩
            intro a c ha hc
            rw [List.getElem?_eq_getElem hjl] at ha
            rw [List.getElem?_eq_getElem hkl'] at hc
            simp only [Option.some.injEq] at ha hc
            rw [← ha, ← hc]; exact HY.out.symm
          | true =>
            go_wp2_with fail
            refine (swap_any HP3.out k c2 hkl' hjl (by rw [HL.out]; omega)).mono ?_
            rintro e w4 ⟨rfl, hp4, k4⟩
            have HP4 := Lib.hid hp4
            have HK4 := Lib.hid k4
            clear hm hp4 k4
            go_wp2_with fail
            go_roundw
            case rel =>
              refine ⟨c2, swapL H' k c2, rfl, by omega, (swapL_perm H' k c2).trans HPM.out, ?_, ?_, HP4.out, HK3.out.trans HK4.out⟩
              · exact HINV.out.step (by rw [HL.out]; omega) (by omega) (by omega) (by omega) HMC.out (H'[c2]'hjl) (H'[k]'hkl') (List.getElem?_eq_getElem hjl) (List.getElem?_eq_getElem hkl') HY.out.symm
              · intro c hc
                rw [get_swapL H' k c2 c hkl' hjl, show sw k c2 c = c from by unfold sw; rw [if_neg (by omega), if_neg (by omega)]]
                exact HST.out c hc
            case measure => simp [intOf]; omega
        | false =>
          have hmc := min_child H' n k c1 (by rw [HL.out]; omega) (.inl ⟨by have := HC1.out; omega, .inr (by have h := HX.out.symm; have e1 := HC1.out; have e2 := HC2.out; subst e1; subst e2; exact geA_of hl2 hl1 h)⟩)
          have HMC := Lib.hid hmc
          clear hmc
          have hjl : c1 < H'.length := by rw [HL.out]; omega
          have hm := m_less _ _ _ HP1.out.cell
          go_wp2_with fail
          refine (less_any HP1.out c1 k hjl (by rw [HL.out]; omega) (by rw [HL.out]; omega)).mono ?_
          rintro e w3 ⟨rfl, k3⟩
          have hkl' : k < H'.length := by rw [HL.out]; omega
          obtain ⟨y, hy⟩ : ∃ y, y = ltB (H'[c1]'hjl) (H'[k]'hkl') := ⟨_, rfl⟩
          rw [← hy]
          have hp3 := HP1.out.still k3
          have hm := m_swap _ _ _ hp3.cell
          have HP3 := Lib.hid hp3
          have HY := Lib.hid hy
          have HK3 := Lib.hid (HK1.out.trans (k3.any' _))
          clear hy hp3 k3
          cases y with
          | false =>
            clear hm
            go_wp2_with fail
            go_ret
            refine ⟨_, rfl, H', HPM.out, HINV.out.done (j := c1) (by omega) (by rw [HL.out]; omega) HMC.out ?_, HST.out, HP3.out, HK3.out⟩
            intro a c ha hc
            rw [List.getElem?_eq_getElem hjl] at ha
            rw [List.getElem?_eq_getElem hkl'] at hc
            simp only [Option.some.injEq] at ha hc
            rw [← ha, ← hc]; exact HY.out.symm
          | true =>
            go_wp2_with fail
            refine (swap_any HP3.out k c1 hkl' hjl (by rw [HL.out]; omega)).mono ?_
            rintro e w4 ⟨rfl, hp4, k4⟩
            have HP4 := Lib.hid hp4
            have HK4 := Lib.hid k4
            clear hm hp4 k4
            go_wp2_with fail
            go_roundw
            case rel =>
              refine ⟨c1, swapL H' k c1, rfl, by omega, (swapL_perm H' k c1).trans HPM.out, ?_, ?_, HP4.out, HK3.out.trans HK4.out⟩
              · exact HINV.out.step (by rw [HL.out]; omega) (by omega) (by omega) (by omega) HMC.out (H'[c1]'hjl) (H'[k]'hkl') (List.getElem?_eq_getElem hjl) (List.getElem?_eq_getElem hkl') HY.out.symm
              · intro c hc
                rw [get_swapL H' k c1 c hkl' hjl, show sw k c1 c = c from by unfold sw; rw [if_neg (by omega), if_neg (by omega)]]
                exact HST.out c hc
            case measure => simp [intOf]; omega
      · have h2' : ¬ (c2 : Int) < (n : Int) := by omega
        have hd2 : decide ((c2 : Int) < (n : Int)) = false := by simp; omega
        clear hm
        have hmc := min_child H' n k c1 (by rw [HL.out]; omega) (.inl ⟨by have := HC1.out; omega, .inl (by have := HC2.out; omega)⟩)
        have HMC := Lib.hid hmc
        clear hmc
        have hjl : c1 < H'.length := by rw [HL.out]; omega
        have hm := m_less _ _ _ HPL.out.cell
        go_wp2_with fail
        refine (less_any HPL.out c1 k hjl (by rw [HL.out]; omega) (by rw [HL.out]; omega)).mono ?_
        rintro e w3 ⟨rfl, k3⟩
        have hkl' : k < H'.length := by rw [HL.out]; omega
        obtain ⟨y, hy⟩ : ∃ y, y = ltB (H'[c1]'hjl) (H'[k]'hkl') := ⟨_, rfl⟩
        rw [← hy]
        have hp3 := HPL.out.still k3
        have hm := m_swap _ _ _ hp3.cell
        have HP3 := Lib.hid hp3
        have HY := Lib.hid hy
        have HK3 := Lib.hid (HKR.out.trans (k3.any' _))
        clear hy hp3 k3
        cases y with
        | false =>
          clear hm
          go_wp2_with fail
          go_ret
          refine ⟨_, rfl, H', HPM.out, HINV.out.done (j := c1) (by omega) (by rw [HL.out]; omega) HMC.out ?_, HST.out, HP3.out, HK3.out⟩
          intro a c ha hc
          rw [List.getElem?_eq_getElem hjl] at ha
          rw [List.getElem?_eq_getElem hkl'] at hc
          simp only [Option.some.injEq] at ha hc
          rw [← ha, ← hc]; exact HY.out.symm
        | true =>
          go_wp2_with fail
          refine (swap_any HP3.out k c1 hkl' hjl (by rw [HL.out]; omega)).mono ?_
          rintro e w4 ⟨rfl, hp4, k4⟩
          have HP4 := Lib.hid hp4
          have HK4 := Lib.hid k4
          clear hm hp4 k4
          go_wp2_with fail
          go_roundw
          case rel =>
            refine ⟨c1, swapL H' k c1, rfl, by omega, (swapL_perm H' k c1).trans HPM.out, ?_, ?_, HP4.out, HK3.out.trans HK4.out⟩
            · exact HINV.out.step (by rw [HL.out]; omega) (by omega) (by omega) (by omega) HMC.out (H'[c1]'hjl) (H'[k]'hkl') (List.getElem?_eq_getElem hjl) (List.getElem?_eq_getElem hkl') HY.out.symm
            · intro c hc
              rw [get_swapL H' k c1 c hkl' hjl, show sw k c1 c = c from by unfold sw; rw [if_neg (by omega), if_neg (by omega)]]
              exact HST.out c hc
          case measure => simp [intOf]; omega

/-- heap.Pop -/
theorem hpop_any {w : World} {b o : Nat} {v : Value} {H : List Pc} (h : PL w b o v H) (hh : HeapTo H.length H) (h0 : 0 < H.length) (hn : H.length ≤ 1000000) :
    Calls Try.prog 24 #[.iface 75 (.pointer (some ⟨b, o, none⟩))] w fun e w' => e = .returned (.iface 67 (pcVal (H[0]'h0))) ∧
      ∃ v' H', (H[0]'h0 :: H').Perm H ∧ HeapTo H'.length H' ∧ PL w' b o v' H' ∧ Keeps (fun k => k = b ∨ v.ownBlock = some k) w w' ∧ v'.ownBlock = v.ownBlock ∧ HeadSet w w' b o v' := by
  obtain ⟨n, hln⟩ : ∃ n, H.length = n + 1 := ⟨H.length - 1, by omega⟩
  obtain ⟨o1, cap1, hvf, _⟩ := owns_form h.own
  subst hvf
  have hm2 := m_len _ _ _ h.cell
  have hm3 := m_swap _ _ _ h.cell
  have hmp := m_pop ⟨b, o, none⟩
  have HP := Lib.hid h
  have HH := Lib.hid hh
  have HL := Lib.hid hln
  obtain ⟨N, hN⟩ : ∃ N, N = H.length := ⟨_, rfl⟩
  rw [← hN] at hm2 hm3
  have hz : (N : Int) - 1 = (n : Int) := by omega
  have hb1 : n ≤ 1000000 := by omega
  have hb2 : n < N := by omega
  have hb3 : N ≤ 1000000 := by omega
  have HNN := Lib.hid hN
  clear h hh hN hln
  go_enter Try.func24, Try.ntmps24
  go_wp2_with fail
  refine (len_any _ _ _ _).mono ?_
  rintro e w' ⟨rfl, rfl⟩
  go_wp2_with fail
  rw [HNN.out]
  refine (swap_any HP.out 0 n h0 (by rw [HL.out]; omega) (by rw [HL.out]; omega)).mono ?_
  rintro e w1 ⟨rfl, hp1, k1⟩
  have HP1 := Lib.hid hp1
  have HK1 := Lib.hid k1
  clear hp1 k1 hm2 hm3
  rw [← HNN.out] at HP1 HK1 ⊢
  go_wp2_with fail
  have hl1 : (swapL H 0 n).length = n + 1 := by rw [length_swapL, HL.out]
  refine (down_any (n := n) HP1.out (DownInv.start (by rw [← HL.out]; exact HH.out) HL.out) (by omega) (by omega)).mono ?_
  rintro e w2 ⟨x, rfl, H', hperm, hheap, hst, hp2, k2⟩
  have hl2 : H'.length = n + 1 := by rw [hperm.length_eq, hl1]
  have hlast : H' = H'.take n ++ [H[0]'h0] := by
    have h1 : H'[n]? = some (H[0]'h0) := by
      rw [hst n (Nat.le_refl _), get_swapL H 0 n n h0 (by rw [HL.out]; omega)]
      have : sw 0 n n = 0 := by unfold sw; split <;> simp_all
      rw [this]; exact List.getElem?_eq_getElem h0
    apply List.ext_getElem?
    intro i
    rw [List.getElem?_append, List.length_take, hl2]
    by_cases hi : i < n
    · rw [if_pos (by omega), List.getElem?_take, if_pos hi]
    · rw [if_neg (by omega)]
      by_cases hi2 : i = n
      · subst hi2; rw [h1]; simp
      · rw [List.getElem?_eq_none (by omega), List.getElem?_eq_none (by simp; omega)]
  have hp2' : PL w2 b o (.slice o1 N cap1) (H'.take n ++ [H[0]'h0]) := by rw [← hlast]; exact hp2
  have HP2 := Lib.hid hp2'
  have HK2 := Lib.hid (HK1.out.trans k2)
  have HPM := Lib.hid (show (H[0]'h0 :: H'.take n).Perm H from (List.perm_append_comm (l₁ := [H[0]'h0]) (l₂ := H'.take n)).trans (by rw [← hlast]; exact hperm.trans (swapL_perm H 0 n)))
  have HHP := Lib.hid (hheap.take (by omega))
  clear hp2 hp2' hlast hl2 hl1 hperm hheap hst k2
  go_wp2_with fail
  refine (pop_any HP2.out (by simp; omega)).mono ?_
  rintro e w3 ⟨rfl, v', hp3, k3, hv3, hs3⟩
  have HS3 := Lib.hid hs3
  clear hs3
  have HP3 := Lib.hid hp3
  have HK3 := Lib.hid k3
  have HV3 := Lib.hid hv3
  clear hp3 k3 hv3
  go_wp2_with fail
  go_ret
  have hN := HNN.out
  subst hN
  exact ⟨rfl, v', _, HPM.out, HHP.out, HP3.out, (HK2.out.mono fun _ _ e => .inr e).trans (HK3.out.mono fun _ _ e => .inl e), HV3.out, HeadSet.ahead HK2.out HP.out.ne HS3.out⟩
end Go.Proofs.Ythhimnihgkegiaa
