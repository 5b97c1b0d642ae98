/-
  The contracts of (*parcels).Pop and of container/heap's up, down, Push, Pop at parcels behind a pointer. Conditions: bounds on the number of parcels.
-/
import Derived.Test.YthhimnihgkegiaaNProg
namespace Go.Proofs.Ythhimnihgkegiaa
open Go Go.RowKit

theorem run_slice_to_any {P : Program} (t e : TypeId) (sz : Nat) (hu : P.underlying t = some (.slice e)) (hsz : (P.info? e).map (·.size) = some sz) (o : Option Addr) (n cap up : Nat) (k : IntKind) (h : up ≤ cap) (w : World) :
    (Instr.slice t (.slice o n cap) none (some (.int k (up : Int))) none).run P w = .ok (.slice o up cap) w := by
  cases hq : P.info? e with
  | none => simp [hq] at hsz
  | some i =>
    have hle : (up : Int) ≤ cap := by omega
    have ha : (Option.map (fun x : Addr => x.add 0) o) = o := by cases o <;> simp [Addr.add]
    simp [Instr.slice, run_underlying hu, Instr.sliceBounds, Instr.sliceBound, asIntOf, sizeOf, typeInfo, hq, ha]
    intro hh; omega
theorem sizePc : (Try.prog.info? 67).map (·.size) = some 5 := by kernel_rfl

theorem pop_any {w : World} {b o : Nat} {v : Value} {H : List Pc} {p : Pc} (h : PL w b o v (H ++ [p])) (hn : H.length ≤ 1048576) :
    Calls Try.prog 46 #[.pointer (some ⟨b, o, none⟩)] w fun e w' => e = .returned (.iface 67 (pcVal p)) ∧
      ∃ v', PL w' b o v' H ∧ Keeps (fun k => k = b) w w' ∧ v'.ownBlock = v.ownBlock ∧ HeadSet w w' b o v' := by
  unfold pcVal
  obtain ⟨g, cap, rfl, _⟩ := h.own.form (by simp)
  have hle : (H ++ [p]).length = H.length + 1 := by simp
  have hpc := owns_pc h.own H.length (by simp)
  rw [List.getElem_append_right (Nat.le_refl _)] at hpc
  simp only [Nat.sub_self, List.getElem_cons_zero] at hpc
  obtain ⟨p0, p1, p2, p3, p4⟩ := hpc
  have hcap : H.length + 1 ≤ cap := by
    obtain ⟨o2, cap2, e, h1, _⟩ := owns_form h.own
    simp only [Value.slice.injEq] at e
    obtain ⟨_, _, rfl⟩ := e
    rw [hle] at h1; exact h1
  have hbl : b < w.heap.size := World.block_lt_of_cell? w _ h.cell
  have hc := h.cell
  have hfr := h.fr
  rw [hle] at hc
  have HP := Lib.hid h
  have HL := Lib.hid hle
  clear h hle
  have hsl := fun W => run_slice_to_any (P := Try.prog) 51 67 5 Try.underlying51 sizePc (some ⟨g, 0, none⟩) (H.length + 1) cap H.length .i64 (by omega) W
  have hi0 : (0 : Int) ≤ (H.length : Int) := by omega
  have hi1 : (H.length : Int) < (H.length : Int) + 1 := by omega
  go_enter Try.func46, Try.ntmps46
  go_wp2_with fail
  go_ret
  have hgb : b ≠ g := fun e => HP.out.ne (by rw [own_slice]; exact e)
  refine ⟨rfl, .slice (some ⟨g, 0, none⟩) H.length cap, ?_, ?_, rfl, (HeadSet.set _ _ _ _).behind (S := noBlock) ((Keeps.refl _ _).alloc _) (fun e => e)⟩
  · have hown := HP.out.own
    rw [HL.out] at hown
    have hown2 : w.ownsRow 0 67 5 (.slice (some ⟨g, 0, none⟩) H.length cap) H.length (pcs H) := by
      rcases hown.2 with ⟨h0, _⟩ | ⟨g', cap', cur, h0, hb, hh, h1, h2, h3, h4⟩
      · cases h0
      · simp only [Value.slice.injEq, Option.some.injEq, Addr.mk.injEq] at h0
        obtain ⟨⟨rfl, _⟩, _, rfl⟩ := h0
        refine ⟨length_pcs _, .inr ⟨g, cap, cur, rfl, hb, hh, by omega, h2, h3, ?_⟩⟩
        have := congrArg (List.take (H.length * 5)) h4
        rw [List.take_take, pcs_take, Nat.min_eq_left (by omega)] at this
        simpa using this
    have h1 : PL (w.setCell ⟨b, o, none⟩ (.slice (some ⟨g, 0, none⟩) H.length cap)) b o (.slice (some ⟨g, 0, none⟩) H.length cap) H := by
      refine ⟨?_, ?_, ?_, ?_⟩
      · exact World.cell?_setCell_same' _ _ _ (by rw [hc]; rfl)
      · rw [World.frozen?_setCell]; exact hfr
      · refine owns_of_block hown2 fun k e => ?_
        rw [own_slice] at e
        subst e
        exact Below.heap_setCell _ _ _ _ (fun e => hgb e.symm)
      · rw [Ne, own_slice]; exact hgb
    exact h1.still ((Keeps.refl _ _).alloc _)
  · exact ((Keeps.refl (fun k => k = b) w).setCell (p := ⟨b, o, none⟩) (fun _ => rfl) _).alloc _

/-- the heap in the loop of up -/
def UpRel (w : World) (b o : Nat) (v : Value) (H : List Pc) (j : Value) (wr : World) : Prop :=
  ∃ (k : Nat) (H' : List Pc), j = .int .i64 (k : Int) ∧ k < H.length ∧ H'.Perm H ∧ UpInv H' k ∧ PL wr b o v H' ∧ Keeps (fun k => v.ownBlock = some k) w wr
def SiftPost (w : World) (b o : Nat) (v : Value) (H : List Pc) (w' : World) : Prop :=
  ∃ H', H'.Perm H ∧ HeapTo H'.length H' ∧ PL w' b o v H' ∧ Keeps (fun k => v.ownBlock = some k) w w'

theorem up_any {w : World} {b o : Nat} {v : Value} {H : List Pc} {k0 : Nat} (h : PL w b o v H) (hinv : UpInv H k0) (hk : k0 < H.length) (hn : H.length ≤ 1048576) :
    Calls Try.prog 25 #[.iface 75 (.pointer (some ⟨b, o, none⟩)), .int .i64 (k0 : Int)] w fun e w' => e = .returned (.tuple #[]) ∧ SiftPost w b o v H w' := by
  have HP := Lib.hid h
  have HI := Lib.hid hinv
  clear h hinv
  go_enter Try.func25, Try.ntmps25
  go_wp2_with fail
  go_loopw [1] (UpRel w b o v H) (fun j _ => (intOf j).toNat)
  case atStart => exact ⟨k0, H, rfl, hk, List.Perm.refl _, HI.out, HP.out, Keeps.refl _ _⟩
  case round =>
    obtain ⟨k, H', rfl, hkl, hperm, hinv, hp, hkr⟩ := hrel
    have hlen := hperm.length_eq
    have HPM := Lib.hid hperm
    have HINV := Lib.hid hinv
    have HPL := Lib.hid hp
    have HKR := Lib.hid hkr
    have hm := m_less _ _ _ hp.cell
    have HL := Lib.hid hlen
    clear hperm hinv hp hkr hlen
    by_cases hk0 : k = 0
    · subst hk0
      clear hm
      go_wp2_with fail
      go_end0
      exact ⟨rfl, H', HPM.out, HINV.out.done0, HPL.out, HKR.out⟩
    · obtain ⟨i, hi⟩ : ∃ i, i = (k - 1) / 2 := ⟨_, rfl⟩
      have hz : ((k : Int) - 1) / 2 = (i : Int) := by omega
      have hik : i < k := by omega
      have hne : ((i : Int) == (k : Int)) = false := by simp; omega
      have h1k : 1 ≤ k := by omega
      have HII := Lib.hid hi
      clear hi hk0
      go_wp2_with fail
      refine (less_any HPL.out k i (by rw [HL.out]; omega) (by rw [HL.out]; omega) (by rw [HL.out]; omega)).mono ?_
      rintro e w1 ⟨rfl, k1⟩
      have hkl' : k < H'.length := by rw [HL.out]; omega
      have hil' : i < H'.length := by rw [HL.out]; omega
      obtain ⟨x, hx⟩ : ∃ x, x = ltB H'[k] H'[i] := ⟨_, rfl⟩
      rw [← hx]
      have hp1 := HPL.out.still k1
      have hm := m_swap _ _ _ hp1.cell
      have HP1 := Lib.hid hp1
      have HX := Lib.hid hx
      have HK1 := Lib.hid k1
      clear hx hp1 k1
      cases x with
      | false =>
        clear hm
        go_wp2_with fail
        go_end0
        refine ⟨rfl, H', HPM.out, HINV.out.done (by omega) ?_, HP1.out, HKR.out.trans (HK1.out.any' _)⟩
        rw [← HII.out]
        intro a c ha hc
        rw [List.getElem?_eq_getElem hkl'] at ha
        rw [List.getElem?_eq_getElem hil'] at hc
        simp only [Option.some.injEq] at ha hc
        rw [← ha, ← hc]; exact HX.out.symm
      | true =>
        go_wp2_with fail
        refine (swap_any HP1.out i k hil' hkl' (by rw [HL.out]; omega)).mono ?_
        rintro e w2 ⟨rfl, hp2, k2⟩
        have HP2 := Lib.hid hp2
        have HK2 := Lib.hid k2
        clear hm hp2 k2
        go_wp2_with fail
        go_roundw
        case rel =>
          refine ⟨i, swapL H' i k, rfl, by omega, (swapL_perm H' i k).trans HPM.out, ?_, HP2.out, (HKR.out.trans (HK1.out.any' _)).trans HK2.out⟩
          have := HINV.out.step (by omega) hkl' H'[k] H'[i] (List.getElem?_eq_getElem hkl') (by rw [← HII.out]; exact List.getElem?_eq_getElem hil') HX.out.symm
          rw [← HII.out] at this
          exact this
        case measure => simp [intOf]; omega

/-- heap.Push -/
theorem hpush_any {w : World} {b o : Nat} {v : Value} {H : List Pc} (h : PL w b o v H) (hh : HeapTo H.length H) (p : Pc) (hn : H.length ≤ 1000000) :
    Calls Try.prog 22 #[.iface 75 (.pointer (some ⟨b, o, none⟩)), .iface 67 (pcVal p)] w fun e w' => e = .returned (.tuple #[]) ∧
      ∃ v' H', H'.Perm (p :: H) ∧ HeapTo H'.length H' ∧ PL w' b o v' H' ∧ Keeps (fun k => k = b ∨ v.ownBlock = some k) w w' ∧ (∀ k, v'.ownBlock = some k → v.ownBlock = some k ∨ w.heap.size ≤ k) ∧ HeadSet w w' b o v' := by
  have hm := m_push ⟨b, o, none⟩
  have HP := Lib.hid h
  have HH := Lib.hid hh
  clear h hh
  obtain ⟨pv, hpv⟩ : ∃ x, x = pcVal p := ⟨_, rfl⟩
  rw [← hpv]
  have HPV := Lib.hid hpv
  clear hpv
  go_enter Try.func22, Try.ntmps22
  go_wp2_with fail
  rw [HPV.out]
  refine (push_any HP.out p (by omega)).mono ?_
  rintro e w1 ⟨rfl, v', hp1, k1, hv1, hs1⟩
  have HS1 := Lib.hid hs1
  clear hs1
  rw [← HPV.out]
  obtain ⟨o1, cap1, hvf, _⟩ := owns_form hp1.own
  have hle : (H ++ [p]).length = H.length + 1 := by simp
  rw [hle] at hvf
  subst hvf
  have hm2 := m_len _ _ _ hp1.cell
  have HP1 := Lib.hid hp1
  have HK1 := Lib.hid k1
  have HV1 := Lib.hid hv1
  have HLE := Lib.hid hle
  clear hp1 k1 hv1 hm hle
  go_wp2_with fail
  refine (len_any _ _ _ _).mono ?_
  rintro e w' ⟨rfl, rfl⟩
  go_wp2_with fail
  refine (up_any HP1.out (UpInv.start p HH.out) (by rw [HLE.out]; omega) (by rw [HLE.out]; omega)).mono ?_
  rintro e w2 ⟨rfl, H', hperm, hheap, hp2, k2⟩
  have HPM := Lib.hid hperm
  clear hperm
  go_wp2_with fail
  go_end0
  refine ⟨rfl, _, H', HPM.out.trans (List.perm_append_comm (l₁ := H) (l₂ := [p])), hheap, hp2, HK1.out.trans' k2 fun k hk e => ?_, HV1.out, HS1.out.behind k2 hp2.ne⟩
  rcases HV1.out k e with h | h
  · exact .inr h
  · omega
end Go.Proofs.Ythhimnihgkegiaa
