/-
  The contract of the model's Crash (cocycleref27). Conditions: the model's bounds (Fine), a slice of ints that can be read.
-/
import Derived.Test.YtmigbpfeobjhkaaDRef2
namespace Go.Proofs.Ytmigbpfeobjhkaa
open Go Go.RowKit
set_option linter.unusedVariables false
attribute [local go_sem ↓] Go.wp_at_zero Go.wp_at_succ

/-- the contents in the loop of Crash -/
def RCrashRel (w : World) (s : DS) (q : List Int) (c i : Value) (wr : World) : Prop :=
  ∃ k : Nat, i = .int .i64 k ∧ k ≤ s.parts.length ∧ c = .string (str (crashC q 0 (s.parts.take k) s.syn)) ∧ Keeps noBlock w wr

/-- a new model -/
def RCrashPost (s : DS) (w : World) (e : Ending) (w' : World) : Prop :=
  ∃ b, e = .returned (.pointer (some ⟨b, 0, none⟩)) ∧ RefP w' b (grow noBlock w w') s ∧ Keeps noBlock w w'

set_option maxHeartbeats 1000000 in
theorem rcrash_any (w : World) (b : Nat) (F : Nat → Prop) (s : DS) (n : Nat) (qv : Value) (q : List Int) (h : RefP w b F s) (hf : s.Fine n) (hn : n ≤ 1099511627776) (hq : Ints w qv q) :
    Calls Try.prog 24 #[.pointer (some ⟨b, 0, none⟩), qv] w (RCrashPost (s.crash q) w) := by
  obtain ⟨lv, c, l, h⟩ := h
  obtain ⟨c0, c1, c2, _⟩ := h.cells
  have hsyn : s.syn.length ≤ 16777216 := hf.syn
  have hpl : s.parts.length ≤ n := hf.parts
  have HQ := Lib.hid hq
  obtain ⟨qo, qcap, rfl, hqc, hqm, hqr, hqw⟩ := hq
  have HQR := Lib.hid hqr
  have HQW := Lib.hid hqw
  have hparts := h.parts
  obtain ⟨lo, lcap, rfl, hlc, hlm, hlf⟩ := owns_form hparts
  unfold maxLen at hlm
  have H := Lib.hid h
  have HF := Lib.hid hf
  have HLF := Lib.hid hlf
  have HC2 := Lib.hid c2
  clear h hf c0 hqr hqw hlf hparts c2
  go_enter Try.func24, Try.ntmps24
  go_wp2_with fail
  go_loopw [5, 6] (RCrashRel w s q) (fun _ i _ => s.parts.length - (intOf i).toNat)
  case atStart => exact ⟨0, rfl, Nat.zero_le _, rfl, Keeps.refl _ _⟩
  case round =>
    obtain ⟨k, rfl, hk, rfl, hkeep⟩ := hrel
    have HKR := Lib.hid hkeep
    have x2 := HKR.out.cell HC2.out (fun h => h)
    have hlc' := length_crashC q 16777216 (s.parts.take k) 0 s.syn hsyn (fun x hx => HF.out.part x (List.mem_of_mem_take hx))
    obtain ⟨cc, hcc⟩ : ∃ cc, crashC q 0 (s.parts.take k) s.syn = cc := ⟨_, rfl⟩
    rw [hcc] at hlc' ⊢
    have HCC := Lib.hid hcc
    clear hcc c1 hkeep
    have done : (k = s.parts.length ∨ q.length = 0) → cc = crashC q 0 s.parts s.syn := fun h => by
      rw [← HCC.out]
      rcases h with h | h
      · rw [h, List.take_length]
      · obtain rfl : q = [] := List.eq_nil_of_length_eq_zero h
        rw [crashC_none, crashC_none]
    have DONE := Lib.hid done; clear done
    have last : ∀ w4, w4 = wr.alloc (.cells #[.string (str cc), .string (str cc), .slice none 0 0, .int .i64 0, .int .i64 0, .bool false] 64) → cc = crashC q 0 s.parts s.syn → RCrashPost (s.crash q) w (.returned (.pointer (some ⟨wr.heap.size, 0, none⟩))) w4 := fun w4 h4 hcc => by
      subst h4
      have hs := HKR.out.size
      refine ⟨wr.heap.size, rfl, ⟨.slice none 0 0, false, 0, ?_⟩, HKR.out.alloc _⟩
      exact {
        head := by rw [heap_alloc_at, hcc]; rfl
        fb := .inr ⟨hs, by simp⟩
        parts := World.ownsRow_nil _ _ _ _
        fparts := fun k h => (own_none.1 h).elim
        pow := rfl
        lt := grow_lt (fun _ h => h.elim) (by simp; omega) }
    have LAST := Lib.hid last; clear last
    by_cases hkl : k < s.parts.length
    · by_cases hq0 : q.length = 0
      · have hqz : q.length ≤ 0 := by omega
        have HQ0 := Lib.hid hq0; clear hq0
        go_wp2_with fail
        go_ret
        exact LAST.out _ rfl (DONE.out (.inr HQ0.out))
      · obtain ⟨g, cur, hlo, hlh, hls, hlt⟩ := HLF.out.resolve_left (by omega)
        subst hlo
        have hown0 := H.out.parts
        have y0 : wr.cell? ⟨g, k * 2, none⟩ = some (.int .i64 (s.parts[k].1 : Int)) := HKR.out.cell ((hown0.cellAt (k * 2) (by omega)).trans (pvs_get s.parts k hkl).1) (fun h => h)
        have y1 : wr.cell? ⟨g, k * 2 + 1, none⟩ = some (.string (str s.parts[k].2)) := HKR.out.cell ((hown0.cellAt (k * 2 + 1) (by omega)).trans (pvs_get s.parts k hkl).2) (fun h => h)
        have hpart := HF.out.part s.parts[k] (List.getElem_mem hkl)
        have hsn := crashC_take q s.parts s.syn k hkl
        obtain ⟨po, hpo⟩ : ∃ po, s.parts[k].1 = po := ⟨_, rfl⟩
        obtain ⟨pt, hpt⟩ : ∃ pt, s.parts[k].2 = pt := ⟨_, rfl⟩
        rw [hpo] at y0 hpart hsn
        rw [hpt] at y1 hpart hsn
        rw [HCC.out] at hsn
        have HSN := Lib.hid hsn
        clear hown0 hpo hpt hsn hls hlt hlh
        have hqp : 0 < q.length := by omega
        have hmod : k % q.length < q.length := Nat.mod_lt _ hqp
        obtain ⟨qb, qoff, hqo, hqcell⟩ := HQR.out hqp
        subst hqo
        have hz := HKR.out.cell (hqcell (k % q.length) hmod) (fun h => h)
        have hkp := keepsPart_eq q k hqp hmod
        have hx := HQW.out q[k % q.length] (List.getElem_mem hmod)
        obtain ⟨x, hxe⟩ : ∃ x, q[k % q.length] = x := ⟨_, rfl⟩
        rw [hxe] at hz hkp hx
        have HKP := Lib.hid hkp
        have m0 : (0 : Int) ≤ (k : Int) % (q.length : Int) := Int.emod_nonneg _ (by omega)
        have m1 : (k : Int) % (q.length : Int) < (q.length : Int) := Int.emod_lt_of_pos _ (by omega)
        have l0 : (0 : Int) ≤ (k : Int) := by omega
        have l1 : (k : Int) < (s.parts.length : Int) := by omega
        clear hkp hxe hq0 hqcell
        by_cases hodd : x % 2 = 1
        · have htm : x.tmod 2 ≠ 0 := by
            intro e
            have := Int.emod_eq_zero_of_dvd (Int.dvd_of_tmod_eq_zero e)
            omega
          have hbb : (x.tmod 2 == 0) = false := by simp only [beq_eq_false_iff_ne]; exact htm
          have hbn : (x.tmod 2 != 0) = true := by simp only [bne_iff_ne]; exact htm
          have HOD := Lib.hid hodd; clear hodd htm
          go_wp2_with fail
          go_region_held3 (fun w' => w'.cell? ⟨b, 2, none⟩ = some (.slice (some ⟨g, 0, none⟩) s.parts.length lcap) ∧ w'.cell? ⟨g, k * 2, none⟩ = some (.int .i64 (po : Int)) ∧ w'.cell? ⟨g, k * 2 + 1, none⟩ = some (.string (str pt)))
            (first
              | go_keep
              | (go_split_ands; exact ⟨k4.cell x2 (fun h => h), k4.cell y0 (fun h => h), k4.cell y1 (fun h => h)⟩))
            ((go_at_call 39; refine (rput_any cc po pt _ hlc' hpart).mono ?_; rintro e w4 ⟨rfl, k4⟩))
          go_wp2_with fail
          go_roundw
          case rel =>
            refine ⟨k + 1, by simp, by omega, by rw [HSN.out, if_pos (by rw [HKP.out]; simp [HOD.out])], ?_⟩
            exact HKR.out.drew.trans k4
          case measure => simp [intOf]; omega
        · have htm : x.tmod 2 = 0 := Int.tmod_eq_zero_of_dvd (Int.dvd_of_emod_eq_zero (by omega))
          have hbb : (x.tmod 2 == 0) = true := by simp [htm]
          have hbn : (x.tmod 2 != 0) = false := by simp [htm]
          have HOD := Lib.hid hodd; clear hodd htm
          go_wp2_with fail
          go_roundw
          case rel => exact ⟨k + 1, by simp, by omega, by rw [HSN.out, if_neg (by rw [HKP.out]; simp [HOD.out])], HKR.out⟩
          case measure => simp [intOf]; omega
    · have hke : s.parts.length ≤ k := by omega
      go_wp2_with fail
      go_ret
      exact LAST.out _ rfl (DONE.out (.inl (by omega)))
#print axioms rcrash_any
end Go.Proofs.Ytmigbpfeobjhkaa
