/-
  The contract of the program's Crash: a new disk with the plain model's contents; nothing that was there is written. Conditions: the model's bounds (Fine), a slice of ints that can be read.
-/
import Derived.Test.YtmigbpfeobjhkaaDWrite
namespace Go.Proofs.Ytmigbpfeobjhkaa
open Go Go.RowKit
set_option linter.unusedVariables false
attribute [local go_sem ↓] Go.wp_at_zero Go.wp_at_succ

/-- a slice of ints that reads as q -/
def Ints (w : World) (v : Value) (q : List Int) : Prop :=
  ∃ o cap, v = .slice o q.length cap ∧ q.length ≤ cap ∧ (cap : Int) ≤ 9223372036854775807 ∧ (0 < q.length → ∃ b off, o = some ⟨b, off, none⟩ ∧ ∀ i (h : i < q.length), w.cell? ⟨b, off + i, none⟩ = some (.int .i64 q[i])) ∧ ∀ x ∈ q, -9223372036854775808 ≤ x ∧ x ≤ 9223372036854775807
theorem Ints.keep {w w' : World} {v : Value} {q : List Int} (h : Ints w v q) (hk : Keeps noBlock w w') : Ints w' v q := by
  obtain ⟨o, cap, h1, h2, h3, h4, h5⟩ := h
  refine ⟨o, cap, h1, h2, h3, fun hp => ?_, h5⟩
  obtain ⟨b, off, ho, hc⟩ := h4 hp
  exact ⟨b, off, ho, fun i hi => hk.cell (hc i hi) (fun h => h)⟩

theorem and_one_i64 (x : Int) : bits BinOp.and IntKind.i64 x 1 = x % 2 := by
  have h1 : bits BinOp.and IntKind.i64 x 1 = IntKind.i64.wrap ((BitVec.ofInt 64 x &&& BitVec.ofInt 64 1).toNat : Int) := rfl
  have h2 : (BitVec.ofInt 64 x &&& BitVec.ofInt 64 1).toNat = (x % 2).toNat := by
    rw [BitVec.toNat_and]
    have h3 : (BitVec.ofInt 64 1).toNat = 1 := by decide
    rw [h3, Nat.and_one_is_mod, BitVec.toNat_ofInt]
    simp only [Nat.reducePow]
    omega
  rw [h1, h2, IntWalk.i64_in _ (by omega)]
  omega
theorem keepsPart_eq (q : List Int) (k : Nat) (h : 0 < q.length) (hk : k % q.length < q.length) : keepsPart q k = decide (q[k % q.length] % 2 = 1) := by
  simp [keepsPart, h, List.getD_eq_getElem?_getD, List.getElem?_eq_getElem hk]

theorem crash_nil (w : World) (qv : Value) :
    Calls Try.prog 23 #[.pointer none, qv] w (DiskPost w.heap.size noBlock DS.zero (.pointer (some ⟨w.heap.size, 0, none⟩)) w) := by
  go_enter Try.func23, Try.ntmps23
  go_wp2_with fail
  refine (new_any _).mono ?_
  rintro e w' ⟨rfl, h1, h2⟩
  go_wp2_with fail
  go_ret
  exact ⟨rfl, h1, h2⟩

/-- the contents in the loop of Crash -/
def CrashRel (w : World) (s : DS) (q : List Int) (c i : Value) (wr : World) : Prop :=
  ∃ k : Nat, i = .int .i64 k ∧ k ≤ s.parts.length ∧ wr.ownsRow 0 5 1 c (crashC q 0 (s.parts.take k) s.syn).length (bvs (crashC q 0 (s.parts.take k) s.syn)) ∧ (∀ j, c.ownBlock = some j → w.heap.size ≤ j) ∧ Keeps noBlock w wr

/-- a new disk -/
def CrashPost (s : DS) (w : World) (e : Ending) (w' : World) : Prop :=
  ∃ b, e = .returned (.pointer (some ⟨b, 0, none⟩)) ∧ DiskP w' b (grow noBlock w w') s ∧ Keeps noBlock w w'

set_option maxHeartbeats 1000000 in
theorem crash_any (w : World) (b : Nat) (F : Nat → Prop) (s : DS) (n : Nat) (qv : Value) (q : List Int) (h : DiskP w b F s) (hf : s.Fine n) (hn : n ≤ 1099511627776) (hq : Ints w qv q) :
    Calls Try.prog 23 #[.pointer (some ⟨b, 0, none⟩), qv] w (CrashPost (s.crash q) w) := by
  obtain ⟨nv, sv, lv, p, l, h⟩ := h
  obtain ⟨c0, c1, c2, _⟩ := h.cells
  have hsyn : s.syn.length ≤ 16777216 := hf.syn
  have hpl : s.parts.length ≤ n := hf.parts
  have HQ := Lib.hid hq
  obtain ⟨qo, qcap, rfl, hqc, hqm, hqr, hqw⟩ := hq
  have HQR := Lib.hid hqr
  have HQW := Lib.hid hqw
  have hown := h.syn
  have hparts := h.parts
  obtain ⟨lo, lcap, rfl, hlc, hlm, hlf⟩ := owns_form hparts
  unfold maxLen at hlm
  have H := Lib.hid h
  have HF := Lib.hid hf
  have HO := Lib.hid hown
  have HLF := Lib.hid hlf
  clear h hf hown c0 hqr hqw hlf hparts
  go_enter Try.func23, Try.ntmps23
  go_wp2_with fail
  refine (own_any s.syn sv _ HO.out hsyn).mono ?_
  rintro e w1 ⟨cv, rfl, hown1, k1, hnew1⟩
  have x2 : w1.cell? ⟨b, 2, none⟩ = some (.slice lo s.parts.length lcap) := k1.cell c2 (fun h => h)
  have H1 := Lib.hid hown1
  have HN1 := Lib.hid hnew1
  have HK1 := Lib.hid k1
  clear hown1 hnew1 k1 c1 c2
  go_wp2_with fail
  go_loopw [5, 21] (CrashRel w s q) (fun _ i _ => s.parts.length - (intOf i).toNat)
  case atStart => exact ⟨0, rfl, Nat.zero_le _, H1.out, HN1.out, HK1.out⟩
  case round =>
    obtain ⟨k, rfl, hk, hown, hnew, hkeep⟩ := hrel
    clear x2
    have HKR := Lib.hid hkeep
    by_cases hkl : k < s.parts.length
    · obtain ⟨g, cur, hlo, hlh, hls, hlt⟩ := HLF.out.resolve_left (by omega)
      subst hlo
      have hown0 := H.out.parts
      have y0 : wr.cell? ⟨g, k * 2, none⟩ = some (.int .i64 (s.parts[k].1 : Int)) := HKR.out.cell ((hown0.cellAt (k * 2) (by omega)).trans (pvs_get s.parts k hkl).1) (fun h => h)
      have y1 : wr.cell? ⟨g, k * 2 + 1, none⟩ = some (.string (str s.parts[k].2)) := HKR.out.cell ((hown0.cellAt (k * 2 + 1) (by omega)).trans (pvs_get s.parts k hkl).2) (fun h => h)
      have hpart := HF.out.part s.parts[k] (List.getElem_mem hkl)
      have hsn := crashC_take q s.parts s.syn k hkl
      have hlc' := length_crashC q 16777216 (s.parts.take k) 0 s.syn hsyn (fun x hx => HF.out.part x (List.mem_of_mem_take hx))
      obtain ⟨po, hpo⟩ : ∃ po, s.parts[k].1 = po := ⟨_, rfl⟩
      obtain ⟨pt, hpt⟩ : ∃ pt, s.parts[k].2 = pt := ⟨_, rfl⟩
      rw [hpo] at y0 hpart hsn
      rw [hpt] at y1 hpart hsn
      have HPO := Lib.hid hpo
      have HPT := Lib.hid hpt
      have HSN := Lib.hid hsn
      obtain ⟨cc, hcc⟩ : ∃ cc, crashC q 0 (s.parts.take k) s.syn = cc := ⟨_, rfl⟩
      rw [hcc] at hlc' hown
      have HCC := Lib.hid hcc
      have HOW := Lib.hid hown
      have HNE := Lib.hid hnew
      clear hown0 hpo hpt hsn hcc hown hnew hls hlt hlh HN1 H1 HK1 hkeep HO
      have stay : keepsPart q k = false → ∀ o : Obj, CrashRel w s q u5 (.int .i64 ((k : Int) + 1)) (wr.alloc o) := fun hkp o => by
        refine ⟨k + 1, by simp, by omega, ?_, HNE.out, HKR.out.alloc _⟩
        rw [HSN.out, if_neg (by rw [hkp]; simp), HCC.out]
        exact HOW.out.alloc _
      have STAY := Lib.hid stay; clear stay
      by_cases hq0 : q.length = 0
      · have hqz : q.length ≤ 0 := by omega
        have hkp : keepsPart q k = false := by simp [keepsPart, hq0]
        have HKP := Lib.hid hkp; clear hkp
        have HQ0 := Lib.hid hq0; clear hq0
        go_wp2_with fail
        go_roundw
        case rel => exact STAY.out HKP.out _
        case measure => simp [intOf]; omega
      · have hqp : 0 < q.length := by omega
        have hmod : k % q.length < q.length := Nat.mod_lt _ hqp
        obtain ⟨qb, qoff, hqo, hqcell⟩ := HQR.out hqp
        subst hqo
        have hz := HKR.out.cell (hqcell (k % q.length) hmod) (fun h => h)
        have hqlt : qb < wr.heap.size := World.block_lt_of_cell? wr _ hz
        have hkp := keepsPart_eq q k hqp hmod
        have hx := HQW.out q[k % q.length] (List.getElem_mem hmod)
        obtain ⟨x, hxe⟩ : ∃ x, q[k % q.length] = x := ⟨_, rfl⟩
        rw [hxe] at hz hkp hx
        have hand := and_one_i64 x
        have HKP := Lib.hid hkp
        have m0 : (0 : Int) ≤ (k : Int) % (q.length : Int) := Int.emod_nonneg _ (by omega)
        have m1 : (k : Int) % (q.length : Int) < (q.length : Int) := Int.emod_lt_of_pos _ (by omega)
        clear hkp hxe hq0 hqcell
        by_cases hodd : x % 2 = 1
        · have hbb : (x % 2 == 1) = true := by simp [hodd]
          have HOD := Lib.hid hodd; clear hodd
          go_wp2_with fail
          refine (put_any cc u5 po (str pt) _ (HOW.out.alloc _) hlc' (by rw [size_str]; exact hpart)).mono ?_
          rintro e w4 ⟨v4, rfl, hown4, k4, hnew4⟩
          rw [data_str] at hown4
          go_wp2_with fail
          go_roundw
          case rel =>
            refine ⟨k + 1, by simp, by omega, ?_, ?_, ?_⟩
            · rw [HSN.out, if_pos (by rw [HKP.out]; simp [HOD.out]), HCC.out]
              exact hown4
            · intro j e
              rcases hnew4 j e with h | h
              · exact HNE.out j h
              · have := HKR.out.size; simp at h; omega
            · refine (HKR.out.alloc _).trans' k4 ?_
              intro j hj e
              have := HNE.out j e
              exfalso; omega
          case measure => simp [intOf]; omega
        · have hbb : (x % 2 == 1) = false := by simp [hodd]
          have HOD := Lib.hid hodd; clear hodd
          go_wp2_with fail
          go_roundw
          case rel => exact STAY.out (by rw [HKP.out]; simp [HOD.out]) _
          case measure => simp [intOf]; omega
    · obtain rfl : k = s.parts.length := by omega
      have hlc' := length_crashC q 16777216 s.parts 0 s.syn hsyn (fun x hx => HF.out.part x hx)
      rw [List.take_length] at hown
      have HOW := Lib.hid hown
      have HNE := Lib.hid hnew
      clear hown hnew hkl hk hkeep H1 HN1 HK1
      obtain ⟨o5, cap5, rfl, _⟩ := owns_form HOW.out
      go_wp2_with fail
      refine (own_any _ _ _ HOW.out hlc').mono ?_
      rintro e w4 ⟨v4, rfl, hown4, k4, hnew4⟩
      obtain ⟨o6, cap6, rfl, _⟩ := owns_form hown4
      go_wp2_with fail
      go_ret
      have kw := HKR.out.trans k4
      have hs1 := HKR.out.size
      have hs2 := k4.size
      refine ⟨w4.heap.size, rfl, ⟨.slice o5 (crashC q 0 s.parts s.syn).length cap5, .slice o6 (crashC q 0 s.parts s.syn).length cap6, .slice none 0 0, 0, 0, ?_⟩, kw.alloc _⟩
      have k5 : ∀ o : Obj, Keeps noBlock w4 (w4.alloc o) := fun o => (Keeps.refl noBlock w4).alloc o
      exact {
        head := heap_alloc_at
        fb := .inr ⟨by omega, by simp⟩
        now := (k5 _).owns (k4.owns HOW.out fun _ _ h => h) fun _ _ h => h
        fnow := fun j e => .inr ⟨HNE.out j e, by have := (HOW.out.lt j e).2; simp; omega⟩
        syn := (k5 _).owns hown4 fun _ _ h => h
        fsyn := fun j e => .inr ⟨by have := hnew4 j e; omega, by have := (hown4.lt j e).2; simp; omega⟩
        parts := World.ownsRow_nil _ _ _ _
        fparts := fun k h => (own_none.1 h).elim
        ne := fun j e e2 => by have := hnew4 j e2; have := (HOW.out.lt j e).2; omega
        pow := rfl
        lt := grow_lt (fun _ h => h.elim) (by simp; omega) }
#print axioms crash_any
end Go.Proofs.Ytmigbpfeobjhkaa
