/-
  Conversions, slices, appends, copies; strings out of bytes. Over any program. No condition.
-/
import Derived.Test.YthlkgmdkabelpaaGreatDoorE6
import Derived.Lib.ConvBytes
namespace Go.Proofs.YthlkgmdkabelpaaGreatDoor.X
open Go Go.RowKit
set_option linter.unusedVariables false

section
variable {P : Program} {ρ : Ren} {W : XW} {w : World} {fr : XF} {e : Operand → Value}
theorem openCap_open : isOpen openCap = true := rfl
/-- a new slice whose capacity is left open -/
theorem new_open {n b z k r len cap' : Nat} (hl : len ≤ cap') (hr : r ≤ cap' * k) (hz : cap' * k ≤ z) : VR (rset ρ n ⟨b, 0, z, k, r⟩) (.slice (some ⟨n, 0, none⟩) len openCap) (.slice (some ⟨b, 0, none⟩) len cap') := by
  have := VR.sliceO (ρ := rset ρ n ⟨b, 0, z, k, r⟩) n 0 len openCap cap' _ (rset_same _ _ _) rfl hl (by simpa using hr) (by simpa using hz)
  simpa using this
theorem bvs_flat (l : List UInt8) : VRs ρ (bvs l) (bvs l) := by
  induction l with
  | nil => exact .nil
  | cons b l ih => exact .cons _ _ _ _ (.flat 1 _ rfl) ih
theorem bvs_eq {l : List UInt8} {m : List Value} (h : VRs ρ (bvs l) m) : m = bvs l := h.of_flat 1 fun u hu => by
  simp only [bvs, List.mem_map] at hu
  obtain ⟨x, _, rfl⟩ := hu
  rfl
theorem bytesOf_eq : ∀ {l : List Value} {bs : List UInt8}, bytesOf l = some bs → l = bvs bs
  | [], bs, h => by cases h; rfl
  | v :: l, bs, h => by
    unfold bytesOf at h
    split at h
    · rename_i n
      cases hr : bytesOf l with
      | none => rw [hr] at h; cases h
      | some r =>
        rw [hr] at h
        simp only [byteIn] at h
        cases q : Nat.blt n 256 with
        | false => rw [q] at h; cases h
        | true =>
          rw [q] at h
          cases h
          have hlt : n < 256 := Nat.le_of_ble_eq_true q
          rw [bytesOf_eq hr]
          show _ = bv (UInt8.ofNat n) :: bvs r
          unfold bv
          have : (UInt8.ofNat n).toNat = n := by simp; omega
          rw [this]
          rfl
    · cases h
/-- what an append or a copy takes: n elements of s cells, as the model reads them -/
theorem src_first {s n : Nat} {x u : Value} {src : List Value} (hH : HR P ρ W.get w) (hx : VR ρ x u) (h : srcX W s n x = some src) (hn : ∀ m, lenX x = some m → n ≤ m) :
    ∃ us : List Value, (Builtin.firstCells s n u).run P w = .ok us.toArray w ∧ VRs ρ src us ∧ us.length = src.length ∧ (∀ ad l c, u = .slice (some ad) l c → ∀ j v, us[j]? = some v → w.cell? (ad.add j) = some v) ∧ (∀ a l c, x = .slice a l c → src.length = n * s) := by
  unfold srcX at h
  split at h
  · rename_i len cap
    have := hx.of_flat 1 rfl
    subst this
    cases q : Nat.beq n 0 with
    | false => rw [q] at h; cases h
    | true =>
      rw [q] at h
      cases h
      refine ⟨[], rfl, .nil, rfl, ?_, ?_⟩
      · intro _ _ _ h; cases h
      · intro _ _ _ _; rw [Nat.eq_of_beq_eq_true q]; simp
  · rename_i b o len cap
    cases q : Nat.beq n 0 with
    | true =>
      rw [q] at h
      cases h
      have := Nat.eq_of_beq_eq_true q
      subst this
      obtain ⟨c, c', rfl⟩ := slice_some hx
      refine ⟨[], ?_, .nil, rfl, fun _ _ _ _ j v hv => by simp at hv, fun _ _ _ _ => by simp⟩
      unfold Builtin.firstCells
      rw [Nat.zero_mul]
      rfl
    | false =>
      rw [q] at h
      simp only [cond_false] at h
      have hn0 : n ≠ 0 := fun e => by subst e; cases q
      split at h
      · rename_i c t f hg
        cases q2 : Nat.beq ((c.drop o).take (n * s)).length (n * s) with
        | false => rw [q2] at h; cases h
        | true =>
          rw [q2] at h
          cases h
          obtain ⟨i, hr, hcase⟩ := hx.sliceInv
          have key : ∃ cap', u = .slice (some ⟨i.b, o + i.s, none⟩) len cap' := by
            rcases hcase with ⟨_, q⟩ | ⟨_, c, q, _⟩ | ⟨_, q, _⟩ | ⟨_, q, _⟩
            · exact ⟨_, q⟩
            · exact ⟨_, q⟩
            · have := hn len rfl; omega
            · have := hn len rfl; omega
          obtain ⟨cap', rfl⟩ := key
          obtain ⟨c', f', h1, _, _, _, _, h2⟩ := cellsAt hH hr hg
          obtain ⟨us, r1, r2, r3⟩ := h2.part o (n * s) (Nat.eq_of_beq_eq_true q2)
          have hcell : ∀ j v, us[j]? = some v → w.cell? ((⟨i.b, o + i.s, none⟩ : Addr).add j) = some v := fun j v hv => by rw [addr_add, cell_of_heap h1, Nat.add_comm o]; exact r3 j v hv
          refine ⟨us, ?_, r2, r2.length, fun ad l c hq => by cases hq; exact hcell, fun _ _ _ _ => Nat.eq_of_beq_eq_true q2⟩
          unfold Builtin.firstCells
          rw [← r1]
          exact run_loadCells_list w _ us hcell
      · cases h
  · rename_i t
    have := hx.str
    subst this
    cases h
    refine ⟨(t.data.toList.map fun b => Value.int .u8 b.toNat).take n, ?_, (bvs_flat t.data.toList).take n, rfl, (by intro _ _ _ h; cases h), (by intro _ _ _ h; cases h)⟩
    have hm := hn t.size rfl
    have : ((t.extract 0 n).data.map fun b => Value.int .u8 (b.toNat : Int)) = ((t.data.toList.map fun b => Value.int .u8 (b.toNat : Int)).take n).toArray := by
      apply Array.ext'
      rw [Array.toList_map]
      simp [List.map_take, ByteArray.data_extract]
    show Result.ok _ w = _
    rw [this]
  · cases h
theorem len_run {x u : Value} {n : Nat} (hx : VR ρ x u) (h : lenX x = some n) : (Builtin.lenOf u).run P w = .ok n w := by
  unfold lenX at h
  split at h
  · cases h
    obtain ⟨a', c', rfl⟩ := hx.sliceLen
    rfl
  · cases h
    have := hx.str
    subst this
    rfl
  · cases h
theorem sim_convert {s d : TypeId} {x : Operand} {r : XR} (hH : HR P ρ W.get w) (hE : Ev ρ fr e) (h : convX P W s d (ev fr x) (P.underlying s) (P.underlying d) = some r) : XOk P ρ W w (do pure (.value (← Go.convert s d (e x)))) r := by
  unfold convX at h
  split at h
  · rename_i el hs hd
    unfold strBytes at h
    split at h
    · rename_i t hx he hz
      cases h
      have hxe := (hE x _ hx).str
      rw [hxe]
      intro hn
      have hrun := Lib.run_convert_string_bytes (P := P) w s d el t hs hd he
      have hge : t.size ≤ grownCap w t.size 0 el := grownCap_ge w t.size 0 el
      have hcs : (Lib.bytesCells w el t).size = grownCap w t.size 0 el := by
        unfold Lib.bytesCells
        rw [Array.size_append, Array.size_map, Array.size_replicate]
        show t.size + _ = _
        omega
      have hk : sizeIs P el = 1 := by unfold sizeIs; rw [hz]; rfl
      have hsz := Lib.bytesWorld_size w el t
      have hnew := Lib.bytesWorld_at_new w el t
      have hlen : t.data.toList.length = t.size := Array.length_toList
      have hkk : Keeps noBlock w (Lib.bytesWorld w el t) := ⟨rfl, rfl, rfl, by omega, fun k hk _ => Lib.bytesWorld_at_old w el t k hk⟩
      obtain ⟨q1, q2⟩ := hH.pushK hn (.cells (t.data.toList.map fun b => Value.int .u8 b.toNat) el (1, 1)) _ ⟨w.heap.size, 0, (Lib.bytesCells w el t).size, sizeIs P el, (t.data.toList.map fun b => Value.int .u8 b.toNat).length⟩ hkk hnew rfl (by
        refine .cells _ _ _ _ _ rfl rfl sizeIs_info (by simp only [List.length_map, hlen]; omega) (fun j v hj => ?_) (fun j hj h1 h2 => ?_) ⟨Nat.le_succ _, fun h => absurd h (by simp)⟩ (Nat.zero_mod _)
        · refine ⟨v, ?_, ?_⟩
          · show (Lib.bytesCells w el t)[0 + j]? = _
            have hj' : j < (t.data.map fun b => Value.int .u8 (b.toNat : Int)).size := by
              have := (List.getElem?_eq_some_iff.1 hj).1
              rw [Array.size_map]
              simpa [hlen] using this
            unfold Lib.bytesCells
            rw [Nat.zero_add, Array.getElem?_append_left hj', ← hj, ← Array.getElem?_toList, Array.toList_map]
          · obtain ⟨x, _, rfl⟩ := List.mem_map.1 (List.mem_of_getElem? hj)
            exact .flat 1 _ rfl
        · exfalso
          simp only at hj h1
          omega)
      refine ⟨_, _, _, gv hrun, q2, q1, new_open hge ?_ ?_⟩
      · rw [hk, List.length_map, hlen]; omega
      · rw [hk, hcs]; omega
    · cases h
  · rename_i el hs hd
    unfold bytesStr at h
    split at h
    · rename_i a n c hx he
      cases hsrc : srcX W 1 n (.slice a n c) with
      | none => rw [hsrc] at h; cases h
      | some l =>
        rw [hsrc] at h
        simp only [bytesO] at h
        cases hb : bytesOf l with
        | none => rw [hb] at h; cases h
        | some bs =>
          rw [hb] at h
          cases h
          have hl := bytesOf_eq hb
          subst hl
          obtain ⟨us, h1, h2, h3, h4, h5⟩ := src_first hH (hE x _ hx) hsrc (fun m hm => by cases hm; exact Nat.le_refl _)
          have hu := bvs_eq h2
          subst hu
          refine xv (u := .string (str bs)) ?_ (.flat 1 _ rfl)
          rw [length_bvs] at h3
          obtain ⟨a', c', hxe⟩ := (hE x _ hx).sliceLen
          rw [hxe] at h1 ⊢
          have hlen : bs.length = n := by
            have := h5 _ _ _ rfl
            rwa [length_bvs, Nat.mul_one] at this
          refine run_string_of w s d el a' n c' bs hs he hd hlen.symm fun h0 => ?_
          cases a' with
          | none => unfold Builtin.firstCells at h1; cases bs with | nil => simp at h0 | cons _ _ => cases h1
          | some ad =>
            refine ⟨ad, rfl, fun j hj => h4 ad n c' hxe j _ ?_⟩
            simp [bvs, hj]
    · cases h
  · rename_i q1 q2 hs hd
    unfold convF at h
    split at h
    · rename_i a hx
      cases hq : flatV a with
      | false => rw [hq] at h; cases h
      | true =>
        rw [hq] at h
        rw [(hE x _ hx).flatEq hq]
        exact xvF h
    · cases h
  · cases h
end
end Go.Proofs.YthlkgmdkabelpaaGreatDoor.X
