/-
  The contracts of disk.own and disk.put: what they return is the plain model's, and only the contents' own block, and new blocks, are written. Conditions: contents and ends are at most 2^24.
-/
import Derived.Test.YtmigbpfeobjhkaaDModel
import Derived.Test.YtmigbpfeobjhkaaRows
namespace Go.Proofs.Ytmigbpfeobjhkaa
open Go Go.RowKit
set_option linter.unusedVariables false

theorem infoU8 : (Try.prog.info? 5).map (fun i => (i.zero, i.size, i.bytes)) = some (some (.int .u8 0), 1, 1) := by kernel_rfl
theorem sizeU8 : (Try.prog.info? 5).map (·.size) = some 1 := by kernel_rfl

def PutPost (c : List UInt8) (cv : Value) (w : World) (e : Ending) (w' : World) : Prop :=
  ∃ v', e = .returned v' ∧ w'.ownsRow 0 5 1 v' c.length (bvs c) ∧ Keeps (fun k => cv.ownBlock = some k) w w' ∧ (∀ k, v'.ownBlock = some k → cv.ownBlock = some k ∨ w.heap.size ≤ k)

set_option maxHeartbeats 400000 in
theorem put_any (c : List UInt8) (cv : Value) (off : Nat) (s : ByteArray) (w : World)
    (hown : w.ownsRow 0 5 1 cv c.length (bvs c)) (hc : c.length ≤ 16777216) (ho : off + s.size ≤ 16777216) :
    Calls Try.prog 38 #[cv, .int .i64 off, .string s] w (PutPost (putL c off s.data.toList) cv w) := by
  obtain ⟨i0, hi, hz0, hz1, hz2⟩ := info_parts infoU8
  obtain ⟨o, cap, rfl, hcap, hcm, hform⟩ := owns_form hown
  unfold maxLen at hcm
  have HF := Lib.hid hform
  have HO := Lib.hid hown
  clear hform hown
  by_cases hlt : c.length < off + s.size
  · go_enter Try.func38, Try.ntmps38
    go_wp2_with fail
    obtain ⟨w1, hrun, hown1, hgrow1⟩ := run_make_full (P := Try.prog) w 0 56 5 i0 (.int .u8 0) 1 Try.underlying56 hi hz0 hz1 .i64 .i64 (off + s.size) (by rw [hz2]; omega) (by unfold maxLen; omega) (Nat.zero_le _)
    rw [Int.natCast_add] at hrun
    rw [hrun]
    clear hrun
    go_wp2_with fail
    have k1 : Keeps noBlock w w1 := (Keeps.refl _ _).grown hgrow1 (by simp)
    have hc1 := k1.owns HO.out (fun _ _ h => h)
    rw [Nat.mul_one, bvs_zeros] at hown1
    obtain ⟨w2, hrun, hown2, k2⟩ := run_copy_into (P := Try.prog) w1 56 56 3 5 Try.underlying56 sizeU8 (some ⟨w.heap.size, 0, none⟩) (off + s.size) (off + s.size) (.slice o c.length cap) 0 5 _ _ _ hown1 0 c.length (bvs c)
      (by rw [length_bvs]; exact (Nat.min_eq_left (by omega)).symm) (CopySrc.of_owns hc1) (fun _ => ⟨_, rfl, rfl⟩) (by rw [length_bvs]; omega) (oneCell_bvs c)
    rw [hrun]
    clear hrun hown1 hc1 hgrow1 HF
    have hsl := fun W => run_slice_from (P := Try.prog) 56 5 Try.underlying56 sizeU8 (some ⟨w.heap.size, 0, none⟩) (off + s.size) (off + s.size) off .i64 (by omega) W
    go_wp2_with fail
    clear hsl
    obtain ⟨w3, hrun, hown3, k3⟩ := run_copy_into (P := Try.prog) w2 56 9 3 5 Try.underlying56 sizeU8 (cutA (some ⟨w.heap.size, 0, none⟩) (off + s.size) off) s.size s.size (.string s) 0 5 _ _ _ hown2 off s.size (bvs s.data.toList)
      (by rw [length_bvs, size_data]; exact (Nat.min_self _).symm) (CopySrc.of_str w2 s) (fun hp => ⟨_, rfl, cutA_some rfl (by rw [length_bvs, size_data] at hp; omega)⟩) (by rw [length_bvs, size_data]; exact Nat.le_refl _) (oneCell_bvs _)
    rw [hrun]
    clear hrun hown2
    go_wp2_with fail
    go_ret
    refine ⟨_, rfl, ?_, ?_, ?_⟩
    · have hl : (putL c off s.data.toList).length = off + s.size := by rw [length_putL, size_data]; omega
      have hb : bvs (putL c off s.data.toList) = splice (splice (bvs (List.replicate (off + s.size) 0)) 0 (bvs c)) off (bvs s.data.toList) := by
        rw [putL, bvs_splice]
        congr 1
        rw [bvs_append, size_data]
        simp only [splice, List.take_zero, List.nil_append, Nat.zero_add, bvs, List.map_replicate, List.drop_replicate, List.length_map]
      rw [hl, hb]; exact hown3
    · refine (k1.trans' (k2.trans' k3 (fun k _ h => h)) ?_).mono ?_
      · intro k hk h; have h := own_slice.1 h; exfalso; omega
      · intro k _ h; exact h.elim
    · intro k h; have h := own_slice.1 h; exact .inr (by omega)
  · have hfit : off + s.size ≤ c.length := by omega
    have hs := size_data s
    have hsl := fun W => run_slice_from (P := Try.prog) 56 5 Try.underlying56 sizeU8 o c.length cap off .i64 (by omega) W
    go_enter Try.func38, Try.ntmps38
    go_wp2_with fail
    clear hsl
    obtain ⟨w3, hrun, hown3, k3⟩ := run_copy_into (P := Try.prog) w 56 9 3 5 Try.underlying56 sizeU8 (cutA o cap off) (c.length - off) (cap - off) (.string s) 0 5 _ _ _ HO.out off s.size (bvs s.data.toList)
      (by rw [length_bvs, hs]; exact (Nat.min_eq_left (by omega)).symm) (CopySrc.of_str w s) (fun hp => by
        rw [length_bvs, hs] at hp
        rcases HF.out with ⟨_, h0, _⟩ | ⟨g, cur, rfl, _⟩
        · omega
        · exact ⟨g, rfl, cutA_some rfl (by omega)⟩) (by rw [length_bvs, hs]; omega) (oneCell_bvs _)
    rw [hrun]
    clear hrun
    go_wp2_with fail
    go_ret
    refine ⟨_, rfl, ?_, k3, fun k h => .inl h⟩
    have hl : (putL c off s.data.toList).length = c.length := by rw [length_putL, hs]; omega
    have hb : bvs (putL c off s.data.toList) = splice (bvs c) off (bvs s.data.toList) := by
      rw [putL, bvs_splice, hs, Nat.sub_eq_zero_of_le hfit]; simp
    rw [hl, hb]; exact hown3

def OwnPost (c : List UInt8) (w : World) (e : Ending) (w' : World) : Prop :=
  ∃ v', e = .returned v' ∧ w'.ownsRow 0 5 1 v' c.length (bvs c) ∧ Keeps noBlock w w' ∧ (∀ k, v'.ownBlock = some k → w.heap.size ≤ k)

set_option maxHeartbeats 400000 in
theorem own_any (c : List UInt8) (cv : Value) (w : World) (hown : w.ownsRow 0 5 1 cv c.length (bvs c)) (hc : c.length ≤ 16777216) :
    Calls Try.prog 37 #[cv] w (OwnPost c w) := by
  obtain ⟨i0, hi, hz0, hz1, hz2⟩ := info_parts infoU8
  obtain ⟨o, cap, rfl, hcap, hcm, hform⟩ := owns_form hown
  unfold maxLen at hcm
  have HO := Lib.hid hown
  clear hform hown
  go_enter Try.func37, Try.ntmps37
  go_wp2_with fail
  obtain ⟨w1, hrun, hown1, hgrow1⟩ := run_make_full (P := Try.prog) w 0 56 5 i0 (.int .u8 0) 1 Try.underlying56 hi hz0 hz1 .i64 .i64 c.length (by rw [hz2]; omega) (by unfold maxLen; omega) (Nat.zero_le _)
  rw [hrun]
  clear hrun
  go_wp2_with fail
  have k1 : Keeps noBlock w w1 := (Keeps.refl _ _).grown hgrow1 (by simp)
  have hc1 := k1.owns HO.out (fun _ _ h => h)
  rw [Nat.mul_one, bvs_zeros] at hown1
  obtain ⟨w2, hrun, hown2, k2⟩ := run_copy_into (P := Try.prog) w1 56 56 3 5 Try.underlying56 sizeU8 (some ⟨w.heap.size, 0, none⟩) c.length c.length (.slice o c.length cap) 0 5 _ _ _ hown1 0 c.length (bvs c)
    (by rw [length_bvs]; exact (Nat.min_eq_left (by omega)).symm) (CopySrc.of_owns hc1) (fun _ => ⟨_, rfl, rfl⟩) (by rw [length_bvs]; omega) (oneCell_bvs c)
  rw [hrun]
  clear hrun hown1 hc1 hgrow1
  go_wp2_with fail
  go_ret
  refine ⟨_, rfl, ?_, ?_, ?_⟩
  · have hb : splice (bvs (List.replicate c.length 0)) 0 (bvs c) = bvs c := by
      simp only [splice, List.take_zero, List.nil_append, Nat.zero_add, length_bvs]
      simp [bvs]
    rw [hb] at hown2; exact hown2
  · refine k1.trans' k2 ?_
    intro k hk h; have h := own_slice.1 h; exfalso; omega
  · intro k h; have h := own_slice.1 h; omega
#print axioms put_any
#print axioms own_any
end Go.Proofs.Ytmigbpfeobjhkaa
