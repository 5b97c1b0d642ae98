/-
  slices.Chunk at rows of bytes whose length is a multiple of 64: the iterator's contract, for every loop body that keeps what the iterator reads. Condition: the size is 64, and it divides the row's length.
-/
import Derived.Test.YthlkgmdkabelpaaGreatDoorHAdd
import Derived.RangeFuncNested
import Derived.RangeFuncBound
import Derived.RangeFuncCalls
import Derived.RangeFuncLeaves
import Derived.Shelf.Abstract
import Derived.Shelf.RegionOpen
import Derived.OwnWalkIn
import Derived.TacticsInMore
import Derived.LoopNIn
import Derived.LoopIn
namespace Go.Proofs.YthlkgmdkabelpaaGreatDoor
open Go Go.RowKit Go.Shelf
set_option linter.unusedVariables false
attribute [local go_sem] Oper.semAt_some

/-- the pieces of which the numbers are k, one after the other -/
def numsTo (N k : Nat) (pre : List (Fin N)) : Prop := pre.map (·.val) = List.range k
theorem numsTo_length {N k : Nat} {pre : List (Fin N)} (h : numsTo N k pre) : pre.length = k := by
  have := congrArg List.length h
  simpa using this
theorem numsTo_succ {N k : Nat} {pre : List (Fin N)} (h : numsTo N k pre) (x : Fin N) (hx : x.val = k) : numsTo N (k + 1) (pre ++ [x]) := by
  unfold numsTo at *
  rw [List.map_append, h, List.range_succ]
  simp [hx]
/-- one piece, as yield's argument -/
def pieceV (b : Nat) {N : Nat} (x : Fin N) : Array Value := #[.slice (some ⟨b, 64 * x.val, none⟩) 64 64]

/-- one state behind the code, and no other way out -/
def OneEnd (a1 : Act) (w1 : World) : Exit → Act → World → Prop
  | .normal, a', w' => a' = a1 ∧ w' = w1
  | _, _, _ => False
theorem wpIn_oneEnd {F : Fence} {n : Nat} {P : Program} {c : Code} {Q : Exit → Act → World → Prop} {a : Act} {w : World} {a1 : Act} {w1 : World}
    (h : c.wpIn F n P (OneEnd a1 w1) a w) (hk : Q .normal a1 w1) : c.wpIn F n P Q a w :=
  wpIn_mono h (by intro e a w h; cases e <;> first | (obtain ⟨rfl, rfl⟩ := h; exact hk) | exact h.elim)
theorem wp_oneEnd {P : Program} {c : Code} {Q : Exit → Act → World → Prop} {a : Act} {w : World} {a1 : Act} {w1 : World}
    (h : c.wp P (OneEnd a1 w1) a w) (hk : Q .normal a1 w1) : c.wp P Q a w :=
  Code.wp_mono (by intro e a w h; cases e <;> first | (obtain ⟨rfl, rfl⟩ := h; exact hk) | exact h.elim) h
/-- code all of whose ways end in one state -/
theorem wpIn_one {F : Fence} {n : Nat} {P : Program} {c : Code} {Q : Exit → Act → World → Prop} {a : Act} {w : World} {a1 : Act} {w1 : World}
    (h : c.wpIn F n P (fun e a' w' => e = .normal ∧ a' = a1 ∧ w' = w1) a w) (hk : Q .normal a1 w1) : c.wpIn F n P Q a w :=
  wpIn_mono h (by rintro _ _ _ ⟨rfl, rfl, rfl⟩; exact hk)
theorem wp_one {P : Program} {c : Code} {Q : Exit → Act → World → Prop} {a : Act} {w : World} {a1 : Act} {w1 : World}
    (h : c.wp P (fun e a' w' => e = .normal ∧ a' = a1 ∧ w' = w1) a w) (hk : Q .normal a1 w1) : c.wp P Q a w :=
  Code.wp_mono (by rintro _ _ _ ⟨rfl, rfl, rfl⟩; exact hk) h
set_option maxRecDepth 100000 in
set_option maxHeartbeats 2000000 in
theorem chunk1_in (F : Fence) (n : Nat) (hf : F.fn 127) (hro : F.round = none) (hn : 1 ≤ n) (l Bs Bn b cap N : Nat) (T : Nat → Prop) (hN : N ≤ 2199023255552) (hcap : 64 * N ≤ cap)
    (hTs : ¬ T Bs) (hTn : ¬ T Bn) (J Jx : List (Fin N) → World → Prop)
    (hY : ∀ pre x W, J pre W → pre.length < N → YieldAt F (n - 1) Tryz.prog l (pieceV b x) W fun e W' =>
      (e = .returned (.bool true) ∧ J (pre ++ [x]) W' ∧ Keeps T W W') ∨ (e = .returned (.bool false) ∧ Jx (pre ++ [x]) W'))
    (hJd : ∀ pre W, J pre W → J pre W.drew)
    (W : World) (hBs : W.cell? ⟨Bs, 0, none⟩ = some (.slice (some ⟨b, 0, none⟩) (64 * N) cap)) (hBn : W.cell? ⟨Bn, 0, none⟩ = some (.int .i64 64)) (h0 : J [] W) :
    CallsIn F n Tryz.prog 127 #[.func (.yield l) #[] #[], .pointer (some ⟨Bs, 0, none⟩), .pointer (some ⟨Bn, 0, none⟩)] W fun e W' => (∃ v, e = .returned v) ∧
      ((∃ ys, numsTo N N ys ∧ J ys W') ∨ (∃ pre, True ∧ Jx pre W')) := by
  refine callsIn_of_wp Tryz.func127 rfl hf ?_ hro
  simp only [Tryz.ntmps127, List.size_toArray, List.length_cons, List.length_nil, Nat.reduceAdd, Nat.reduceSub, Array.replicate_succ, Array.replicate_zero, List.push_toArray, List.append_toArray, List.nil_append, List.cons_append]
  gi_wp2
  gi_loopw [4] (fun i wr => ∃ k : Nat, k ≤ N ∧ i = .int .i64 ((64 * k : Nat) : Int) ∧ (∃ pre, numsTo N k pre ∧ J pre wr) ∧ Keeps T W wr)
    (fun i _ => 64 * N - (intOf i).toNat)
  case atStart => exact ⟨0, Nat.zero_le _, rfl, ⟨[], rfl, h0⟩, Keeps.refl _ _⟩
  case round =>
    obtain ⟨k, hk, rfl, ⟨pre, hpre, hJs⟩, hkr⟩ := hrel
    have c1 := hkr.cell hBs hTs
    have c2 := hkr.cell hBn hTn
    have hle := numsTo_length hpre
    by_cases hlt : k < N
    · obtain ⟨i, hi⟩ : ∃ i, i = 64 * k := ⟨_, rfl⟩
      obtain ⟨fn, tmps, assign, body, hy, hR⟩ := hY pre ⟨k, hlt⟩ wr.drew (hJd _ _ hJs) (by omega)
      unfold pieceV at hy
      simp only [← hi] at hy
      obtain ⟨L, hL⟩ : ∃ L, L = 64 * N := ⟨_, rfl⟩
      rw [← hi]
      rw [← hL] at c1
      have hi0 : (0 : Int) ≤ (i : Int) := by omega
      have hi1 : (i : Int) < (L : Int) := by omega
      have hi2 : (i : Int) ≤ (L : Int) := by omega
      have hic : ¬ cap = i := by omega
      have hsub : (L : Int) - (i : Int) = ((L - i : Nat) : Int) := by omega
      have h64 : (64 : Int) ≤ ((L - i : Nat) : Int) := by omega
      have hmin : (if ((L - i : Nat) : Int) < 64 then ((L - i : Nat) : Int) else 64) = (64 : Int) := if_neg (by omega)
      have hic2 : (i : Int) + 64 ≤ (cap : Int) := by omega
      have hi3 : (i : Int) ≤ 140737488355328 := by omega
      have e64 : ((i : Int) + 64).toNat - i = 64 := by omega
      have hn64 : ¬ ((i : Int) + 64).toNat = i := by omega
      have HI := Lib.hid hi; have HL := Lib.hid hL; have HK := Lib.hid hkr; have HP := Lib.hid hpre; have HLE := Lib.hid hle
      clear hi hL hkr hpre hle hBs hBn hk
      gi_wp2
      apply wpIn_one
      · gi_region
        all_goals exact ⟨rfl, rfl, rfl⟩
      gi_wp2
      refine hR.mono ?_
      rintro e W3 (⟨rfl, hJ3, hk3⟩ | ⟨rfl, hJx3⟩)
      · have c3 : W3.cell? ⟨Bn, 0, none⟩ = some (.int .i64 64) := hk3.cell (w := wr.drew) c2 hTn
        clear c1 c2
        gi_wp2
        go_roundw
        case rel => exact ⟨k + 1, by omega, by rw [HI.out]; go_num, ⟨_, numsTo_succ HP.out ⟨k, hlt⟩ rfl, hJ3⟩, (HK.out.drew).trans hk3⟩
        case measure => have := HL.out; have := HI.out; simp [intOf]; omega
      · gi_wp2
        refine bodyPost_ret (results_none rfl _ _ _) rfl ?_
        exact ⟨⟨_, rfl⟩, .inr ⟨_, trivial, hJx3⟩⟩
    · obtain rfl : k = N := by omega
      gi_wp2
      go_end0
      exact ⟨⟨_, rfl⟩, .inl ⟨_, hpre, hJs⟩⟩
end Go.Proofs.YthlkgmdkabelpaaGreatDoor
