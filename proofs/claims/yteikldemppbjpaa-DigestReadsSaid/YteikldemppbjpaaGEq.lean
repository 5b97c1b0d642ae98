/-
  Rows of bytes held against each other, and the laws' small helpers. Over any program. Condition: rows of the array's length.
-/
import Derived.Test.YteikldemppbjpaaGSanity
namespace Go.Proofs.Yteikldemppbjpaa
open Go Go.RowKit
set_option linter.unusedVariables false

theorem run_part8 {P : Program} (e : TypeId) (hsz : (P.info? e).map (·.size) = some 1) (hue : P.underlying e = some (.int .u8)) (a : List UInt8) (i : Nat) (hi : i < a.length) (w : World) :
    (part e (bvs a).toArray (i * 1)).run P w = .ok (.int .u8 ((a.getD i 0).toNat : Int)) w := by
  cases hq : P.info? e with
  | none => simp [hq] at hsz
  | some j =>
    have hj : j.size = 1 := by simpa [hq] using hsz
    have h1 : (bvs a)[i]? = some (.int .u8 ((a.getD i 0).toNat : Int)) := by
      simp only [bvs, List.getElem?_map]
      rw [List.getD_eq_getElem?_getD, List.getElem?_eq_getElem hi]
      rfl
    have hagg : (isAgg e).run P w = .ok false w := by
      unfold isAgg
      rw [Sem.run_bind, run_underlying hue w]
      rfl
    simp [part, h1, hagg, sizeOf, typeInfo, hq, hj]
theorem run_eq_row {P : Program} (T e : TypeId) (n : Nat) (hu : P.underlying T = some (.array n e)) (hsz : (P.info? e).map (·.size) = some 1) (hue : P.underlying e = some (.int .u8)) (a b : List UInt8) (ha : a.length = n) (hb : b.length = n) (d : Nat) (w : World) :
    (Op.equalIn (d + 2) T (.agg (bvs a).toArray) (.agg (bvs b).toArray)).run P w = .ok (a == b) w := by
  have hso : (sizeOf e).run P w = .ok 1 w := by
    cases hq : P.info? e with
    | none => simp [hq] at hsz
    | some i =>
      have hi : i.size = 1 := by simpa [hq] using hsz
      simp [sizeOf, typeInfo, hq, hi]
  rw [show d + 2 = (d + 1) + 1 from rfl, Op.equalIn]
  simp only [Sem.run_bind, run_underlying hu, Result.andThen_ok, hso]
  rw [Std.Legacy.Range.forIn_eq_forIn_range']
  have key : ∀ L : List Nat, (∀ i ∈ L, i < n) → (forIn L ((none : Option Bool), ()) (fun i __s => do
            let __do_lift ← part e (bvs a).toArray (i * 1)
            let __do_lift_1 ← part e (bvs b).toArray (i * 1)
            let __do_lift ← Op.equalIn (d + 1) e __do_lift __do_lift_1
            if (!__do_lift) = true then pure (ForInStep.done (some false, ())) else pure (ForInStep.yield (none, ())) : Nat → Option Bool × Unit → Sem (ForInStep (Option Bool × Unit)))).run P w
        = .ok (if L.all (fun i => a.getD i 0 == b.getD i 0) = true then (none, ()) else (some false, ())) w := by
    intro L
    induction L with
    | nil => intro _; simp
    | cons i L ih =>
      intro hL
      have hi : i < n := hL i (by simp)
      rw [List.forIn_cons]
      simp only [Sem.run_bind, run_part8 e hsz hue a i (by omega), run_part8 e hsz hue b i (by omega), Result.andThen_ok, run_equalIn_int (P := P) w d e .u8 .u8 _ _ hue]
      have hd : (((a.getD i 0).toNat : Int) == ((b.getD i 0).toNat : Int)) = (a.getD i 0 == b.getD i 0) := by
        rw [Bool.eq_iff_iff]
        simp only [beq_iff_eq, Int.natCast_inj]
        exact UInt8.toNat_inj
      rw [hd]
      by_cases h : (a.getD i 0 == b.getD i 0) = true
      · rw [h]
        simp only [List.all_cons, h, Bool.true_and]
        have := ih (fun j hj => hL j (by simp [hj]))
        simpa [h] using this
      · have h' : (a.getD i 0 == b.getD i 0) = false := by simpa using h
        rw [h']
        simp only [List.all_cons, h']
        simp
  rw [key _ (by
    intro i hi
    simp [Std.Legacy.Range.size] at hi
    omega)]
  have hall : ((List.range' [:n].start [:n].size [:n].step).all (fun i => a.getD i 0 == b.getD i 0)) = (a == b) := by
    rw [Bool.eq_iff_iff, List.all_eq_true, beq_iff_eq]
    constructor
    · intro h
      apply List.ext_getElem?
      intro i
      by_cases hi : i < n
      · have := h i (by simp [Std.Legacy.Range.size]; omega)
        rw [beq_iff_eq, List.getD_eq_getElem?_getD, List.getD_eq_getElem?_getD, List.getElem?_eq_getElem (by omega), List.getElem?_eq_getElem (by omega)] at this
        rw [List.getElem?_eq_getElem (by omega), List.getElem?_eq_getElem (by omega)]
        exact congrArg some this
      · rw [List.getElem?_eq_none (by omega), List.getElem?_eq_none (by omega)]
    · rintro rfl i _
      simp
  rw [hall]
  by_cases h : (a == b) = true
  · simp [h]
  · have h' : (a == b) = false := by simpa using h
    simp [h']
/-- two hashes held against each other -/
theorem eq_hash (a b : List UInt8) (ha : a.length = 32) (hb : b.length = 32) (w : World) :
    (Op.equalIn 10000 24 (.agg (bvs a).toArray) (.agg (bvs b).toArray)).run Try.prog w = .ok (a == b) w :=
  run_eq_row (P := Try.prog) 24 5 32 Try.underlying24 (by kernel_rfl) Try.underlying5 a b ha hb 9998 w
theorem keeps_below {w w' : World} (h : Keeps noBlock w w') : Below w.heap.size w w' := ⟨h.os, h.tape, h.output, h.size, fun k hk => h.block k hk (fun e => e)⟩
theorem sum_str (l : List UInt8) (w : World) (h : l.length ≤ 1099511627776) : Calls Try.prog 12 #[.string (str l)] w fun e w' => e = .returned (.agg (bvs (sha l)).toArray) ∧ Keeps noBlock w w' := by
  have := sum_any (str l) w (by rw [size_str]; exact h)
  rw [data_str] at this
  exact this
theorem rsum_str (l : List UInt8) (w : World) (h : l.length ≤ 1099511627776) : Calls Try.prog 13 #[.string (str l)] w fun e w' => e = .returned (.agg (bvs (sha l)).toArray) ∧ Keeps noBlock w w' := rsum_any l w h
end Go.Proofs.Yteikldemppbjpaa
