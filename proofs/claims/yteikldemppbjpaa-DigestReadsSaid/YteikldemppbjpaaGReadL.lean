/-
  The reading of a hash's text: plain law, and the results of a function that returns a hash and a bool. No condition.
-/
import Derived.Test.YteikldemppbjpaaGHash
import Derived.Test.YteikldemppbjpaaGShelf
namespace Go.Proofs.Yteikldemppbjpaa
open Go Go.RowKit
set_option linter.unusedVariables false

theorem results_cell_tmp {P : Program} {fn : Func} {p q : Tmp} {ty : TypeId} (h : fn.results = #[.cell p ty, .tmp q]) (tmps : Array Value) (w : World) (g : Nat) (t : TypeId) (cs : Array Value) (fr : Nat × Nat) (d : TypeDesc)
    (hp : tmps.getD p undef = .pointer (some ⟨g, 0, none⟩)) (hg : w.heap[g]? = some (.cells cs t fr))
    (hu : P.underlying ty = some d) (hd : (match d with | .struct _ | .array _ _ => true | _ => false) = true) (hi : (P.info? ty).map (·.size) = some cs.size) :
    (results fn tmps).run P w = .ok (.tuple #[.agg cs, tmps.getD q undef]) w := by
  have hp' : tmps[p]?.getD undef = .pointer (some ⟨g, 0, none⟩) := by simpa using hp
  simp [results, h, hp', asAddr, run_loadVar_row w g t ty cs fr d hg hu hd hi]

/-- the place of a byte among the digits, or -1 -/
def hv (c : UInt8) : Int := Lib.indexByte digs c
/-- the same, after k digits -/
def nAt (c : UInt8) : Nat → Int
  | 0 => -1
  | k + 1 => if digs.getD k 0 = c then (k : Int) else nAt c k
theorem nAt_all (c : UInt8) : nAt c 16 = hv c := by
  have h : ∀ n : Fin 256, nAt (UInt8.ofNat n.val) 16 = hv (UInt8.ofNat n.val) := by decide +kernel
  have := h ⟨c.toNat, c.toNat_lt⟩
  simpa using this
theorem hv_range (c : UInt8) : -1 ≤ hv c ∧ hv c < 16 := by
  have h : ∀ n : Fin 256, -1 ≤ hv (UInt8.ofNat n.val) ∧ hv (UInt8.ofNat n.val) < 16 := by decide +kernel
  have := h ⟨c.toNat, c.toNat_lt⟩
  simpa using this
theorem hv_hexd : ∀ n : Fin 16, hv (hexd n.val) = (n.val : Int) := by decide +kernel
/-- a digit taken into the byte at i / 2 -/
def stepB (o : List UInt8) (i n : Nat) : List UInt8 := o.set (i / 2) (UInt8.ofNat ((o.getD (i / 2) 0).toNat * 16 + n))
theorem stepB_length (o : List UInt8) (i n : Nat) : (stepB o i n).length = o.length := List.length_set
/-- the digits from place i on, read into o -/
def rd (o : List UInt8) (i : Nat) : List UInt8 → Option (List UInt8)
  | [] => some o
  | c :: r => if hv c < 0 then none else rd (stepB o i (hv c).toNat) (i + 1) r
theorem rd_length : ∀ (l o : List UInt8) (i : Nat) (p : List UInt8), rd o i l = some p → p.length = o.length
  | [], o, i, p, h => by rw [rd] at h; cases h; rfl
  | c :: r, o, i, p, h => by
    rw [rd] at h
    split at h
    · cases h
    · rw [rd_length r _ _ p h, stepB_length]
/-- what Read returns: the hash and whether it is one -/
def readL (l : List UInt8) : List UInt8 × Bool :=
  if l.length = 64 then (match rd (List.replicate 32 0) 0 l with | some o => (o, true) | none => (List.replicate 32 0, false)) else (List.replicate 32 0, false)
theorem readL_length (l : List UInt8) : (readL l).1.length = 32 := by
  unfold readL
  split
  · cases h : rd (List.replicate 32 0) 0 l with
    | none => simp
    | some o => simpa using rd_length _ _ _ _ h
  · simp
theorem byte_or : ∀ (n : Fin 256) (k : Fin 16), bits .or .u8 ((n.val : Int) * 16 % 256) (k.val : Int) = (((n.val * 16 + k.val) % 256 : Nat) : Int) := by decide +kernel

theorem rd_text : ∀ (r p : List UInt8), rd (p ++ List.replicate r.length 0) (2 * p.length) (textL r) = some (p ++ r)
  | [], p => by rfl
  | x :: r, p => by
    have hx := x.toNat_lt
    have e : textL (x :: r) = hexd (x.toNat / 16) :: hexd (x.toNat % 16) :: textL r := rfl
    have h1 := hv_hexd ⟨x.toNat / 16, by omega⟩
    have h2 := hv_hexd ⟨x.toNat % 16, by omega⟩
    dsimp only at h1 h2
    have n1 : ¬ ((x.toNat / 16 : Nat) : Int) < 0 := by omega
    have n2 : ¬ ((x.toNat % 16 : Nat) : Int) < 0 := by omega
    rw [e, rd, h1, if_neg n1, rd, h2, if_neg n2, Int.toNat_natCast, Int.toNat_natCast]
    have d1 : 2 * p.length / 2 = p.length := by omega
    have d2 : (2 * p.length + 1) / 2 = p.length := by omega
    have s1 : stepB (p ++ List.replicate (x :: r).length 0) (2 * p.length) (x.toNat / 16) = p ++ UInt8.ofNat (x.toNat / 16) :: List.replicate r.length 0 := by
      unfold stepB
      rw [d1, List.length_cons, List.replicate_succ, List.set_append_right _ _ (Nat.le_refl _), Nat.sub_self, List.set_cons_zero, List.getD_eq_getElem?_getD, List.getElem?_append_right (Nat.le_refl _), Nat.sub_self]
      simp
    have s2 : stepB (p ++ UInt8.ofNat (x.toNat / 16) :: List.replicate r.length 0) (2 * p.length + 1) (x.toNat % 16) = (p ++ [x]) ++ List.replicate r.length 0 := by
      unfold stepB
      rw [d2, List.set_append_right _ _ (Nat.le_refl _), Nat.sub_self, List.set_cons_zero, List.getD_eq_getElem?_getD, List.getElem?_append_right (Nat.le_refl _), Nat.sub_self]
      have : UInt8.ofNat (((UInt8.ofNat (x.toNat / 16) :: List.replicate r.length 0)[0]?.getD 0).toNat * 16 + x.toNat % 16) = x := by
        apply UInt8.toNat_inj.1
        show (UInt8.ofNat ((UInt8.ofNat (x.toNat / 16)).toNat * 16 + x.toNat % 16)).toNat = x.toNat
        rw [UInt8.toNat_ofNat', UInt8.toNat_ofNat']
        omega
      rw [this]
      simp
    rw [s1, s2, show 2 * p.length + 1 + 1 = 2 * (p ++ [x]).length by simp; omega, rd_text r (p ++ [x])]
    simp
theorem read_text (h : List UInt8) (hl : h.length = 32) : readL (textL h) = (h, true) := by
  unfold readL
  rw [if_pos (by rw [textL_length, hl])]
  have := rd_text h []
  simp only [List.nil_append, List.length_nil, Nat.mul_zero, hl] at this
  rw [this]
end Go.Proofs.Yteikldemppbjpaa
