/-
  The laws' arguments, opened: slices of troubles, messages, acts, uint16; a message; an array of two uint16. No condition.
-/
import Derived.Test.YthhimnihgkegiaaNSanity
import Derived.Test.YthhimnihgkegiaaChecked
import Derived.Test.YthhimnihgkegiaaRows
import Derived.ProofKit
import Derived.OpenShut
import Derived.Deep.Slices
import Derived.Deep.Fields
namespace Go.Proofs.Ythhimnihgkegiaa
open Go Go.RowKit Go.ChangeShapes Go.WideShapes Go.ChangeAt
set_option linter.unusedVariables false

def inI64 (n : Int) : Prop := -9223372036854775808 ≤ n ∧ n ≤ 9223372036854775807
theorem inI64_of {n : Int} (h : (Lit.int .i64 n).wf = true) : inI64 n := by
  simpa [inI64, Lit.wf, IntKind.min, IntKind.max, IntKind.signed, IntKind.bits] using h
def inU16 (n : Int) : Prop := 0 ≤ n ∧ n ≤ 65535
theorem inU16_of {n : Int} (h : (Lit.int .u16 n).wf = true) : inU16 n := by
  simpa [inU16, Lit.wf, IntKind.min, IntKind.max, IntKind.signed, IntKind.bits] using h
def inU8 (n : Int) : Prop := 0 ≤ n ∧ n ≤ 255
theorem inU8_of {n : Int} (h : (Lit.int .u8 n).wf = true) : inU8 n := by
  simpa [inU8, Lit.wf, IntKind.min, IntKind.max, IntKind.signed, IntKind.bits] using h

theorem cellsInt : Try.prog.cellsOf 3 = 1 := by kernel_rfl
theorem cellsBool : Try.prog.cellsOf 4 = 1 := by kernel_rfl
theorem cellsString : Try.prog.cellsOf 9 = 1 := by kernel_rfl
theorem cellsU16 : Try.prog.cellsOf 40 = 1 := by kernel_rfl
theorem cellsArr : Try.prog.cellsOf 47 = 2 := by kernel_rfl
theorem cellsTr : Try.prog.cellsOf 42 = 3 := by kernel_rfl
theorem cellsMsg : Try.prog.cellsOf 31 = 3 := by kernel_rfl
theorem cellsAct : Try.prog.cellsOf 33 = 5 := by kernel_rfl

/-- a slice whose elements, of 'size' cells, read as l -/
def Els {α : Type} (w : World) (v : Value) (size : Nat) (cells : α → List Value) (fits : α → Prop) (l : List α) : Prop :=
  ∃ o cap, v = .slice o l.length cap ∧ l.length ≤ cap ∧ (cap : Int) ≤ 9223372036854775807 ∧ (0 < l.length → ∃ b off, o = some ⟨b, off, none⟩ ∧ b < w.heap.size ∧ ∀ i (h : i < l.length) j v, (cells l[i])[j]? = some v → w.cell? ⟨b, off + i * size + j, none⟩ = some v) ∧
  ∀ a ∈ l, fits a

theorem choose_list {α : Type} {p : Nat → α → Prop} : ∀ (n : Nat), (∀ i, i < n → ∃ a, p i a) → ∃ l : List α, l.length = n ∧ ∀ i (h : i < l.length), p i l[i]
  | 0, _ => ⟨[], rfl, fun i h => absurd h (Nat.not_lt_zero i)⟩
  | n + 1, h => by
    obtain ⟨l, hl, hp⟩ := choose_list n (fun i hi => h i (by omega))
    obtain ⟨a, ha⟩ := h n (by omega)
    refine ⟨l ++ [a], by simp [hl], fun i hi => ?_⟩
    by_cases hin : i < l.length
    · rw [List.getElem_append_left hin]; exact hp i hin
    · have : i = l.length := by simp at hi; omega
      subst this
      rw [List.getElem_append_right (Nat.le_refl _)]
      simp only [Nat.sub_self, List.getElem_cons_zero]
      rw [hl]; exact ha

theorem open_els {α H : Type} (S E size : Nat) (cells : α → List Value) (fits : α → Prop) (hS : Try.prog.underlying S = some (.slice E)) (hE : Try.prog.cellsOf E = size) (hpos : 0 < size) (hlen : ∀ a, (cells a).length = size)
    {enc : TypeId × Value → H} {w : World} (hel : ∀ (base : Nat) (spare : Nat → Bool) (held : Bool) n cs x, DataW.trod enc Try.prog w base spare held n E cs = some x → ∃ a, cs = cells a ∧ fits a)
    {o : Option Addr} {n c : Nat} {d : DataW H} {ps : List MemPlace} (h : DataW.Trod enc Try.prog w 0 (fun _ => true) true S (.slice o n c) d ps) : ∃ l, Els w (.slice o n c) size cells fits l := by
  obtain ⟨fuel, hf⟩ := h
  rcases Go.Deep.open_slice hS hf with ⟨hcs, _⟩ | ⟨a, len, cap, m, k, D, Pl, hcs, _, hl, hm, hmm, _, hx⟩
  · simp [Value.cells] at hcs
    obtain ⟨rfl, rfl, rfl⟩ := hcs
    exact ⟨[], none, 0, rfl, Nat.le_refl _, by decide, fun h => absurd h (Nat.lt_irrefl 0), fun _ h => by simp at h⟩
  · simp [Value.cells] at hcs
    obtain ⟨rfl, rfl, rfl⟩ := hcs
    simp only [if_true] at hmm
    rw [hE] at hx
    have hone : ∀ i, i < n → ∃ x : α, fits x ∧ ∀ j v, (cells x)[j]? = some v → w.cell? ((a.add (i * size)).add j) = some v := by
      intro i hi
      obtain ⟨cs', hc, ht⟩ := hx i (by omega)
      obtain ⟨x, rfl, hfit⟩ := hel _ _ _ _ _ _ ht
      refine ⟨x, hfit, fun j v hv => ?_⟩
      obtain ⟨_, _, hat⟩ := World.cells?_some hc
      have hj : j < size := by rw [← hlen x]; exact (List.getElem?_eq_some_iff.1 hv).1
      rw [hat j hj]; exact hv
    obtain ⟨l, hll, hp⟩ := choose_list n hone
    subst hll
    refine ⟨l, some a, c, rfl, hl, by simp only [maxLen] at hm; omega, fun h0 => ?_, fun x hxl => ?_⟩
    · have h1 := (hp 0 h0).2 0 ((cells l[0])[0]'(by rw [hlen]; exact hpos)) (List.getElem?_eq_getElem _)
      have hsp : a.spot = none := by
        cases hs : a.spot with
        | none => rfl
        | some z => simp [World.cell?, Addr.add, hs] at h1; split at h1 <;> simp at h1
      obtain ⟨b, off, sp⟩ := a
      simp only at hsp
      subst hsp
      have e : ∀ i j, (((⟨b, off, none⟩ : Addr).add (i * size)).add j) = ⟨b, off + i * size + j, none⟩ := fun i j => by rw [addr_add, addr_add]
      refine ⟨b, off, rfl, ?_, fun i hi j v hv => ?_⟩
      · rw [e] at h1; exact World.block_lt_of_cell? w _ h1
      · have := (hp i hi).2 j v hv; rwa [e] at this
    · obtain ⟨i, hi, rfl⟩ := List.getElem_of_mem hxl
      exact (hp i hi).1

abbrev MsgD := Int × Int × List UInt8
def msgCells (m : MsgD) : List Value := [.int .i64 m.1, .int .i64 m.2.1, .string (str m.2.2)]
def msgFits (m : MsgD) : Prop := inI64 m.1 ∧ inI64 m.2.1 ∧ m.2.2.length ≤ 9223372036854775807
theorem msg_of {H : Type} {enc : TypeId × Value → H} {w : World} (base : Nat) (spare : Nat → Bool) (held : Bool) (n : Nat) (cs : List Value) (x : DataW H × List MemPlace)
    (h : DataW.trod enc Try.prog w base spare held n 31 cs = some x) : ∃ a : MsgD, cs = msgCells a ∧ msgFits a := by
  obtain ⟨xs, m, _, _, hlen, hxl, hf⟩ := DataW.trod_struct Try.underlying31 h
  rw [cellsMsg] at hlen
  match cs, hlen with
  | [c0, c1, c2], _ =>
    match xs, hxl with
    | [y0, y1, y2], _ =>
      have f0 : DataW.trod enc Try.prog w base spare held m 3 (List.take (Try.prog.cellsOf 3) [c0, c1, c2]) = _ := hf 0 _ rfl
      have f1 : DataW.trod enc Try.prog w base spare held m 3 (List.take (Try.prog.cellsOf 3) [c1, c2]) = _ := hf 1 _ rfl
      have f2 : DataW.trod enc Try.prog w base spare held m 9 (List.take (Try.prog.cellsOf 9) [c2]) = _ := hf 2 _ rfl
      simp only [cellsInt, cellsString] at f0 f1 f2
      obtain ⟨k, h0, _, w0⟩ := DataW.trod_int Try.underlying3 f0
      obtain ⟨o, h1, _, w1⟩ := DataW.trod_int Try.underlying3 f1
      obtain ⟨s, h2, _, w2⟩ := DataW.trod_string Try.underlying9 f2
      simp at h0 h1 h2
      subst h0; subst h1; subst h2
      exact ⟨(k, o, s.data.toList), rfl, inI64_of w0, inI64_of w1, by have h3 := size_data s; unfold maxLen at w2; show s.data.toList.length ≤ _; omega⟩
def trCells (t : Tr) : List Value := trv t
def trFits (t : Tr) : Prop := inI64 t.copies ∧ inI64 t.delay
theorem tr_of {H : Type} {enc : TypeId × Value → H} {w : World} (base : Nat) (spare : Nat → Bool) (held : Bool) (n : Nat) (cs : List Value) (x : DataW H × List MemPlace)
    (h : DataW.trod enc Try.prog w base spare held n 42 cs = some x) : ∃ a : Tr, cs = trv a ∧ trFits a := by
  obtain ⟨xs, m, _, _, hlen, hxl, hf⟩ := DataW.trod_struct Try.underlying42 h
  rw [cellsTr] at hlen
  match cs, hlen with
  | [c0, c1, c2], _ =>
    match xs, hxl with
    | [y0, y1, y2], _ =>
      have f0 : DataW.trod enc Try.prog w base spare held m 4 (List.take (Try.prog.cellsOf 4) [c0, c1, c2]) = _ := hf 0 _ rfl
      have f1 : DataW.trod enc Try.prog w base spare held m 3 (List.take (Try.prog.cellsOf 3) [c1, c2]) = _ := hf 1 _ rfl
      have f2 : DataW.trod enc Try.prog w base spare held m 3 (List.take (Try.prog.cellsOf 3) [c2]) = _ := hf 2 _ rfl
      simp only [cellsInt, cellsBool] at f0 f1 f2
      obtain ⟨k, h0, _⟩ := DataW.trod_bool Try.underlying4 f0
      obtain ⟨o, h1, _, w1⟩ := DataW.trod_int Try.underlying3 f1
      obtain ⟨s, h2, _, w2⟩ := DataW.trod_int Try.underlying3 f2
      simp at h0 h1 h2
      subst h0; subst h1; subst h2
      exact ⟨⟨k, o, s⟩, rfl, inI64_of w1, inI64_of w2⟩
abbrev NActD := Int × Int × MsgD
def actCells (a : NActD) : List Value := [.int .i64 a.1, .int .i64 a.2.1, .int .i64 a.2.2.1, .int .i64 a.2.2.2.1, .string (str a.2.2.2.2)]
def actFits (a : NActD) : Prop := inI64 a.1 ∧ inI64 a.2.1 ∧ msgFits a.2.2
theorem act_of {H : Type} {enc : TypeId × Value → H} {w : World} (base : Nat) (spare : Nat → Bool) (held : Bool) (n : Nat) (cs : List Value) (x : DataW H × List MemPlace)
    (h : DataW.trod enc Try.prog w base spare held n 33 cs = some x) : ∃ a : NActD, cs = actCells a ∧ actFits a := by
  obtain ⟨xs, m, _, _, hlen, hxl, hf⟩ := DataW.trod_struct Try.underlying33 h
  rw [cellsAct] at hlen
  match cs, hlen with
  | [c0, c1, c2, c3, c4], _ =>
    match xs, hxl with
    | [y0, y1, y2], _ =>
      have f0 : DataW.trod enc Try.prog w base spare held m 3 (List.take (Try.prog.cellsOf 3) [c0, c1, c2, c3, c4]) = _ := hf 0 _ rfl
      have f1 : DataW.trod enc Try.prog w base spare held m 3 (List.take (Try.prog.cellsOf 3) [c1, c2, c3, c4]) = _ := hf 1 _ rfl
      have f2 : DataW.trod enc Try.prog w base spare held m 31 (List.take (Try.prog.cellsOf 31) [c2, c3, c4]) = _ := hf 2 _ rfl
      simp only [cellsInt, cellsMsg] at f0 f1 f2
      obtain ⟨k, h0, _, w0⟩ := DataW.trod_int Try.underlying3 f0
      obtain ⟨o, h1, _, w1⟩ := DataW.trod_int Try.underlying3 f1
      obtain ⟨mm, h2, w2⟩ := msg_of _ _ _ _ _ _ f2
      simp [msgCells] at h0 h1 h2
      obtain ⟨rfl, rfl, rfl⟩ := h2
      subst h0; subst h1
      exact ⟨(k, o, mm), rfl, inI64_of w0, inI64_of w1, w2⟩
def u16Cells (n : Int) : List Value := [.int .u16 n]
theorem u16_of {H : Type} {enc : TypeId × Value → H} {w : World} (base : Nat) (spare : Nat → Bool) (held : Bool) (n : Nat) (cs : List Value) (x : DataW H × List MemPlace)
    (h : DataW.trod enc Try.prog w base spare held n 40 cs = some x) : ∃ a : Int, cs = u16Cells a ∧ inU16 a := by
  obtain ⟨k, h0, _, w0⟩ := DataW.trod_int Try.underlying40 h
  exact ⟨k, h0, inU16_of w0⟩

def Trs (w : World) (v : Value) (l : List Tr) : Prop := Els w v 3 trv trFits l
def Msgs (w : World) (v : Value) (l : List MsgD) : Prop := Els w v 3 msgCells msgFits l
def NActs (w : World) (v : Value) (l : List NActD) : Prop := Els w v 5 actCells actFits l
def U16s (w : World) (v : Value) (l : List Int) : Prop := Els w v 1 u16Cells inU16 l
section
variable {H : Type} {enc : TypeId × Value → H} {w : World} {o : Option Addr} {n c : Nat} {d : DataW H} {ps : List MemPlace}
theorem open_trs (h : DataW.Trod enc Try.prog w 0 (fun _ => true) true 22 (.slice o n c) d ps) : ∃ l, Trs w (.slice o n c) l :=
  open_els _ _ 3 trv trFits Try.underlying22 cellsTr (by decide) (fun _ => rfl) tr_of h
theorem open_msgs (h : DataW.Trod enc Try.prog w 0 (fun _ => true) true 45 (.slice o n c) d ps) : ∃ l, Msgs w (.slice o n c) l :=
  open_els _ _ 3 msgCells msgFits Try.underlying45 cellsMsg (by decide) (fun _ => rfl) msg_of h
theorem open_nacts (h : DataW.Trod enc Try.prog w 0 (fun _ => true) true 23 (.slice o n c) d ps) : ∃ l, NActs w (.slice o n c) l :=
  open_els _ _ 5 actCells actFits Try.underlying23 cellsAct (by decide) (fun _ => rfl) act_of h
theorem open_u16s (h : DataW.Trod enc Try.prog w 0 (fun _ => true) true 39 (.slice o n c) d ps) : ∃ l, U16s w (.slice o n c) l :=
  open_els _ _ 1 u16Cells inU16 Try.underlying39 cellsU16 (by decide) (fun _ => rfl) u16_of h
end

theorem open_two16 {H : Type} {enc : TypeId × Value → H} {w : World} {base : Nat} {spare : Nat → Bool} {held : Bool} {r : Reach} {b0 : Nat} {v : Value} {d : DataW H} {ps : List MemPlace}
    (hv : Value.okWide Try.prog w r b0 47 v) (h : DataW.Trod enc Try.prog w base spare held 47 v d ps) :
    ∃ a b, v = .agg #[.int .u16 a, .int .u16 b] ∧ inU16 a ∧ inU16 b := by
  obtain ⟨fuel, hf⟩ := h
  obtain ⟨xs, m, _, _, hlen, hxl, hx⟩ := DataW.trod_array Try.underlying47 hf
  rw [cellsArr] at hlen
  have hagg : ∃ cs, v = .agg cs := by
    simp only [Value.okWide, Try.underlying47] at hv
    obtain ⟨cs, h1, _⟩ := hv
    exact ⟨cs, h1⟩
  obtain ⟨cs, rfl⟩ := hagg
  simp only [Value.cells] at hlen hx
  obtain ⟨l⟩ := cs
  match l, hlen with
  | [c0, c1], _ =>
    have f0 := hx 0 (by omega)
    have f1 := hx 1 (by omega)
    simp only [cellsU16] at f0 f1
    match xs, hxl with
    | [y0, y1], _ =>
      obtain ⟨a, h0, _, w0⟩ := DataW.trod_int Try.underlying40 f0
      obtain ⟨b, h1, _, w1⟩ := DataW.trod_int Try.underlying40 f1
      simp at h0 h1
      subst h0; subst h1
      exact ⟨a, b, rfl, inU16_of w0, inU16_of w1⟩
theorem open_msg {H : Type} {enc : TypeId × Value → H} {w : World} {base : Nat} {spare : Nat → Bool} {held : Bool} {r : Reach} {b0 : Nat} {v : Value} {d : DataW H} {ps : List MemPlace}
    (hv : Value.okWide Try.prog w r b0 31 v) (h : DataW.Trod enc Try.prog w base spare held 31 v d ps) : ∃ m : MsgD, v = msgVal m.1 m.2.1 m.2.2 ∧ msgFits m := by
  obtain ⟨fuel, hf⟩ := h
  have hagg : ∃ cs, v = .agg cs := by
    simp only [Value.okWide, Try.underlying31] at hv
    obtain ⟨cs, h1, _⟩ := hv
    exact ⟨cs, h1⟩
  obtain ⟨cs, rfl⟩ := hagg
  simp only [Value.cells] at hf
  obtain ⟨m, hm, hfit⟩ := msg_of _ _ _ _ _ _ hf
  refine ⟨m, ?_, hfit⟩
  obtain ⟨l⟩ := cs
  simp only at hm
  subst hm; rfl

/-- an element's cells, in a later world -/
theorem Els.cell {α : Type} {w w' : World} {v : Value} {size : Nat} {cells : α → List Value} {fits : α → Prop} {l : List α} {o : Option Addr} {n cap b off : Nat} {L : Nat}
    (hb : b < w.heap.size) (hc : ∀ i (h : i < l.length) j v, (cells l[i])[j]? = some v → w.cell? ⟨b, off + i * size + j, none⟩ = some v) (hk : Keeps (from_ w.heap.size) w w') (i : Nat) (h : i < l.length) (j : Nat) (u : Value) (hu : (cells l[i])[j]? = some u) :
    w'.cell? ⟨b, off + i * size + j, none⟩ = some u :=
  hk.cell (hc i h j u hu) (fun e => by have : w.heap.size ≤ b := e; omega)
end Go.Proofs.Ythhimnihgkegiaa
