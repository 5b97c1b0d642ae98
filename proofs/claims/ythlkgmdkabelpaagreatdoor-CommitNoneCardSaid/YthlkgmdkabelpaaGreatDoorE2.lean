/-
  The relation between the abstract machine and the model: values, frames, objects, heaps, under a partial renaming of blocks. Over any program. No condition.
-/
import Derived.Test.YthlkgmdkabelpaaGreatDoorE1
namespace Go.Proofs.YthlkgmdkabelpaaGreatDoor.X
open Go Go.RowKit
set_option linter.unusedVariables false

/-- what a name stands for: the block, the shift, the cells of the block, the cells of an element, the cells of the row as far as it is told -/
structure RI where
  b : Nat
  s : Nat
  z : Nat
  k : Nat
  r : Nat
abbrev Ren := Nat → Option RI
def Ren.le (ρ ρ' : Ren) : Prop := ∀ n i, ρ n = some i → ρ' n = some i
theorem Ren.le.refl (ρ : Ren) : ρ.le ρ := fun _ _ h => h
theorem Ren.le.trans {a b c : Ren} (h : a.le b) (k : b.le c) : a.le c := fun n i e => k n i (h n i e)

mutual
inductive VR (ρ : Ren) : Value → Value → Prop
  | flat (k : Nat) (v : Value) (h : flatN k v = true) : VR ρ v v
  | ptr (n o : Nat) (i : RI) (h : ρ n = some i) : VR ρ (.pointer (some ⟨n, o, none⟩)) (.pointer (some ⟨i.b, o + i.s, none⟩))
  | slice (n o len cap : Nat) (i : RI) (h : ρ n = some i) (hc : isOpen cap = false) : VR ρ (.slice (some ⟨n, o, none⟩) len cap) (.slice (some ⟨i.b, o + i.s, none⟩) len cap)
  | sliceO (n o len cap cap' : Nat) (i : RI) (h : ρ n = some i) (hc : isOpen cap = true) (hl : len ≤ cap') (hr : i.r ≤ o + cap' * i.k) (hz : o + i.s + cap' * i.k ≤ i.z) :
      VR ρ (.slice (some ⟨n, o, none⟩) len cap) (.slice (some ⟨i.b, o + i.s, none⟩) len cap')
  | sliceE (n o cap : Nat) (a : Addr) (i : RI) (h : ρ n = some i) (hc : isOpen cap = true) (hr : i.r ≤ o) : VR ρ (.slice (some ⟨n, o, none⟩) 0 cap) (.slice (some a) 0 0)
  | sliceZ (n o : Nat) (a : Addr) (i : RI) (h : ρ n = some i) : VR ρ (.slice (some ⟨n, o, none⟩) 0 0) (.slice (some a) 0 0)
  | map (n : Nat) (i : RI) (h : ρ n = some i) : VR ρ (.map (some n)) (.map (some i.b))
  | func (f : FuncId) (xs cs xs' cs' : List Value) (h1 : VRs ρ xs xs') (h2 : VRs ρ cs cs') : VR ρ (.func (.func f) xs.toArray cs.toArray) (.func (.func f) xs'.toArray cs'.toArray)
  | yield (n : Nat) (i : RI) (h : ρ n = some i) : VR ρ (.func (.yield n) #[] #[]) (.func (.yield i.b) #[] #[])
  | iface (t : TypeId) (v v' : Value) (h : VR ρ v v') : VR ρ (.iface t v) (.iface t v')
  | agg (cs cs' : List Value) (h : VRs ρ cs cs') : VR ρ (.agg cs.toArray) (.agg cs'.toArray)
  | tuple (cs cs' : List Value) (h : VRs ρ cs cs') : VR ρ (.tuple cs.toArray) (.tuple cs'.toArray)
inductive VRs (ρ : Ren) : List Value → List Value → Prop
  | nil : VRs ρ [] []
  | cons (v v' : Value) (l l' : List Value) (h : VR ρ v v') (hs : VRs ρ l l') : VRs ρ (v :: l) (v' :: l')
end

mutual
theorem VR.mono {ρ ρ' : Ren} (hr : ρ.le ρ') : ∀ {v x : Value}, VR ρ v x → VR ρ' v x
  | _, _, .flat k v h => .flat k v h
  | _, _, .ptr n o i h => .ptr n o i (hr _ _ h)
  | _, _, .slice n o l c i h hc => .slice n o l c i (hr _ _ h) hc
  | _, _, .sliceO n o l c c' i h hc hl h1 h2 => .sliceO n o l c c' i (hr _ _ h) hc hl h1 h2
  | _, _, .sliceE n o c a i h hc h1 => .sliceE n o c a i (hr _ _ h) hc h1
  | _, _, .sliceZ n o a i h => .sliceZ n o a i (hr _ _ h)
  | _, _, .map n i h => .map n i (hr _ _ h)
  | _, _, .func f xs cs xs' cs' h1 h2 => .func f xs cs xs' cs' (VRs.mono hr h1) (VRs.mono hr h2)
  | _, _, .yield n i h => .yield n i (hr _ _ h)
  | _, _, .iface t v v' h => .iface t v v' (VR.mono hr h)
  | _, _, .agg cs cs' h => .agg cs cs' (VRs.mono hr h)
  | _, _, .tuple cs cs' h => .tuple cs cs' (VRs.mono hr h)
theorem VRs.mono {ρ ρ' : Ren} (hr : ρ.le ρ') : ∀ {v x : List Value}, VRs ρ v x → VRs ρ' v x
  | _, _, .nil => .nil
  | _, _, .cons v v' l l' h hs => .cons v v' l l' (VR.mono hr h) (VRs.mono hr hs)
end
theorem VRs.length {ρ : Ren} : ∀ {v x : List Value}, VRs ρ v x → x.length = v.length
  | _, _, .nil => rfl
  | _, _, .cons v v' l l' h hs => by simp [hs.length]
theorem VRs.get {ρ : Ren} : ∀ {v x : List Value}, VRs ρ v x → ∀ (j : Nat) (u : Value), v[j]? = some u → ∃ u', x[j]? = some u' ∧ VR ρ u u'
  | _, _, .nil, j, u, h => by simp at h
  | _, _, .cons v v' l l' h hs, 0, u, e => by simp at e; subst e; exact ⟨v', rfl, h⟩
  | _, _, .cons v v' l l' h hs, j + 1, u, e => by simpa using hs.get j u (by simpa using e)
theorem VRs.append {ρ : Ren} : ∀ {v x u y : List Value}, VRs ρ v x → VRs ρ u y → VRs ρ (v ++ u) (x ++ y)
  | _, _, _, _, .nil, k => k
  | _, _, _, _, .cons v v' l l' h hs, k => .cons _ _ _ _ h (hs.append k)
theorem VRs.drop {ρ : Ren} : ∀ {v x : List Value}, VRs ρ v x → ∀ n, VRs ρ (v.drop n) (x.drop n)
  | _, _, h, 0 => h
  | _, _, .nil, n + 1 => .nil
  | _, _, .cons v v' l l' h hs, n + 1 => hs.drop n
theorem VRs.take {ρ : Ren} : ∀ {v x : List Value}, VRs ρ v x → ∀ n, VRs ρ (v.take n) (x.take n)
  | _, _, h, 0 => .nil
  | _, _, .nil, n + 1 => .nil
  | _, _, .cons v v' l l' h hs, n + 1 => .cons _ _ _ _ h (hs.take n)
theorem VRs.of_get {ρ : Ren} : ∀ {v x : List Value}, x.length = v.length → (∀ (j : Nat) (u : Value), v[j]? = some u → ∃ u', x[j]? = some u' ∧ VR ρ u u') → VRs ρ v x
  | [], [], _, _ => .nil
  | [], _ :: _, h, _ => by simp at h
  | _ :: _, [], h, _ => by simp at h
  | v :: l, x :: m, h, k => by
    obtain ⟨u', e, r⟩ := k 0 v rfl
    simp at e
    subst e
    exact .cons _ _ _ _ r (VRs.of_get (by simpa using h) fun j u hu => by simpa using k (j + 1) u (by simpa using hu))

theorem flatN_list {n : Nat} {l : List Value} {ρ : Ren} (h : l.all (flatN n) = true) : VRs ρ l l := by
  induction l with
  | nil => exact .nil
  | cons v l ih => simp at h; exact .cons _ _ _ _ (.flat n v h.1) (ih (by simpa using h.2))
mutual
/-- a value without addresses stands for itself alone -/
theorem VR.of_flat {ρ : Ren} : ∀ {v x : Value}, VR ρ v x → ∀ k, flatN k v = true → x = v
  | _, _, .flat _ v _, _, _ => rfl
  | _, _, .ptr n o i h, k, e => by cases k <;> simp [flatN] at e
  | _, _, .slice n o l c i h hc, k, e => by cases k <;> simp [flatN] at e
  | _, _, .sliceO n o l c c' i h hc hl h1 h2, k, e => by cases k <;> simp [flatN] at e
  | _, _, .sliceE n o c a i h hc h1, k, e => by cases k <;> simp [flatN] at e
  | _, _, .sliceZ n o a i h, k, e => by cases k <;> simp [flatN] at e
  | _, _, .map n i h, k, e => by cases k <;> simp [flatN] at e
  | _, _, .func f xs cs xs' cs' h1 h2, k, e => by
    cases k with
    | zero => simp [flatN] at e
    | succ k =>
      simp [flatN] at e
      obtain ⟨rfl, rfl⟩ := e
      cases h1
      cases h2
      rfl
  | _, _, .yield n i h, k, e => by cases k <;> simp [flatN] at e
  | _, _, .iface t v v' h, k, e => by
    cases k with
    | zero => simp [flatN] at e
    | succ k => rw [VR.of_flat h k (by simpa [flatN] using e)]
  | _, _, .agg cs cs' h, k, e => by
    cases k with
    | zero => simp [flatN] at e
    | succ k => rw [VRs.of_flat h k (by simpa [flatN] using e)]
  | _, _, .tuple cs cs' h, k, e => by
    cases k with
    | zero => simp [flatN] at e
    | succ k => rw [VRs.of_flat h k (by simpa [flatN] using e)]
theorem VRs.of_flat {ρ : Ren} : ∀ {v x : List Value}, VRs ρ v x → ∀ k, (∀ u ∈ v, flatN k u = true) → x = v
  | _, _, .nil, _, _ => rfl
  | _, _, .cons v v' l l' h hs, k, e => by rw [VR.of_flat h k (e v (by simp)), VRs.of_flat hs k (fun u hu => e u (by simp [hu]))]
end
theorem VR.flatEq {ρ : Ren} {v x : Value} (h : VR ρ v x) (e : flatV v = true) : x = v := h.of_flat 8 e
theorem VR.int {ρ : Ren} {k : IntKind} {n : Int} {x : Value} (h : VR ρ (.int k n) x) : x = .int k n := h.of_flat 1 rfl
theorem VR.bool {ρ : Ren} {b : Bool} {x : Value} (h : VR ρ (.bool b) x) : x = .bool b := h.of_flat 1 rfl
theorem VR.str {ρ : Ren} {b : ByteArray} {x : Value} (h : VR ρ (.string b) x) : x = .string b := h.of_flat 1 rfl
theorem VR.ptrInv {ρ : Ren} {n o : Nat} {x : Value} (h : VR ρ (.pointer (some ⟨n, o, none⟩)) x) : ∃ i, ρ n = some i ∧ x = .pointer (some ⟨i.b, o + i.s, none⟩) := by
  cases h with
  | flat k v h => cases k <;> simp [flatN] at h
  | ptr n o i h => exact ⟨i, h, rfl⟩
theorem VR.ptrSome {ρ : Ren} {a : Addr} {x : Value} (h : VR ρ (.pointer (some a)) x) : ∃ n o i, a = ⟨n, o, none⟩ ∧ ρ n = some i ∧ x = .pointer (some ⟨i.b, o + i.s, none⟩) := by
  cases h with
  | flat k v h => cases k <;> simp [flatN] at h
  | ptr n o i h => exact ⟨n, o, i, rfl, h, rfl⟩
theorem VR.mapInv {ρ : Ren} {n : Nat} {x : Value} (h : VR ρ (.map (some n)) x) : ∃ i, ρ n = some i ∧ x = .map (some i.b) := by
  cases h with
  | flat k v h => cases k <;> simp [flatN] at h
  | map n i h => exact ⟨i, h, rfl⟩
theorem VR.ifaceInv {ρ : Ren} {t : TypeId} {v x : Value} (h : VR ρ (.iface t v) x) : ∃ v', x = .iface t v' ∧ VR ρ v v' := by
  cases h with
  | flat k v h =>
    cases k with
    | zero => simp [flatN] at h
    | succ k => exact ⟨_, rfl, .flat k _ (by simpa [flatN] using h)⟩
  | iface t v v' h => exact ⟨v', rfl, h⟩
theorem VR.aggInv {ρ : Ren} {cs : Array Value} {x : Value} (h : VR ρ (.agg cs) x) : ∃ cs' : List Value, x = .agg cs'.toArray ∧ VRs ρ cs.toList cs' := by
  cases h with
  | flat k v h =>
    cases k with
    | zero => simp [flatN] at h
    | succ k => exact ⟨cs.toList, by simp, flatN_list (n := k) (by simpa only [flatN] using h)⟩
  | agg cs cs' h => exact ⟨cs', rfl, by simpa using h⟩
theorem VR.tupleInv {ρ : Ren} {cs : Array Value} {x : Value} (h : VR ρ (.tuple cs) x) : ∃ cs' : List Value, x = .tuple cs'.toArray ∧ VRs ρ cs.toList cs' := by
  cases h with
  | flat k v h =>
    cases k with
    | zero => simp [flatN] at h
    | succ k => exact ⟨cs.toList, by simp, flatN_list (n := k) (by simpa only [flatN] using h)⟩
  | tuple cs cs' h => exact ⟨cs', rfl, by simpa using h⟩
theorem VR.funcInv {ρ : Ren} {f : FuncId} {xs cs : Array Value} {x : Value} (h : VR ρ (.func (.func f) xs cs) x) : ∃ xs' cs' : List Value, x = .func (.func f) xs'.toArray cs'.toArray ∧ VRs ρ xs.toList xs' ∧ VRs ρ cs.toList cs' := by
  cases h with
  | flat k v h =>
    cases k with
    | zero => simp [flatN] at h
    | succ k =>
      simp [flatN] at h
      obtain ⟨rfl, rfl⟩ := h
      exact ⟨[], [], rfl, .nil, .nil⟩
  | func f xs cs xs' cs' h1 h2 => exact ⟨xs', cs', rfl, by simpa using h1, by simpa using h2⟩
theorem VR.yieldInv {ρ : Ren} {n : Nat} {xs cs : Array Value} {x : Value} (h : VR ρ (.func (.yield n) xs cs) x) : ∃ i, ρ n = some i ∧ x = .func (.yield i.b) #[] #[] := by
  cases h with
  | flat k v h => cases k <;> simp [flatN] at h
  | yield n i h => exact ⟨i, h, rfl⟩
/-- a slice that is not nil -/
theorem VR.sliceInv {ρ : Ren} {n o len cap : Nat} {x : Value} (h : VR ρ (.slice (some ⟨n, o, none⟩) len cap) x) : ∃ i, ρ n = some i ∧
    ((isOpen cap = false ∧ x = .slice (some ⟨i.b, o + i.s, none⟩) len cap) ∨
     (isOpen cap = true ∧ ∃ cap', x = .slice (some ⟨i.b, o + i.s, none⟩) len cap' ∧ len ≤ cap' ∧ i.r ≤ o + cap' * i.k ∧ o + i.s + cap' * i.k ≤ i.z) ∨
     (isOpen cap = true ∧ len = 0 ∧ i.r ≤ o ∧ ∃ a, x = .slice (some a) 0 0) ∨
     (cap = 0 ∧ len = 0 ∧ ∃ a, x = .slice (some a) 0 0)) := by
  cases h with
  | flat k v h => cases k <;> simp [flatN] at h
  | slice n o len cap i h hc => exact ⟨i, h, .inl ⟨hc, rfl⟩⟩
  | sliceO n o len cap cap' i h hc hl hr hz => exact ⟨i, h, .inr (.inl ⟨hc, cap', rfl, hl, hr, hz⟩)⟩
  | sliceE n o cap a i h hc hr => exact ⟨i, h, .inr (.inr (.inl ⟨hc, rfl, hr, a, rfl⟩))⟩
  | sliceZ n o a i h => exact ⟨i, h, .inr (.inr (.inr ⟨rfl, rfl, a, rfl⟩))⟩
theorem VR.sliceAddr {ρ : Ren} {a : Addr} {len cap : Nat} {x : Value} (h : VR ρ (.slice (some a) len cap) x) : ∃ n o, a = ⟨n, o, none⟩ := by
  cases h with
  | flat k v h => cases k <;> simp [flatN] at h
  | slice n o len cap i h hc => exact ⟨n, o, rfl⟩
  | sliceO n o len cap cap' i h hc hl hr hz => exact ⟨n, o, rfl⟩
  | sliceE n o cap a i h hc hr => exact ⟨n, o, rfl⟩
  | sliceZ n o a i h => exact ⟨n, o, rfl⟩
theorem VR.sliceLen {ρ : Ren} {a : Option Addr} {len cap : Nat} {x : Value} (h : VR ρ (.slice a len cap) x) : ∃ a' cap', x = .slice a' len cap' := by
  cases a with
  | none => exact ⟨none, cap, h.of_flat 1 rfl⟩
  | some a =>
    obtain ⟨n, o, rfl⟩ := h.sliceAddr
    obtain ⟨i, _, h | h | h | h⟩ := h.sliceInv
    · exact ⟨_, _, h.2⟩
    · obtain ⟨_, c, e, _⟩ := h; exact ⟨_, _, e⟩
    · obtain ⟨_, rfl, _, a, e⟩ := h; exact ⟨_, _, e⟩
    · obtain ⟨_, rfl, a, e⟩ := h; exact ⟨_, _, e⟩
theorem VR.one {ρ : Ren} {v x : Value} (h : VR ρ v x) (ho : oneC v = true) : x.oneCell' = true := by
  cases h with
  | flat k v h => cases v <;> first | rfl | (simp [oneC] at ho)
  | agg => simp [oneC] at ho
  | tuple => simp [oneC] at ho
  | _ => rfl
theorem VRs.one {ρ : Ren} : ∀ {v x : List Value}, VRs ρ v x → v.all oneC = true → ∀ u ∈ x, u.oneCell' = true
  | _, _, .nil, _ => fun u hu => by simp at hu
  | _, _, .cons v v' l l' h hs, e => fun u hu => by
    simp at e
    rcases List.mem_cons.1 hu with rfl | hu
    · exact h.one e.1
    · exact hs.one (by simpa using e.2) u hu
theorem VR.cells {ρ : Ren} {v x : Value} (h : VR ρ v x) : VRs ρ v.cells.toList x.cells.toList := by
  by_cases ha : ∃ cs, v = .agg cs
  · obtain ⟨cs, rfl⟩ := ha
    obtain ⟨cs', rfl, r⟩ := h.aggInv
    simpa [Value.cells] using r
  · have hx : ¬ ∃ cs, x = .agg cs := by
      intro ⟨cs, e⟩
      cases h <;> first | exact ha ⟨_, e⟩ | cases e
      exact ha ⟨_, rfl⟩
    have e1 : v.cells = #[v] := by cases v <;> first | rfl | exact absurd ⟨_, rfl⟩ ha
    have e2 : x.cells = #[x] := by cases x <;> first | rfl | exact absurd ⟨_, rfl⟩ hx
    rw [e1, e2]
    exact .cons _ _ _ _ h .nil
end Go.Proofs.YthlkgmdkabelpaaGreatDoor.X
