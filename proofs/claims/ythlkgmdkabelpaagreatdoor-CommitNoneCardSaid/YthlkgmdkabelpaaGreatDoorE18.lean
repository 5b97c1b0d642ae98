/-
  Frames in part: an operation looks at its own operands alone; a frame without some temporaries; one operation on another frame. Over any program. No condition.
-/
import Derived.Test.YthlkgmdkabelpaaGreatDoorE17
namespace Go.Proofs.YthlkgmdkabelpaaGreatDoor.X
open Go Go.RowKit
set_option linter.unusedVariables false

def PT.room {α : Type} : PT α → Nat → Bool
  | .lf, _ => false
  | .nd l v r, n => bif Nat.beq n 0 then true else bif Nat.beq (n % 2) 1 then l.room (n / 2) else r.room (n / 2 - 1)
theorem PT.get_set_room {α : Type} : ∀ (t : PT α) (n : Nat) (x : Option α), (t.set n x).get n = if t.room n = true then x else none
  | .lf, n, x => by simp [PT.set, PT.get, PT.room]
  | .nd l v r, n, x => by
    unfold PT.set PT.room
    cases h0 : Nat.beq n 0 with
    | true => simp [PT.get, h0]
    | false =>
      cases h1 : Nat.beq (n % 2) 1 with
      | true =>
        simp only [cond_false, cond_true, PT.get, h0, h1]
        exact PT.get_set_room l _ x
      | false =>
        simp only [cond_false, PT.get, h0, h1]
        exact PT.get_set_room r _ x
theorem PT.room_set {α : Type} : ∀ (t : PT α) (n m : Nat) (x : Option α), (t.set m x).room n = t.room n
  | .lf, n, m, x => rfl
  | .nd l v r, n, m, x => by
    unfold PT.set
    cases h0 : Nat.beq m 0 with
    | true => rfl
    | false =>
      cases h1 : Nat.beq (m % 2) 1 with
      | true =>
        simp only [cond_false, cond_true, PT.room]
        rw [PT.room_set l]
      | false =>
        simp only [cond_false, PT.room]
        rw [PT.room_set r]

section
variable {P : Program} {W : XW} {fr fr' : XF}
theorem evs_congr : ∀ {l : List Operand}, (∀ x ∈ l, ev fr' x = ev fr x) → evs fr' l = evs fr l
  | [], _ => rfl
  | x :: l, h => by
    have e1 := h x (by simp)
    have e2 := evs_congr (l := l) fun y hy => h y (by simp [hy])
    simp only [evs, e1, e2]
theorem evP_congr : ∀ {l : List (Nat × Operand)}, (∀ x ∈ l.map (·.2), ev fr' x = ev fr x) → evP fr' l = evP fr l
  | [], _ => rfl
  | (i, x) :: l, h => by
    have e1 := h x (by simp)
    have e2 := evP_congr (l := l) fun y hy => h y (by simp only [List.map_cons, List.mem_cons]; exact .inr hy)
    simp only [evP, e1, e2]
theorem bound_congr {d : Nat} {x : Option Operand} (h : ∀ y ∈ x.toList, ev fr' y = ev fr y) : bound fr' d x = bound fr d x := by
  cases x with
  | none => rfl
  | some y => simp only [bound, h y (by simp)]
theorem slice_congr {v : Value} {lo hi mx : Option Operand} {d : Option TypeDesc} (h1 : ∀ y ∈ lo.toList, ev fr' y = ev fr y) (h2 : ∀ y ∈ hi.toList, ev fr' y = ev fr y) (h3 : ∀ y ∈ mx.toList, ev fr' y = ev fr y) :
    sliceX P fr' W v lo hi mx d = sliceX P fr W v lo hi mx d := by
  have b1 : ∀ n, bound fr' n lo = bound fr n lo := fun n => bound_congr h1
  have b2 : ∀ n, bound fr' n hi = bound fr n hi := fun n => bound_congr h2
  unfold sliceX
  cases mx with
  | none => simp only [b1, b2]
  | some m =>
    have b3 : ∀ n, bound fr' n (some m) = bound fr n (some m) := fun n => bound_congr h3
    simp only [b1, b2, b3]
theorem xop_congr {ty : TypeId} {op : Op} (h : ∀ x ∈ op.operands, ev fr' x = ev fr x) : xop P fr' W ty op = xop P fr W ty op := by
  cases op <;> simp only [Op.operands] at h <;> simp only [xop] <;> (try rw [h _ (by simp)]) <;> (try rw [h _ (by simp)]) <;> (try rw [h _ (by simp)])
  case pick c a b =>
    have e : ∀ t : Bool, ev fr' (bif t then a else b) = ev fr (bif t then a else b) := fun t => by cases t <;> exact h _ (by simp)
    unfold pickX
    simp only [e]
  case build t ps => rw [evP_congr fun x hx => h x (by simpa using hx)]
  case buildSlice t n ps =>
    unfold bslX
    rw [evP_congr fun x hx => h x (by simpa using hx)]
  case makeFunc f a c => rw [evs_congr (l := a.toList) fun x hx => h x (by simp at hx; simp [hx]), evs_congr (l := c.toList) fun x hx => h x (by simp at hx; simp [hx])]
  case makeMap t r =>
    have : reserveX fr' r = reserveX fr r := by
      cases r with
      | none => rfl
      | some x => simp only [reserveX, h x (by simp)]
    rw [this]
  case slice t x lo hi mx =>
    unfold slcX
    have e1 : ∀ y ∈ lo.toList, ev fr' y = ev fr y := fun y hy => h y (by simp at hy; simp [hy])
    have e2 : ∀ y ∈ hi.toList, ev fr' y = ev fr y := fun y hy => h y (by simp at hy; simp [hy])
    have e3 : ∀ y ∈ mx.toList, ev fr' y = ev fr y := fun y hy => h y (by simp at hy; simp [hy])
    split
    · exact slice_congr e1 e2 e3
    · rfl
  case call c =>
    obtain ⟨cl, args, ats⟩ := c
    have e : evs fr' args.toList = evs fr args.toList := evs_congr fun x hx => h x (by simp at hx; simp [Call.operands, hx])
    simp only [calX, e]
    cases cl with
    | value f => simp only; rw [h f (by simp [Call.operands])]
    | _ => rfl
  case «defer» c =>
    obtain ⟨cl, args, ats⟩ := c
    have e : evs fr' args.toList = evs fr args.toList := evs_congr fun x hx => h x (by simp at hx; simp [Call.operands, hx])
    simp only [defX, e]
    cases cl with
    | value f => simp only; rw [h f (by simp [Call.operands])]
    | _ => rfl
theorem onK_on {W : XW} {ds : List XDef} {o : Option XF} {s : XS} (h : onK W ds o = some (.on s)) : o = some s.fr ∧ W = s.W ∧ ds = s.ds := by
  unfold onK at h
  split at h <;> cases h
  exact ⟨rfl, rfl, rfl⟩
/-- the operation leaves a value: which, and what else, the frame does not tell -/
def Blind (k : XF → Option O1) (N : Nat) (d : Option Tmp) (s' : XS) (n : Nat) : Prop := ∃ v, putX N fr d v = some s'.fr ∧ (s'.ds.length = n ∨ s'.ds.length = n + 1) ∧ ∀ f f', putX N f d v = some f' → k f = some (.on ⟨f', s'.W, s'.ds⟩)
theorem onK_blind {N : Nat} {d : Option Tmp} {W : XW} {ds : List XDef} {n : Nat} (hn : ds.length = n ∨ ds.length = n + 1) {v : Option Value} {s' : XS} (h : onK W ds (putX N fr d v) = some (.on s')) : Blind (fr := fr) (fun f => onK W ds (putX N f d v)) N d s' n := by
  obtain ⟨h1, rfl, rfl⟩ := onK_on h
  exact ⟨v, h1, hn, fun f f' h => by simp only [h]; rfl⟩
theorem rdK_blind {R : XK} {N : Nat} {d : Option Tmp} {ds : List XDef} {lp : Nat} {args : List Value} {o : Option XObj} {s' : XS} (h : rdK R N fr d ds lp args W o = some (.on s')) :
    Blind (fr := fr) (fun f => rdK R N f d ds lp args W o) N d s' ds.length := by
  unfold rdK at h
  split at h
  · rename_i pend tm N' ps asg body df
    unfold rdK1 at h
    split at h
    · rename_i fr1 h1
      unfold rdK2 at h
      split at h
      · rename_i s1 hq1
        unfold rdK3 at h
        split at h
        · rename_i pend2 tm2 N2 ps2 asg2 body2 df2 hg2
          unfold rdK4 at h
          split at h
          · rename_i e s2 hq2
            unfold rdK5 at h
            split at h
            · rename_i st pd rr st3 pd3 tm3 N3 ps3 asg3 body3 df3 hj hg3
              obtain ⟨v, b1, b2, b3⟩ := onK_blind (.inl rfl) h
              refine ⟨v, b1, b2, fun f f' hf => ?_⟩
              have := b3 f f' hf
              simp only [rdK, h1, rdK1, hq1, rdK2, hg2, rdK3, hq2, rdK4, hg3, hj, rdK5]
              exact this
            · cases h
          · cases h
        · cases h
      · cases h
    · cases h
  · cases h
theorem opK_blind {R : XK} {N : Nat} {rd : Option Nat} {ds : List XDef} {d : Option Tmp} {x : Option XR} {s' : XS} (h : opK R N rd ⟨fr, W, ds⟩ d x = some (.on s')) :
    Blind (fr := fr) (fun f => opK R N rd ⟨f, W, ds⟩ d x) N d s' ds.length := by
  unfold opK at h
  split at h
  · exact onK_blind (.inl rfl) h
  · exact onK_blind (.inl rfl) h
  · exact onK_blind (.inl rfl) h
  · cases h
  · unfold dfK at h
    split at h
    · exact onK_blind (.inr rfl) h
    · cases h
  · rename_i f args
    unfold callK at h
    split at h
    · rename_i v W1 hq
      obtain ⟨u, b1, b2, b3⟩ := onK_blind (.inl rfl) h
      refine ⟨u, b1, b2, fun f f' hf => ?_⟩
      have := b3 f f' hf
      simp only [opK, callK, hq]
      exact this
    · cases h
    · cases h
  · exact rdK_blind h
  · cases h
/-- a frame without some temporaries -/
def drop : XF → List Tmp → XF
  | f, [] => f
  | f, t :: l => drop (f.set t none) l
theorem drop_get : ∀ (l : List Tmp) (f : XF) (t : Nat) (v : Value), (drop f l).get t = some v → t ∉ l ∧ f.get t = some v
  | [], f, t, v, h => ⟨by simp, h⟩
  | u :: l, f, t, v, h => by
    obtain ⟨h1, h2⟩ := drop_get l _ t v h
    rcases PT.set_some h2 with ⟨_, q⟩ | ⟨q1, q2⟩
    · cases q
    · exact ⟨by simp [q1, h1], q2⟩
theorem drop_keeps : ∀ (l : List Tmp) (f : XF) (t : Nat), t ∉ l → (drop f l).get t = f.get t
  | [], f, t, h => rfl
  | u :: l, f, t, h => by
    simp only [List.mem_cons, not_or] at h
    show (drop (f.set u none) l).get t = _
    rw [drop_keeps l _ t h.2, PT.get_set_ne _ _ _ _ h.1]
theorem drop_room : ∀ (l : List Tmp) (f : XF) (t : Nat), (drop f l).room t = f.room t
  | [], f, t => rfl
  | u :: l, f, t => by
    show (drop (f.set u none) l).room t = _
    rw [drop_room l, PT.room_set]
end
end Go.Proofs.YthlkgmdkabelpaaGreatDoor.X
