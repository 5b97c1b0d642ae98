/-
  The contract of Next of the program's net. Conditions: bounds on lengths.
-/
import Derived.Test.YthhimnihgkegiaaNSend
namespace Go.Proofs.Ythhimnihgkegiaa
open Go Go.RowKit
set_option linter.unusedVariables false

theorem NetAt.pop {w w' : World} {b : Nat} {F : Nat → Prop} {s : NS} {sv wv : Value} {H : List Pc} (h : NetAt w b F s sv wv H) (x : Pc) (l : List Pc) (hw : s.w = x :: l) (wv' : Value) (H' : List Pc) (hperm : (x :: H').Perm H) (hheap : HeapTo H'.length H')
    (hpl : PL w' b 2 wv' H') (hk : Keeps (fun k => k = b ∨ wv.ownBlock = some k) w w') (hnew : wv'.ownBlock = wv.ownBlock) (hhead : HeadSet w w' b 2 wv') : NetAt w' b (grow F w w') s.next sv wv' H' where
  head := hhead _ _ h.head
  fb := .inl h.fb
  scr := hk.owns h.scr fun k e e2 => by
    rcases e2 with e2 | e2
    · exact owns_ne_block h.scr h.head (by decide) (e2 ▸ e)
    · exact owns_ne h.scr h.own (by decide) e e2
  fscr := fun k e => .inl (h.fscr k e)
  own := hpl.own
  fown := fun k e => .inl (h.fown k (hnew ▸ e))
  perm := by
    have h1 := hperm.trans h.perm
    rw [hw] at h1
    show H'.Perm s.w.tail
    rw [hw]; exact h1.cons_inv
  heap := hheap
  ok := h.ok.next
  lt := grow_lt h.lt hk.size
theorem NetAt.first {w : World} {b : Nat} {F : Nat → Prop} {s : NS} {sv wv : Value} {H : List Pc} (h : NetAt w b F s sv wv H) (x : Pc) (l : List Pc) (hw : s.w = x :: l) (h0 : 0 < H.length) : H[0]'h0 = x := by
  have hp := h.perm
  rw [hw] at hp
  refine Srt.head (by have := h.ok.srt; rw [hw] at this; exact this) hp _ (List.getElem_mem h0) fun z hz => ?_
  obtain ⟨i, hi, rfl⟩ := List.getElem_of_mem hz
  exact h.heap.least (Nat.le_refl _) i hi _ _ (List.getElem?_eq_getElem hi) (List.getElem?_eq_getElem h0)

def nextVal : List Pc → Value
  | [] => .tuple #[.agg #[.int .i64 0, .int .i64 0, .string ByteArray.empty], .int .i64 0, .bool false]
  | p :: _ => .tuple #[.agg #[.int .i64 p.fr, .int .i64 p.to_, .string (str p.tx)], .int .i64 p.at_, .bool true]
def NextPost (b : Nat) (F : Nat → Prop) (s : NS) (w : World) (e : Ending) (w' : World) : Prop :=
  e = .returned (nextVal s.w) ∧ NetP w' b (grow F w w') s.next ∧ Keeps F w w'

theorem next_nil (w : World) : Calls Try.prog 16 #[.pointer none] w fun e w' => e = .returned (nextVal []) ∧ Keeps noBlock w w' := by
  unfold nextVal
  go_enter Try.func16, Try.ntmps16
  go_wp2_with fail
  exact bodyPost_ret (v := .tuple #[.agg #[.int .i64 0, .int .i64 0, .string ByteArray.empty], .int .i64 0, .bool false]) (by simp [results, Try.results16, go_sem]; rfl) rfl ⟨rfl, (Keeps.refl _ _).alloc _⟩

theorem next_none (w : World) (b : Nat) (F : Nat → Prop) (s : NS) (h : NetP w b F s) (h0 : s.w = []) :
    Calls Try.prog 16 #[.pointer (some ⟨b, 0, none⟩)] w (NextPost b F s w) := by
  have HP := Lib.hid h
  have hv : nextVal s.w = .tuple #[.agg #[.int .i64 0, .int .i64 0, .string ByteArray.empty], .int .i64 0, .bool false] := by rw [h0]; rfl
  have hnx : s.next = s := by cases s; simp only at h0; subst h0; rfl
  obtain ⟨sv, wv, H, hat⟩ := h
  have hH : H = [] := by have := hat.perm.length_eq; rw [h0] at this; exact List.eq_nil_of_length_eq_zero this
  subst hH
  obtain ⟨o1, cap1, hvf, _⟩ := owns_form hat.own
  subst hvf
  have hbl := lt_of_heap hat.head
  have hm := fun X => m_len ⟨b, 2, none⟩ (w.alloc X) (.slice o1 0 cap1) (by rw [World.cell?_alloc_old _ _ _ (Nat.ne_of_lt hbl)]; exact hat.cells.2.2.1)
  have HV := Lib.hid hv
  have HNX := Lib.hid hnx
  clear hat hv hnx h0
  go_enter Try.func16, Try.ntmps16
  go_wp2_with fail
  refine (queue_any b _).mono ?_
  rintro e w' ⟨rfl, rfl⟩
  go_wp2_with fail
  refine (len_any _ _ _ _).mono ?_
  rintro e w' ⟨rfl, rfl⟩
  go_wp2_with fail
  refine bodyPost_ret (v := .tuple #[.agg #[.int .i64 0, .int .i64 0, .string ByteArray.empty], .int .i64 0, .bool false]) (by simp [results, Try.results16, go_sem]; rfl) rfl ⟨by rw [HV.out], ?_, (Keeps.refl _ _).alloc _⟩
  rw [HNX.out]
  have h1 := HP.out.still ((Keeps.refl _ w).alloc (.cells #[.int .i64 0, .int .i64 0, .string ByteArray.empty] 31))
  exact h1.widen (fun k e => .inl e) (grow_lt HP.out.lt (by simp))

set_option maxHeartbeats 1000000 in
theorem next_some (w : World) (b : Nat) (F : Nat → Prop) (s : NS) (h : NetP w b F s) (x : Pc) (l : List Pc) (hx : s.w = x :: l) (hlen : s.w.length ≤ 900000) :
    Calls Try.prog 16 #[.pointer (some ⟨b, 0, none⟩)] w (NextPost b F s w) := by
  have HP := Lib.hid h
  have hv : nextVal s.w = .tuple #[.agg #[.int .i64 x.fr, .int .i64 x.to_, .string (str x.tx)], .int .i64 x.at_, .bool true] := by rw [hx]; rfl
  obtain ⟨sv, wv, H, hat⟩ := h
  have hll : H.length = l.length + 1 := by have := hat.perm.length_eq; rw [hx] at this; simpa using this
  have h0 : 0 < H.length := by omega
  have hfirst := hat.first x l hx h0
  have hHl : H.length ≤ 1000000 := by rw [hat.perm.length_eq]; omega
  obtain ⟨o1, cap1, hvf, _⟩ := owns_form hat.own
  subst hvf
  have hbl := lt_of_heap hat.head
  obtain ⟨N, hN⟩ : ∃ N, N = H.length := ⟨_, rfl⟩
  have hm := fun X => m_len ⟨b, 2, none⟩ (w.alloc X) (.slice o1 N cap1) (by rw [World.cell?_alloc_old _ _ _ (Nat.ne_of_lt hbl), hN]; exact hat.cells.2.2.1)
  have hne : ((N : Int) == 0) = false := by simp; omega
  have ha := assert_pc (.agg #[.int .i64 x.fr, .int .i64 x.to_, .string (str x.tx), .int .i64 x.at_, .int .i64 (x.sn : Int)])
  have HAT := Lib.hid hat
  have HV := Lib.hid hv
  have HX := Lib.hid hx
  have HFI := Lib.hid hfirst
  clear hat hv hx hfirst hll hN
  go_enter Try.func16, Try.ntmps16
  go_wp2_with fail
  refine (queue_any b _).mono ?_
  rintro e w' ⟨rfl, rfl⟩
  go_wp2_with fail
  refine (len_any _ _ _ _).mono ?_
  rintro e w' ⟨rfl, rfl⟩
  go_wp2_with fail
  refine (queue_any b _).mono ?_
  rintro e w' ⟨rfl, rfl⟩
  clear hm
  obtain ⟨w1, hw1⟩ : ∃ w1 : World, w1 = w.alloc (.cells #[.int .i64 0, .int .i64 0, .string ⟨#[]⟩] 31) := ⟨_, rfl⟩
  have k1 : Keeps noBlock w w1 := by rw [hw1]; exact (Keeps.refl _ _).alloc _
  have hb1 : w1.heap[w.heap.size]? = some (.cells #[.int .i64 0, .int .i64 0, .string ⟨#[]⟩] 31 (0, 0)) := by rw [hw1]; exact heap_alloc_at
  have z1 : w1.heap.size = w.heap.size + 1 := by rw [hw1]; simp
  have hat1 := HAT.out.keep k1 (fun _ _ e => e)
  have HAT1 := Lib.hid hat1
  have K1 := Lib.hid k1
  rw [← hw1]
  clear hw1 hat1 k1
  go_wp2_with fail
  refine (hpop_any HAT1.out.pl HAT1.out.heap h0 hHl).mono ?_
  rintro e w2 ⟨rfl, wv', H', hperm, hheap, hpl, k2, hnew, hset⟩
  rw [HFI.out]
  rw [HFI.out] at hperm
  unfold pcVal
  have hat2 := HAT1.out.pop x l HX.out wv' H' hperm hheap hpl k2 hnew hset
  have hnb : ¬ (w.heap.size = b ∨ (Value.slice o1 H.length cap1).ownBlock = some w.heap.size) := fun e => by
    rcases e with e | e
    · omega
    · have := HAT.out.lt _ (HAT.out.fown _ e); omega
  have hb2 := k2.heap hb1 hnb
  have q0 : w2.cell? ⟨w.heap.size, 0, none⟩ = some (.int .i64 0) := by rw [cell_of_heap hb2]; rfl
  have q1 : w2.cell? ⟨w.heap.size, 1, none⟩ = some (.int .i64 0) := by rw [cell_of_heap hb2]; rfl
  have q2 : w2.cell? ⟨w.heap.size, 2, none⟩ = some (.string ⟨#[]⟩) := by rw [cell_of_heap hb2]; rfl
  have qf := frozen_of_heap hb2
  have hsz : w.heap.size < w2.heap.size := by have := k2.size; omega
  have HAT2 := Lib.hid hat2
  have K2 := Lib.hid (HAT1.out.pushF k2)
  have Z1 := Lib.hid z1
  have HBL := Lib.hid (lt_of_heap hb2)
  clear hat2 hperm hheap hpl k2 hnew hset hb2 hb1 z1 hnb
  go_wp2_with fail
  go_region
  all_goals
    go_wp2_with fail
    refine bodyPost_ret (v := .tuple #[.agg #[.int .i64 x.fr, .int .i64 x.to_, .string (str x.tx)], .int .i64 x.at_, .bool true]) (by simp [results, Try.results16, go_sem, q0, q1, q2, hsz]) rfl ⟨by rw [HV.out], ?_, ?_⟩
    · have k9 : Keeps (fun k => k = w.heap.size) w2 _ := (((((Keeps.refl (fun k => k = w.heap.size) w2).setCell (p := ⟨w.heap.size, 0, none⟩) (fun _ => rfl) (.int .i64 x.fr)).setCell (p := ⟨w.heap.size, 1, none⟩) (fun _ => rfl) (.int .i64 x.to_)).setCell (p := ⟨w.heap.size, 2, none⟩) (fun _ => rfl) (.string (str x.tx))).alloc (.cells #[.int .i64 x.fr, .int .i64 x.to_, .string (str x.tx), .int .i64 x.at_, .int .i64 (x.sn : Int)] 67)).drew
      have hd := HAT2.out.keep k9 (fun k e e2 => by
        have e3 : k = w.heap.size := e2
        rcases e with e | e
        · have := HAT.out.lt k e; omega
        · have := e.1; have := Z1.out; omega)
      refine NetP.widen ⟨_, _, _, hd⟩ (fun k e => ?_) (grow_lt HAT.out.lt (Nat.le_trans (Nat.le_trans K1.out.size K2.out.size) k9.size))
      rcases e with e | e
      · exact .inl e
      · have := Z1.out; exact .inr ⟨by have := e.1; omega, Nat.lt_of_lt_of_le e.2 k9.size⟩
    · have kk := ((K1.out.any' F).trans K2.out)
      exact ((((kk.setCell (p := ⟨w.heap.size, 0, none⟩) (fun h => absurd h (Nat.lt_irrefl _)) _).setCell (p := ⟨w.heap.size, 1, none⟩) (fun h => absurd h (Nat.lt_irrefl _)) _).setCell (p := ⟨w.heap.size, 2, none⟩) (fun h => absurd h (Nat.lt_irrefl _)) _).alloc _).drew

/-- Next, whatever waits -/
theorem next_any (w : World) (b : Nat) (F : Nat → Prop) (s : NS) (h : NetP w b F s) (hlen : s.w.length ≤ 900000) :
    Calls Try.prog 16 #[.pointer (some ⟨b, 0, none⟩)] w (NextPost b F s w) := by
  cases hx : s.w with
  | nil => exact next_none w b F s h hx
  | cons x l => exact next_some w b F s h x l hx hlen
end Go.Proofs.Ythhimnihgkegiaa
