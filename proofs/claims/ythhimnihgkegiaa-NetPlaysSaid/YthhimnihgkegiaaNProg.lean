/-
  The contracts of the heap's methods (Len, Less, Swap, Push, Pop of parcels), at a slice of parcels that lies behind a pointer. Conditions: bounds on its length.
-/
import Derived.Test.YthhimnihgkegiaaNModel
import Derived.Test.YthhimnihgkegiaaProg
import Derived.Deep.QuietTactic
import Derived.BigQuiet
import Derived.BigRegion
import Derived.RegionTactic
import Derived.Deep.RegionWith
import Derived.Deep.AppendLies
import Derived.Deep.RegionHeld3
namespace Go.Proofs.Ythhimnihgkegiaa
open Go Go.RowKit
set_option linter.unusedVariables false

theorem Keeps.drewN {S : Nat → Prop} {a w : World} (h : Keeps S a w) (n : Nat) : Keeps S a (w.drewN n) := h.trans' (T := S) ⟨rfl, rfl, rfl, Nat.le_refl _, fun _ _ _ => rfl⟩ (fun _ _ h => h)
theorem Keeps.any' {w w' : World} (h : Keeps noBlock w w') (S : Nat → Prop) : Keeps S w w' := h.mono fun _ _ e => e.elim
theorem Keeps.frozen {S : Nat → Prop} {w w' : World} (h : Keeps S w w') {p : Addr} (hl : p.block < w.heap.size) (hs : ¬ S p.block) (hf : w.frozen? p = false) : w'.frozen? p = false := by
  rw [World.frozen?_of_block (h.block _ hl hs)]; exact hf

/-- a copy as cells -/
def pcv (p : Pc) : List Value := [.int .i64 p.fr, .int .i64 p.to_, .string (str p.tx), .int .i64 p.at_, .int .i64 (p.sn : Int)]
def pcs (l : List Pc) : List Value := l.flatMap pcv
def pcVal (p : Pc) : Value := .agg #[.int .i64 p.fr, .int .i64 p.to_, .string (str p.tx), .int .i64 p.at_, .int .i64 (p.sn : Int)]
theorem pcs_append (a b : List Pc) : pcs (a ++ b) = pcs a ++ pcs b := by simp [pcs]
theorem length_pcs (l : List Pc) : (pcs l).length = l.length * 5 := by
  induction l with
  | nil => rfl
  | cons p l ih => simp [pcs, pcv] at ih ⊢; omega
theorem pcs_get (l : List Pc) (k : Nat) (h : k < l.length) : (pcs l)[k * 5]? = some (.int .i64 l[k].fr) ∧ (pcs l)[k * 5 + 1]? = some (.int .i64 l[k].to_) ∧ (pcs l)[k * 5 + 2]? = some (.string (str l[k].tx)) ∧ (pcs l)[k * 5 + 3]? = some (.int .i64 l[k].at_) ∧ (pcs l)[k * 5 + 4]? = some (.int .i64 (l[k].sn : Int)) := by
  induction l generalizing k with
  | nil => simp at h
  | cons p l ih =>
    cases k with
    | zero => simp [pcs, pcv]
    | succ k =>
      have := ih k (by simpa using h)
      have e1 : (k + 1) * 5 = k * 5 + 5 := by omega
      rw [e1]
      simpa [pcs, pcv] using this
theorem pcs_set : ∀ (l : List Pc) (k : Nat) (p : Pc), (((((pcs l).set (k * 5) (.int .i64 p.fr)).set (k * 5 + 1) (.int .i64 p.to_)).set (k * 5 + 2) (.string (str p.tx))).set (k * 5 + 3) (.int .i64 p.at_)).set (k * 5 + 4) (.int .i64 (p.sn : Int)) = pcs (l.set k p)
  | [], k, p => by simp [pcs]
  | x :: l, 0, p => by simp [pcs, pcv]
  | x :: l, k + 1, p => by
    have := pcs_set l k p
    have e1 : (k + 1) * 5 = k * 5 + 5 := by omega
    rw [e1]
    simpa [pcs, pcv] using this
theorem pcs_take (l : List Pc) (k : Nat) : (pcs l).take (k * 5) = pcs (l.take k) := by
  induction l generalizing k with
  | nil => simp [pcs]
  | cons p l ih =>
    cases k with
    | zero => simp [pcs]
    | succ k =>
      have := ih k
      have e1 : (k + 1) * 5 = k * 5 + 5 := by omega
      rw [e1]
      simpa [pcs, pcv] using this

def PcAt (w : World) (g i : Nat) (p : Pc) : Prop :=
  w.cell? ⟨g, i * 5, none⟩ = some (.int .i64 p.fr) ∧ w.cell? ⟨g, i * 5 + 1, none⟩ = some (.int .i64 p.to_) ∧ w.cell? ⟨g, i * 5 + 2, none⟩ = some (.string (str p.tx)) ∧
  w.cell? ⟨g, i * 5 + 3, none⟩ = some (.int .i64 p.at_) ∧ w.cell? ⟨g, i * 5 + 4, none⟩ = some (.int .i64 (p.sn : Int))

theorem owns_pc {w : World} {g n cap : Nat} {H : List Pc} (h : w.ownsRow 0 67 5 (.slice (some ⟨g, 0, none⟩) n cap) H.length (pcs H)) (i : Nat) (hi : i < H.length) : PcAt w g i H[i] := by
  have hc := h.cells (g := g) rfl
  obtain ⟨x0, x1, x2, x3, x4⟩ := pcs_get H i hi
  have e : ∀ j, (⟨g, 0, none⟩ : Addr).add j = ⟨g, j, none⟩ := fun j => by rw [addr_add, Nat.zero_add]
  exact ⟨by have := hc _ _ x0; rwa [e] at this, by have := hc _ _ x1; rwa [e] at this, by have := hc _ _ x2; rwa [e] at this, by have := hc _ _ x3; rwa [e] at this, by have := hc _ _ x4; rwa [e] at this⟩
theorem owns_free {w : World} {g n cap N e size : Nat} {xs : List Value} (h : w.ownsRow 0 e size (.slice (some ⟨g, 0, none⟩) n cap) N xs) : ∀ k, w.frozen? ⟨g, k, none⟩ = false := by
  rcases h.2 with ⟨h0, _⟩ | ⟨g', cap', cur, h0, _, hh, _⟩
  · cases h0
  · simp only [Value.slice.injEq, Option.some.injEq, Addr.mk.injEq] at h0
    obtain ⟨⟨rfl, _⟩, _⟩ := h0
    exact fun k => frozen_of_heap hh k

/-- parcels behind a pointer -/
structure PL (w : World) (b o : Nat) (v : Value) (H : List Pc) : Prop where
  cell : w.cell? ⟨b, o, none⟩ = some v
  fr : w.frozen? ⟨b, o, none⟩ = false
  own : w.ownsRow 0 67 5 v H.length (pcs H)
  ne : v.ownBlock ≠ some b
theorem PL.keep {w w' : World} {b o : Nat} {v : Value} {H : List Pc} {S : Nat → Prop} (h : PL w b o v H) (hk : Keeps S w w') (hb : ¬ S b) (hv : ∀ k, v.ownBlock = some k → ¬ S k) : PL w' b o v H where
  cell := hk.cell h.cell hb
  fr := hk.frozen (World.block_lt_of_cell? w _ h.cell) hb h.fr
  own := hk.owns h.own hv
  ne := h.ne
theorem PL.still {w w' : World} {b o : Nat} {v : Value} {H : List Pc} (h : PL w b o v H) (hk : Keeps noBlock w w') : PL w' b o v H := h.keep hk (fun e => e) (fun _ _ e => e)

/-- block b is as it was, but for cell o -/
def HeadSet (w w' : World) (b o : Nat) (v : Value) : Prop := ∀ cs t, w.heap[b]? = some (.cells cs t (0, 0)) → w'.heap[b]? = some (.cells (cs.setIfInBounds o v) t (0, 0))
theorem HeadSet.behind {S : Nat → Prop} {w w1 w2 : World} {b o : Nat} {v : Value} (h : HeadSet w w1 b o v) (hk : Keeps S w1 w2) (hs : ¬ S b) : HeadSet w w2 b o v :=
  fun cs t hh => hk.heap (h cs t hh) hs
theorem HeadSet.ahead {S : Nat → Prop} {w w1 w2 : World} {b o : Nat} {v : Value} (hk : Keeps S w w1) (hs : ¬ S b) (h : HeadSet w1 w2 b o v) : HeadSet w w2 b o v :=
  fun cs t hh => h cs t (hk.heap hh hs)
theorem HeadSet.set (w : World) (b o : Nat) (v : Value) : HeadSet w (w.setCell ⟨b, o, none⟩ v) b o v := fun cs t hh => heap_set hh
theorem m_push (a : Addr) (w : World) : (method 196 75 (.pointer (some a)) "Push").run Try.prog w = .ok (47, .pointer (some a)) w := by kernel_rfl
theorem m_pop (a : Addr) (w : World) : (method 196 75 (.pointer (some a)) "Pop").run Try.prog w = .ok (46, .pointer (some a)) w := by kernel_rfl
theorem m_len (a : Addr) (w : World) (v : Value) (h : w.cell? a = some v) : (method 196 75 (.pointer (some a)) "Len").run Try.prog w = .ok (43, v) w := by
  have e : (method 196 75 (.pointer (some a)) "Len").run Try.prog w = (do let v ← loadVar 51 a; pure (43, v) : Sem (FuncId × Value)).run Try.prog w := by kernel_rfl
  rw [e]
  go_simp
theorem m_less (a : Addr) (w : World) (v : Value) (h : w.cell? a = some v) : (method 196 75 (.pointer (some a)) "Less").run Try.prog w = .ok (44, v) w := by
  have e : (method 196 75 (.pointer (some a)) "Less").run Try.prog w = (do let v ← loadVar 51 a; pure (44, v) : Sem (FuncId × Value)).run Try.prog w := by kernel_rfl
  rw [e]
  go_simp
theorem m_swap (a : Addr) (w : World) (v : Value) (h : w.cell? a = some v) : (method 196 75 (.pointer (some a)) "Swap").run Try.prog w = .ok (45, v) w := by
  have e : (method 196 75 (.pointer (some a)) "Swap").run Try.prog w = (do let v ← loadVar 51 a; pure (45, v) : Sem (FuncId × Value)).run Try.prog w := by kernel_rfl
  rw [e]
  go_simp
theorem assert_pc (v : Value) (w : World) : (Instr.typeAssert (.iface 67 v) 20 67 true).run Try.prog w = .ok (.tuple #[v, .bool true]) w := by kernel_rfl
theorem infoPc : (Try.prog.info? 67).map (fun i => (i.zero, i.size, i.bytes)) = some (some (.agg #[.int .i64 0, .int .i64 0, .string ByteArray.empty, .int .i64 0, .int .i64 0]), 5, 48) := by kernel_rfl

theorem len_any (o : Option Addr) (n cap : Nat) (w : World) :
    Calls Try.prog 43 #[.slice o n cap] w fun e w' => e = .returned (.int .i64 (n : Int)) ∧ w = w' := by
  go_enter Try.func43, Try.ntmps43
  go_wp2
  go_ret
  exact ⟨rfl, rfl⟩

theorem less_pc (g n cap i j : Nat) (p q : Pc) (w : World) (hn : n ≤ 1048576) (hp : PcAt w g i p) (hq : PcAt w g j q) (hi : i < n) (hj : j < n) :
    Calls Try.prog 44 #[.slice (some ⟨g, 0, none⟩) n cap, .int .i64 i, .int .i64 j] w fun e w' => e = .returned (.bool (ltB p q)) ∧ Keeps noBlock w w' := by
  obtain ⟨_, _, _, p3, p4⟩ := hp
  obtain ⟨_, _, _, q3, q4⟩ := hq
  have hi0 : (0 : Int) ≤ (i : Int) := by omega
  have hi1 : (i : Int) < (n : Int) := by omega
  have hj0 : (0 : Int) ≤ (j : Int) := by omega
  have hj1 : (j : Int) < (n : Int) := by omega
  obtain ⟨pa, hpa⟩ : ∃ a, a = p.at_ := ⟨_, rfl⟩
  obtain ⟨qa, hqa⟩ : ∃ a, a = q.at_ := ⟨_, rfl⟩
  obtain ⟨ps, hps⟩ : ∃ a, a = p.sn := ⟨_, rfl⟩
  obtain ⟨qs, hqs⟩ : ∃ a, a = q.sn := ⟨_, rfl⟩
  have hl : ltB p q = if pa = qa then decide (ps < qs) else decide (pa < qa) := by rw [hpa, hqa, hps, hqs]; rfl
  rw [← hpa] at p3; rw [← hqa] at q3; rw [← hps] at p4; rw [← hqs] at q4
  rw [hl]
  clear hl hpa hqa hps hqs
  by_cases hne : pa = qa
  · subst hne
    rw [if_pos rfl]
    have hd : ((pa : Int) != pa) = false := by simp
    go_enter Try.func44, Try.ntmps44
    go_wp2_with fail
    go_quiet (fail)
    go_wp2_with fail
    go_quiet (fail)
    go_wp2_with fail
    go_ret
    exact ⟨by simp, ((Keeps.refl noBlock w).drewN _).drewN _⟩
  · rw [if_neg hne]
    have hd : (pa != qa) = true := by simpa using hne
    go_enter Try.func44, Try.ntmps44
    go_wp2_with fail
    go_quiet (fail)
    go_wp2_with fail
    go_quiet (fail)
    go_wp2_with fail
    go_ret
    exact ⟨rfl, ((Keeps.refl noBlock w).drewN _).drewN _⟩
theorem less_any {w : World} {b o : Nat} {v : Value} {H : List Pc} (h : PL w b o v H) (i j : Nat) (hi : i < H.length) (hj : j < H.length) (hn : H.length ≤ 1048576) :
    Calls Try.prog 44 #[v, .int .i64 i, .int .i64 j] w fun e w' => e = .returned (.bool (ltB H[i] H[j])) ∧ Keeps noBlock w w' := by
  obtain ⟨g, cap, rfl, _⟩ := h.own.form (by omega)
  exact less_pc g H.length cap i j _ _ w hn (owns_pc h.own i hi) (owns_pc h.own j hj) hi hj

def put5 (w : World) (g i : Nat) (p : Pc) : World :=
  ((((w.setCell ⟨g, i * 5, none⟩ (.int .i64 p.fr)).setCell ⟨g, i * 5 + 1, none⟩ (.int .i64 p.to_)).setCell ⟨g, i * 5 + 2, none⟩ (.string (str p.tx))).setCell ⟨g, i * 5 + 3, none⟩ (.int .i64 p.at_)).setCell ⟨g, i * 5 + 4, none⟩ (.int .i64 (p.sn : Int))
theorem put5_own {w : World} {g n cap : Nat} {H : List Pc} (h : w.ownsRow 0 67 5 (.slice (some ⟨g, 0, none⟩) n cap) n (pcs H)) (i : Nat) (p : Pc) :
    (put5 w g i p).ownsRow 0 67 5 (.slice (some ⟨g, 0, none⟩) n cap) n (pcs (H.set i p)) := by
  rw [← pcs_set]
  have h0 := (h.stored (i * 5) (.int .i64 p.fr)).1
  have h1 := (h0.stored (i * 5 + 1) (.int .i64 p.to_)).1
  have h2 := (h1.stored (i * 5 + 2) (.string (str p.tx))).1
  have h3 := (h2.stored (i * 5 + 3) (.int .i64 p.at_)).1
  exact (h3.stored (i * 5 + 4) (.int .i64 (p.sn : Int))).1
theorem put5_keep (w : World) (g i : Nat) (p : Pc) : Keeps (fun k => k = g) w (put5 w g i p) := by
  have h0 := (Keeps.refl (fun k => k = g) w).setCell (p := ⟨g, i * 5, none⟩) (fun _ => rfl) (.int .i64 p.fr)
  have h1 := h0.setCell (p := ⟨g, i * 5 + 1, none⟩) (fun _ => rfl) (.int .i64 p.to_)
  have h2 := h1.setCell (p := ⟨g, i * 5 + 2, none⟩) (fun _ => rfl) (.string (str p.tx))
  have h3 := h2.setCell (p := ⟨g, i * 5 + 3, none⟩) (fun _ => rfl) (.int .i64 p.at_)
  exact h3.setCell (p := ⟨g, i * 5 + 4, none⟩) (fun _ => rfl) (.int .i64 (p.sn : Int))
theorem swap_pc (g n cap i j : Nat) (H : List Pc) (w : World) (hn : n ≤ 1048576) (hH : H.length = n) (hown : w.ownsRow 0 67 5 (.slice (some ⟨g, 0, none⟩) n cap) n (pcs H)) (hi : i < n) (hj : j < n) :
    Calls Try.prog 45 #[.slice (some ⟨g, 0, none⟩) n cap, .int .i64 i, .int .i64 j] w fun e w' => e = .returned (.tuple #[]) ∧
      w'.ownsRow 0 67 5 (.slice (some ⟨g, 0, none⟩) n cap) n (pcs (swapL H i j)) ∧ Keeps (fun k => k = g) w w' := by
  subst hH
  have hp := owns_pc hown i hi
  have hq := owns_pc hown j hj
  have hf := owns_free hown
  have hsw := swapL_eq H i j hi hj
  obtain ⟨p, hpe⟩ : ∃ p, p = H[i] := ⟨_, rfl⟩
  obtain ⟨q, hqe⟩ : ∃ p, p = H[j] := ⟨_, rfl⟩
  rw [← hpe] at hp hsw; rw [← hqe] at hq hsw
  have HSW := Lib.hid hsw
  have HO := Lib.hid hown
  clear hpe hqe hsw hown
  obtain ⟨p0, p1, p2, p3, p4⟩ := hp
  obtain ⟨q0, q1, q2, q3, q4⟩ := hq
  have hi0 : (0 : Int) ≤ (i : Int) := by omega
  have hi1 : (i : Int) < (H.length : Int) := by omega
  have hj0 : (0 : Int) ≤ (j : Int) := by omega
  have hj1 : (j : Int) < (H.length : Int) := by omega
  by_cases hij : i = j
  · subst hij
    have hsw : swapL H i i = (H.set i p).set i p := by rw [HSW.out]; simp [List.set_set]
    have HSW := Lib.hid hsw
    clear hj0 hj1 q0 q1 q2 q3 q4 hsw
    go_enter Try.func45, Try.ntmps45
    go_wp2_with fail
    go_region
    go_end0
    refine ⟨rfl, ?_, ?_⟩
    · rw [HSW.out]
      exact (put5_own (put5_own HO.out i p) i p).drew
    · exact ((put5_keep w g i p).trans (put5_keep _ g i p)).drew
  · go_enter Try.func45, Try.ntmps45
    go_wp2_with fail
    go_region
    go_end0
    refine ⟨rfl, ?_, ?_⟩
    · rw [HSW.out]
      exact (put5_own (put5_own HO.out i q) j p).drew
    · exact ((put5_keep w g i q).trans (put5_keep _ g j p)).drew
theorem swap_any {w : World} {b o : Nat} {v : Value} {H : List Pc} (h : PL w b o v H) (i j : Nat) (hi : i < H.length) (hj : j < H.length) (hn : H.length ≤ 1048576) :
    Calls Try.prog 45 #[v, .int .i64 i, .int .i64 j] w fun e w' => e = .returned (.tuple #[]) ∧ PL w' b o v (swapL H i j) ∧ Keeps (fun k => v.ownBlock = some k) w w' := by
  obtain ⟨g, cap, rfl, _⟩ := h.own.form (by omega)
  refine (swap_pc g H.length cap i j H w hn rfl h.own hi hj).mono fun e w' ⟨he, ho, hk⟩ => ⟨he, ?_, hk.mono fun k _ e => own_slice.2 e⟩
  have hbg : b ≠ g := fun e => h.ne (by rw [own_slice]; exact e)
  exact ⟨hk.cell h.cell hbg, hk.frozen (World.block_lt_of_cell? w _ h.cell) hbg h.fr, by rw [length_swapL]; exact ho, h.ne⟩

theorem push_any {w : World} {b o : Nat} {v : Value} {H : List Pc} (h : PL w b o v H) (p : Pc) (hn : H.length ≤ 1048576) :
    Calls Try.prog 47 #[.pointer (some ⟨b, o, none⟩), .iface 67 (pcVal p)] w fun e w' => e = .returned (.tuple #[]) ∧
      ∃ v', PL w' b o v' (H ++ [p]) ∧ Keeps (fun k => k = b ∨ v.ownBlock = some k) w w' ∧ (∀ k, v'.ownBlock = some k → v.ownBlock = some k ∨ w.heap.size ≤ k) ∧ HeadSet w w' b o v' := by
  unfold pcVal
  obtain ⟨i0, hi, hz0, hz1, hz2⟩ := info_parts infoPc
  have ha := assert_pc (.agg #[.int .i64 p.fr, .int .i64 p.to_, .string (str p.tx), .int .i64 p.at_, .int .i64 (p.sn : Int)])
  obtain ⟨o1, cap1, hvf, _⟩ := owns_form h.own
  have hbl : b < w.heap.size := World.block_lt_of_cell? w _ h.cell
  have hc := h.cell
  have hfr := h.fr
  have HO := Lib.hid h.own
  have HNE := Lib.hid (show some b ≠ v.ownBlock from fun e => h.ne e.symm)
  clear h
  subst hvf
  have HN := Lib.hid (show ∀ (X : Obj) (W : World), W = ((w.alloc X).alloc X).drew → (∀ a, a.block < w.heap.size → W.cell? a = w.cell? a) ∧ (∀ a, a.block < w.heap.size → W.frozen? a = w.frozen? a) ∧ Keeps noBlock w W ∧ W.heap[w.heap.size + 1]? = some X from fun X W e => by
    have k : Keeps noBlock w W := by rw [e]; exact (((Keeps.refl _ _).alloc _).alloc _).drew
    exact ⟨fun a h => World.cell?_of_block (k.block _ h (fun e => e)), fun a h => World.frozen?_of_block (k.block _ h (fun e => e)), k, by rw [e]; show ((w.alloc X).alloc X).heap[w.heap.size + 1]? = some X; have := heap_alloc_new (w.alloc X) X; simpa using this⟩)
  go_enter Try.func47, Try.ntmps47
  go_wp2_with fail
  go_region_law
    ((refine step_append_lies _ (by rfl) _ _ _ (by rfl) 0 67 i0 _ 5 48 Try.underlying51 hi hz0 hz1 hz2 rfl (by omega) (.slice o1 H.length cap1) H.length (pcs H) (by rfl) (((HO.out.alloc _).alloc _).drew)
        ⟨w.heap.size + 1, 0, none⟩ 1 1 (pcv p) (by rfl) (by rfl) (World.news_of_block (cs := #[.int .i64 p.fr, .int .i64 p.to_, .string (str p.tx), .int .i64 p.at_, .int .i64 (p.sn : Int)]) (t := 67) (fr := (0, 0)) (HN.out _ _ rfl).2.2.2) (by simp [pcv, Value.oneCell'])
        (by omega) (by unfold maxLen; omega) (by omega) (by simp) (w.heap.size + 2) (by simp) ?_; intro g cap4 w4 hown4 hgrow hat hlt; have y4 : w4.frozen? ⟨b, o, none⟩ = false := (hgrow.frozen_far _ (by simp; omega) HNE.out).trans (((HN.out _ _ rfl).2.1 _ hbl).trans hfr); have x4 : w4.cell? ⟨b, o, none⟩ = some (.slice o1 H.length cap1) := (hgrow.cell_far _ (by simp; omega) HNE.out).trans (((HN.out _ _ rfl).1 _ hbl).trans hc)))
  all_goals
    go_end0
    refine ⟨rfl, .slice (some ⟨g, 0, none⟩) (H.length + 1) cap4, ?_, ?_, ?_, ?_⟩
    · have hgb : b ≠ g := fun e => by
        rcases hat with h | h
        · exact HNE.out (by rw [h, e])
        · omega
      refine ⟨?_, ?_, ?_, ?_⟩
      · exact World.cell?_setCell_same' _ _ _ (by rw [x4]; rfl)
      · rw [World.frozen?_setCell]; exact y4
      · rw [List.length_append, pcs_append]
        refine owns_of_block (w := w4) (by simpa [pcs] using hown4) fun k e => ?_
        rw [own_slice] at e
        subst e
        exact Below.heap_setCell _ _ _ _ (fun e => hgb e.symm)
      · rw [Ne, own_slice]; exact hgb
    · exact (((HN.out _ _ rfl).2.2.1.any' (fun k => k = b ∨ (Value.slice o1 H.length cap1).ownBlock = some k)).grown hgrow (fun k e _ => .inr e)).setCell (fun _ => .inl rfl) _
    · intro k e
      rw [own_slice] at e
      subst e
      rcases hat with h | h
      · exact .inl h
      · exact .inr (by omega)
    · have kk : Keeps (fun k => (Value.slice o1 H.length cap1).ownBlock = some k) w w4 := ((HN.out _ _ rfl).2.2.1.any' _).grown hgrow (fun k e _ => e)
      exact HeadSet.ahead kk (fun e => HNE.out e.symm) (HeadSet.set _ _ _ _)
end Go.Proofs.Ythhimnihgkegiaa
