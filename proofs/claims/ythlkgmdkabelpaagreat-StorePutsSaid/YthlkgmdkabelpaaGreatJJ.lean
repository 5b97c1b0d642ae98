/-
  The laws' arguments, opened: slices that come in, strings, hashes; the law StorePuts in any world. Condition: what is read is of the size that the claim's form allows.
  No condition.
-/
import Derived.Test.YthlkgmdkabelpaaGreatJI
import Derived.ProofKit
import Derived.OpenShut
import Derived.Deep.Slices
import Derived.Deep.Fields
import Derived.SliceStrings
import Derived.SizedLaws
set_option linter.all false
set_option linter.unusedVariables false
set_option linter.unusedSimpArgs false
namespace Go.Proofs.YthlkgmdkabelpaaGreat.X
open Go Go.RowKit Go.ChangeShapes Go.WideShapes Go.ChangeAt
set_option linter.constructorNameAsVariable false
set_option maxRecDepth 100000
theorem choose_of {α : Type} {p : Nat → α → Prop} : ∀ (n : Nat), (∀ i, i < n → ∃ a, p i a) → ∃ l : List α, l.length = n ∧ ∀ i (h : i < l.length), p i l[i]
  | 0, _ => ⟨[], rfl, fun i h => absurd h (Nat.not_lt_zero i)⟩
  | n + 1, h => by
    obtain ⟨l, hl, hp⟩ := choose_of n (fun i hi => h i (by omega))
    obtain ⟨a, ha⟩ := h n (by omega)
    refine ⟨l ++ [a], by simp [hl], fun i hi => ?_⟩
    by_cases hin : i < l.length
    · rw [List.getElem_append_left hin]; exact hp i hin
    · have : i = l.length := by simp at hi; omega
      subst this
      rw [List.getElem_append_right (Nat.le_refl _)]
      simp only [Nat.sub_self, List.getElem_cons_zero]
      rw [hl]; exact ha
theorem byte_of {n : Int} (h : (Lit.int .u8 n).wf = true) : ∃ b : UInt8, n = (b.toNat : Int) := by
  have h : 0 ≤ n ∧ n ≤ 255 := by simpa [Lit.wf, IntKind.min, IntKind.max, IntKind.signed, IntKind.bits] using h
  exact ⟨UInt8.ofNat n.toNat, by rw [UInt8.toNat_ofNat']; omega⟩
theorem cellsOf_u8 : Tryz.prog.cellsOf 5 = 1 := by kernel_rfl
theorem cellsOf_hash : Tryz.prog.cellsOf 24 = 32 := by kernel_rfl
theorem cellsOf_str : Tryz.prog.cellsOf 9 = 1 := by kernel_rfl
def SlAt (w : World) (v : Value) (cs : List Value) (n : Nat) : Prop :=
  (v = .slice none 0 0 ∧ n = 0 ∧ cs = []) ∨ ∃ a cap, v = .slice (some a) n cap ∧ n ≤ cap ∧ n < 9223372036854775808 ∧ (n = 0 → cs = []) ∧ (0 < n → a.spot = none ∧ ∃ c' e fr, w.heap[a.block]? = some (.cells c' e fr) ∧ (c'.toList.drop a.off).take cs.length = cs)
theorem open_sl {α H : Type} {S E size : Nat} {cells : α → List Value} {fits : α → Prop} (hS : Tryz.prog.underlying S = some (.slice E)) (hE : Tryz.prog.cellsOf E = size) (hpos : 0 < size) (hlen : ∀ a, (cells a).length = size)
    {enc : TypeId × Value → H} {w : World} (hel : ∀ (base : Nat) (spare : Nat → Bool) (held : Bool) n cs x, DataW.trod enc Tryz.prog w base spare held n E cs = some x → ∃ a, cs = cells a ∧ fits a)
    {v : Value} {fuel : Nat} {base : Nat} {x : DataW H × List MemPlace} (hf : DataW.trod enc Tryz.prog w base (fun _ => true) true fuel S [v] = some x) : ∃ l : List α, SlAt w v (l.flatMap cells) l.length ∧ ∀ a ∈ l, fits a := by
  rcases Go.Deep.open_slice hS hf with ⟨hcs, _⟩ | ⟨a, len, cap, m, k, D, Pl, hcs, _, hl, hm, hmm, _, hx⟩
  · obtain ⟨rfl⟩ : v = .slice none 0 0 := by simpa using hcs
    exact ⟨[], .inl ⟨rfl, rfl, rfl⟩, fun _ h => by simp at h⟩
  · obtain ⟨rfl⟩ : v = .slice (some a) len cap := by simpa using hcs
    simp only [if_true] at hmm
    rw [hE] at hx
    have hone : ∀ i, i < len → ∃ x : α, fits x ∧ ∀ j v, (cells x)[j]? = some v → w.cell? ((a.add (i * size)).add j) = some v := by
      intro i hi
      obtain ⟨cs', hc, ht⟩ := hx i (by omega)
      obtain ⟨x, rfl, hfit⟩ := hel _ _ _ _ _ _ ht
      refine ⟨x, hfit, fun j v hv => ?_⟩
      obtain ⟨_, _, hat⟩ := World.cells?_some hc
      have hj : j < size := by rw [← hlen x]; exact (List.getElem?_eq_some_iff.1 hv).1
      rw [hat j hj]; exact hv
    obtain ⟨l, hll, hp⟩ := choose_of len hone
    subst hll
    have hsz : ∀ l : List α, (l.flatMap cells).length = l.length * size := fun l => by
      induction l with
      | nil => simp
      | cons b l ih => rw [List.flatMap_cons, List.length_append, ih, hlen, List.length_cons, Nat.succ_mul, Nat.add_comm]
    refine ⟨l, .inr ⟨a, cap, rfl, hl, by simp only [maxLen] at hm; omega, fun h0 => by rw [List.length_eq_zero_iff.1 h0]; rfl, fun h0 => ?_⟩, fun x hxl => ?_⟩
    · have h1 := (hp 0 h0).2 0 ((cells l[0])[0]'(by rw [hlen]; exact hpos)) (List.getElem?_eq_getElem _)
      have hsp : a.spot = none := by
        cases hs : a.spot with
        | none => rfl
        | some z => simp [World.cell?, Addr.add, hs] at h1; split at h1 <;> simp at h1
      refine ⟨hsp, ?_⟩
      obtain ⟨b, off, sp⟩ := a
      simp only at hsp
      subst hsp
      have e : ∀ i j, (((⟨b, off, none⟩ : Addr).add (i * size)).add j) = ⟨b, off + i * size + j, none⟩ := fun i j => by rw [addr_add, addr_add]
      have hblk : ∃ c' e fr, w.heap[b]? = some (.cells c' e fr) := by
        rw [e] at h1
        unfold World.cell? at h1
        simp only at h1
        split at h1
        · rename_i c e fr hq; exact ⟨c, e, fr, hq⟩
        · cases h1
      obtain ⟨c', et, fr, hb⟩ := hblk
      refine ⟨c', et, fr, hb, ?_⟩
      have hat : ∀ i (h : i < l.length) j v, (cells l[i])[j]? = some v → c'.toList[off + i * size + j]? = some v := fun i h j v hv => by
        have := (hp i h).2 j v hv
        rw [e] at this
        unfold World.cell? at this
        simp only at this
        rw [hb] at this
        simpa using this
      have key : ∀ (m : List α) (k : Nat), (∀ i (h : i < m.length) j v, (cells m[i])[j]? = some v → c'.toList[k + i * size + j]? = some v) → (c'.toList.drop k).take (m.flatMap cells).length = m.flatMap cells := by
        intro m
        induction m with
        | nil => intro k _; simp
        | cons b m ih =>
          intro k hk
          have i1 := ih (k + size) (fun i h j v hv => by
            have := hk (i + 1) (by rw [List.length_cons]; omega) j v (by simpa using hv)
            rw [Nat.succ_mul] at this
            rw [← this]
            congr 1
            omega)
          have i2 : (c'.toList.drop k).take size = cells b := by
            refine List.ext_getElem? fun j => ?_
            by_cases hj : j < size
            · rw [List.getElem?_take_of_lt hj, List.getElem?_drop]
              have hj' : j < (cells b).length := by rw [hlen]; exact hj
              have := hk 0 (by rw [List.length_cons]; omega) j _ (List.getElem?_eq_getElem hj')
              rw [List.getElem?_eq_getElem hj']
              rw [← this]
              congr 1
              omega
            · rw [List.getElem?_eq_none (by rw [List.length_take]; omega), List.getElem?_eq_none (by rw [hlen]; omega)]
          rw [List.flatMap_cons, List.length_append, hlen, List.take_add, i2, List.drop_drop, i1]
      exact key l off hat
    · obtain ⟨i, hi, rfl⟩ := List.getElem_of_mem hxl
      exact (hp i hi).1
def u8C (b : UInt8) : List Value := [.int .u8 ((b.toNat : Nat) : Int)]
theorem weights_strs {H : Type} {P : Program} {e : TypeId} : ∀ {l : List ByteArray} {s : ByteArray}, s ∈ l → s.data.toList.length ∈ DataW.weightsAll P e (strs (H := H) l)
  | [], _, h => by cases h
  | a :: l, s, h => by
    show s.data.toList.length ∈ [a.data.toList.length] ++ DataW.weightsAll P e (strs l)
    rcases List.mem_cons.1 h with rfl | h
    · simp
    · exact List.mem_append_right _ (weights_strs h)
theorem open_strsl {H : Type} {enc : TypeId × Value → H} {w : World} {v : Value} {fuel : Nat} {base : Nat} {d : DataW H} {ps : List MemPlace} (hf : DataW.trod enc Tryz.prog w base (fun _ => true) true fuel 22 [v] = some (d, ps)) :
    ∃ os : List (List UInt8), SlAt w v (rowStr os) os.length ∧ ∀ o ∈ os, o.length ∈ d.weights Tryz.prog 22 := by
  rcases open_strings Tryz.underlying22 Tryz.underlying9 cellsOf_str hf with ⟨hcs, hx⟩ | ⟨a, len, cap, ss, hcs, _, hl, hm, hz, hx, hcell, hsz⟩
  · obtain ⟨rfl⟩ : v = .slice none 0 0 := by simpa using hcs
    exact ⟨[], .inl ⟨rfl, rfl, rfl⟩, fun _ h => by simp at h⟩
  · obtain ⟨rfl⟩ : v = .slice (some a) len cap := by simpa using hcs
    simp only [if_true] at hz
    cases hx
    have hos : ((ss.take len).map fun s => s.data.toList).length = len := by rw [List.length_map, List.length_take]; omega
    have hrow : rowStr ((ss.take len).map fun s => s.data.toList) = (ss.take len).map fun s => Value.string s := by
      unfold rowStr
      rw [List.flatMap_map]
      generalize ss.take len = m
      induction m with
      | nil => rfl
      | cons s m ih => rw [List.flatMap_cons, List.map_cons, ih]; rfl
    refine ⟨(ss.take len).map fun s => s.data.toList, .inr ⟨a, cap, by rw [hos], by rw [hos]; exact hl, by rw [hos]; simp only [maxLen] at hm; omega, fun h0 => ?_, fun h0 => ?_⟩, fun o ho => ?_⟩
    · rw [hos] at h0
      rw [hrow, h0]; rfl
    · rw [hos] at h0
      have h1 := hcell 0 (by omega)
      have hsp : a.spot = none := by
        cases hs : a.spot with
        | none => rfl
        | some z => simp [World.cell?, Addr.add, hs] at h1; split at h1 <;> simp at h1
      refine ⟨hsp, ?_⟩
      obtain ⟨b, off, sp⟩ := a
      simp only at hsp
      subst hsp
      have e : ∀ i, ((⟨b, off, none⟩ : Addr).add i) = ⟨b, off + i, none⟩ := fun i => by simp [Addr.add]
      have hblk : ∃ c' e fr, w.heap[b]? = some (.cells c' e fr) := by
        rw [e] at h1
        unfold World.cell? at h1
        simp only at h1
        split at h1
        · rename_i c e fr hq; exact ⟨c, e, fr, hq⟩
        · cases h1
      obtain ⟨c', et, fr, hb⟩ := hblk
      refine ⟨c', et, fr, hb, ?_⟩
      have hlt : (rowStr ((ss.take len).map fun s => s.data.toList)).length = len := by rw [hrow, List.length_map, List.length_take]; omega
      rw [hlt, hrow]
      refine List.ext_getElem? fun i => ?_
      rw [List.getElem?_take, List.getElem?_map, List.getElem?_take]
      by_cases hi : i < len
      · rw [if_pos hi, if_pos hi, List.getElem?_drop]
        have := hcell i (by omega)
        rw [e] at this
        unfold World.cell? at this
        simp only at this
        rw [hb] at this
        have hss : ss[i]? = some (ss.getD i ByteArray.empty) := by
          rw [List.getElem?_eq_getElem (by omega), List.getD_eq_getElem?_getD, List.getElem?_eq_getElem (by omega)]; rfl
        rw [hss]
        simpa using this
      · rw [if_neg hi, if_neg hi]; rfl
    · obtain ⟨s, hs, rfl⟩ := List.mem_map.1 ho
      unfold DataW.weights
      rw [Tryz.underlying22]
      exact List.mem_cons_of_mem _ (List.mem_append_left _ (weights_strs hs))
theorem open_hashB {H : Type} {enc : TypeId × Value → H} {w : World} {base : Nat} {spare : Nat → Bool} {held : Bool} {r : Reach} {b0 : Nat} {v : Value} {d : DataW H} {ps : List MemPlace}
    (hv : Value.okWide Tryz.prog w r b0 24 v) (h : DataW.Trod enc Tryz.prog w base spare held 24 v d ps) :
    ∃ k : HB, v = hbV k := by
  obtain ⟨fuel, hf⟩ := h
  obtain ⟨xs, m, _, _, hlen, hxl, hx⟩ := DataW.trod_array Tryz.underlying24 hf
  rw [cellsOf_hash] at hlen
  have hagg : ∃ cs, v = .agg cs := by
    simp only [Value.okWide, Tryz.underlying24] at hv
    obtain ⟨cs, h1, _⟩ := hv
    exact ⟨cs, h1⟩
  obtain ⟨cs, rfl⟩ := hagg
  simp only [Value.cells] at hlen hx
  obtain ⟨l⟩ := cs
  simp only at hlen hx
  have hone : ∀ i, i < 32 → ∃ b : UInt8, l[i]? = some (bv b) := by
    intro i hi
    have f := hx i hi
    rw [cellsOf_u8, Nat.mul_one, List.getElem?_eq_getElem (by omega)] at f
    obtain ⟨n, hn, _, wn⟩ := DataW.trod_int Tryz.underlying5 f
    obtain ⟨b, rfl⟩ := byte_of wn
    refine ⟨b, ?_⟩
    have : ((l.drop i).take 1)[0]? = some (bv b) := by rw [hn]; rfl
    simpa using this
  obtain ⟨q, hq, hp⟩ := choose_of 32 hone
  refine ⟨⟨q, hq⟩, ?_⟩
  show Value.agg _ = .agg (bvs q).toArray
  congr 1
  congr 1
  apply List.ext_getElem?
  intro i
  by_cases hi : i < q.length
  · rw [hp i hi]
    simp [bvs, List.getElem?_eq_getElem hi]
  · rw [List.getElem?_eq_none (by omega), List.getElem?_eq_none (by rw [length_bvs]; omega)]
theorem slAt_str {w : World} {v : Value} {os : List (List UInt8)} (h : SlAt w v (rowStr os) os.length) : ∃ v', ArgS v' (rowStr os) os.length ∧ ∀ ρ : Ren, (∀ b, ρ.fz b = w.heap[b]?) → VR ρ v' v := by
  have hf : (rowStr os).all (flatN 8) = true := by
    rw [List.all_eq_true]
    intro u hu
    obtain ⟨o, _, ho⟩ := List.mem_flatMap.1 hu
    simp only [List.mem_singleton] at ho
    subst ho; rfl
  have hb : Bares (rowStr os) := bares_all fun u hu => bare_flat 8 (by rw [List.all_eq_true] at hf; exact hf u hu)
  rcases h with ⟨rfl, h2, h3⟩ | ⟨a, cap, rfl, h1, h2, h3, h4⟩
  · rw [h2, h3]
    exact ⟨.slice none 0 0, ⟨rfl, fun W e => rfl, fun P e i j hi => absurd hi (Nat.not_lt_zero i), bare_flat 1 rfl⟩, fun ρ _ => .flat 1 _ rfl⟩
  · refine ⟨FZ (rowStr os) os.length, ⟨rfl, fun W e => rfl, fun P e i j hi => rfl, bare_fz hb⟩, fun ρ hρ => ?_⟩
    rcases Nat.eq_zero_or_pos os.length with h0 | h0
    · rw [h3 h0, h0]
      exact .frzE a cap
    · obtain ⟨hs, c', e, fr, k1, k2⟩ := h4 h0
      obtain ⟨b, off, sp⟩ := a
      simp only at hs k1 k2
      subst hs
      exact .frz _ _ _ b off cap c' e fr (by rw [hρ]; exact k1) h1 k2 (flatN_list hf)
theorem puts_walk (v : Value) (os : List (List UInt8)) (k : HB) (w : World) (hv : SlAt w v (rowStr os) os.length) (hos : ∀ o ∈ os, o.length ≤ 140737488351232) :
    Calls Tryz.prog 3 #[v, hbV k] w fun en w' => en = .returned (.bool true) ∧ Keeps noBlock w w' := by
  obtain ⟨v', h1, h2⟩ := slAt_str hv
  exact calls_local (k := 1) rfl (putsLocal v' os k h1 hos) (args' := [v, hbV k]) fun ρ hρ => .cons _ _ _ _ (h2 ρ hρ) (.cons _ _ _ _ (.flat 8 _ (flat_hb k)) .nil)
end Go.Proofs.YthlkgmdkabelpaaGreat.X
