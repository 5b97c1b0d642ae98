/-
  NetDrains: the law's walk: it returns true, and writes nothing that was there. No condition.
-/
import Derived.Test.YthhimnihgkegiaaNScript
namespace Go.Proofs.Ythhimnihgkegiaa
open Go Go.RowKit Go.ChangeShapes Go.WideShapes Go.ChangeAt
set_option linter.unusedVariables false

/-- the net after k messages -/
structure DrSt (sc : List Tr) (ts : List Int) (k : Nat) (s : NS) : Prop where
  script : s.script = sc
  nodes : s.nodes = 1
  sent : s.sent = k
  fine : s.Fine k
  mem : ∀ p ∈ s.w, p.fr = (p.sn : Int) ∧ p.sn < ts.length ∧ ∃ t, ts[p.sn]? = some t ∧ t ≤ p.at_
def drCop (t : Tr) : Nat := if t.lost then 0 else nCop t.copies
theorem dr_len {s : NS} (h : s.nodes = 1) (now fr : Int) (tx : List UInt8) : (s.send now fr 0 tx).w.length = s.w.length + drCop s.tr := by
  have hd : s.drops 0 = s.tr.lost := by unfold NS.drops; rw [h]; simp
  unfold NS.send drCop
  rw [hd]
  cases hl : s.tr.lost with
  | true => simp
  | false => simp [length_addC]
theorem DrSt.step {sc : List Tr} {ts : List Int} {k : Nat} {s : NS} (h : DrSt sc ts k s) (hk : k < ts.length) : DrSt sc ts (k + 1) (s.send ts[k] k 0 []) where
  script := h.script
  nodes := h.nodes
  sent := by show s.sent + 1 = k + 1; rw [h.sent]
  fine := h.fine.send _ _ _ _
  mem := by
    intro p hp
    unfold NS.send at hp
    simp only at hp
    split at hp
    · exact h.mem p hp
    · rcases List.mem_append.1 ((addC_perm _ _ _ _ _ _ _).mem_iff.1 hp) with hp | hp
      · exact h.mem p hp
      · obtain ⟨j, _, rfl⟩ := List.mem_map.1 hp
        have hs := h.sent
        refine ⟨by show (k : Int) = (s.sent : Int); rw [hs], by show s.sent < _; omega, ts[k], ?_, ?_⟩
        · show ts[s.sent]? = _
          rw [hs]; exact List.getElem?_eq_getElem hk
        · show ts[k] ≤ ts[k] + max s.tr.delay 0 + (j : Int)
          omega
theorem DrSt.tr0 {sc : List Tr} {ts : List Int} {k : Nat} {s : NS} (h : DrSt sc ts k s) (h0 : sc.length = 0) : drCop s.tr = 1 := by
  rw [NS.tr_nil (by rw [h.script]; exact h0)]; decide
theorem DrSt.tr1 {sc : List Tr} {ts : List Int} {k : Nat} {s : NS} (h : DrSt sc ts k s) (h0 : 0 < sc.length) : s.tr = sc[k % sc.length]'(Nat.mod_lt _ h0) := by
  have h1 := NS.tr_get (s := s) (by rw [h.script]; exact h0)
  rw [h1]
  simp only [h.script, h.sent]

def DrRel1 (w : World) (b L : Nat) (sc : List Tr) (ts : List Int) (many i : Value) (wr : World) : Prop :=
  ∃ (k : Nat) (s : NS), i = .int .i64 (k : Int) ∧ many = .int .i64 (s.w.length : Int) ∧ k ≤ ts.length ∧ k ≤ 40 ∧ DrSt sc ts k s ∧ Net1 wr b L s ∧ Keeps (from_ L) w wr
/-- what is left, behind a copy that came at la, of message fi -/
structure DrLeft (ts : List Int) (n : Nat) (la fi : Int) (s : NS) : Prop where
  len : s.w.length = n
  ord : ∀ p ∈ s.w, la ≤ p.at_ ∧ (p.at_ = la → fi ≤ p.fr)
  mem : ∀ p ∈ s.w, p.fr = (p.sn : Int) ∧ p.sn < ts.length ∧ ∃ t, ts[p.sn]? = some t ∧ t ≤ p.at_
  fine : s.Fine 40
theorem DrLeft.step {ts : List Int} {n : Nat} {la fi : Int} {s : NS} (h : DrLeft ts (n + 1) la fi s) (hok : s.Ok) (p : Pc) (l : List Pc) (hw : s.w = p :: l) : DrLeft ts n p.at_ p.fr s.next := by
  have e : s.next.w = l := by unfold NS.next; rw [hw]; rfl
  have hs := hok.srt
  rw [hw] at hs
  unfold Srt at hs
  rw [List.pairwise_cons] at hs
  have hm := h.mem
  rw [hw] at hm
  refine ⟨?_, ?_, ?_, h.fine.next⟩
  · have := h.len; rw [hw] at this; rw [e]; simpa using this
  · rw [e]
    intro q hq
    have h1 := (ltB_iff _ _).1 (hs.1 q hq)
    have h2 := (hm q (by simp [hq])).1
    have h3 := (hm p (by simp)).1
    exact ⟨by omega, fun e => by omega⟩
  · rw [e]; intro q hq; exact hm q (by simp [hq])
def DrRel2 (w : World) (b L M : Nat) (ts : List Int) (last first i : Value) (wr : World) : Prop :=
  ∃ (k : Nat) (s : NS) (la fi : Int), i = .int .i64 (k : Int) ∧ last = .int .i64 la ∧ first = .int .i64 fi ∧ k ≤ M ∧ DrLeft ts (M - k) la fi s ∧ Net1 wr b L s ∧ Keeps (from_ L) w wr

set_option maxRecDepth 100000 in
set_option maxHeartbeats 4000000 in
theorem drains_walk (l0 : List Tr) (v : Value) (ts : List Int) (v1 : Value) (w : World) (hl : Trs w v l0) (hts : U16s w v1 ts) :
    Calls Try.prog 4 #[v, v1] w fun e w' => e = .returned (.bool true) ∧ Below w.heap.size w w' := by
  obtain ⟨o, cap, hv, _⟩ := id hl
  subst hv
  obtain ⟨o1, cap1, rfl, hlc1, hcm1, hcells1, hfit1⟩ := hts
  have HL := Lib.hid hl
  have htl : (ts.length : Int) ≤ 9223372036854775807 := by omega
  have HC := Lib.hid (show 0 < ts.length → ∃ b off, o1 = some ⟨b, off, none⟩ ∧ b < w.heap.size ∧ ∀ i (h : i < ts.length), w.cell? ⟨b, off + i, none⟩ = some (.int .u16 ts[i]) ∧ inU16 ts[i] from fun hp => by
    obtain ⟨b, off, ho, hb, hc⟩ := hcells1 hp
    refine ⟨b, off, ho, hb, fun i hi => ?_⟩
    have := hc i hi 0 _ rfl
    rw [Nat.mul_one, Nat.add_zero] at this
    exact ⟨this, hfit1 _ (List.getElem_mem hi)⟩)
  clear hcells1 hfit1 hl
  go_enter Try.func4, Try.ntmps4
  go_wp2_with fail
  refine (sanity_any w).mono ?_
  rintro e w1 ⟨rfl, k1⟩
  have z1 := k1.size
  have K1 := Lib.hid k1
  have hs1 : Trs w1 (.slice o l0.length cap) l0 := by
    obtain ⟨o', cap', h1, h2, h3, h4, h5⟩ := HL.out
    simp only [Value.slice.injEq] at h1
    obtain ⟨rfl, _, rfl⟩ := h1
    refine ⟨o, cap, rfl, h2, h3, fun hp => ?_, h5⟩
    obtain ⟨b, off, ho, hb, hcc⟩ := h4 hp
    exact ⟨b, off, ho, by omega, fun i hi j u hu => k1.cell (hcc i hi j u hu) (fun e => e)⟩
  have HS1 := Lib.hid hs1
  clear k1 hs1
  go_wp2_with fail
  refine (script_any w1 _ l0 HS1.out).mono ?_
  rintro e w2 ⟨sv, rfl, hrow, k2⟩
  have z2 := k2.size
  have K2 := Lib.hid (K1.out.trans k2)
  obtain ⟨sc, hs⟩ : ∃ s, s = scriptL l0 := ⟨_, rfl⟩
  have hs12 : sc.length ≤ 12 := by rw [hs]; exact length_scriptL l0
  have hfin : (newS 1 sc).Fine 0 := by rw [hs]; exact script_fine 1 l0
  rw [← hs] at hrow
  obtain ⟨o3, cap3, hv3, _, _, hform3⟩ := owns_form hrow
  subst hv3
  have HFM := Lib.hid hform3
  have HR := Lib.hid hrow
  have HF := Lib.hid hfin
  clear hrow k2 hs hfin hform3
  go_wp2_with fail
  refine (new_in w2 1 _ sc (owns_zero HR.out) (by omega)).mono ?_
  rintro e w3 ⟨n, rfl, hn3, k3⟩
  have z3 := k3.size
  obtain ⟨L, hL⟩ : ∃ L, L = w2.heap.size := ⟨_, rfl⟩
  have hwL : w.heap.size ≤ L := by omega
  have hL3 : L ≤ w3.heap.size := by omega
  have HRL := Lib.hid (show ∀ k, (Value.slice o3 sc.length cap3).ownBlock = some k → k < L from fun k e => by have := (HR.out.lt k e).2; omega)
  have HR3 := Lib.hid (owns_zero (k3.owns HR.out (fun _ _ e => e)))
  have K3 := Lib.hid (K2.out.trans k3)
  rw [← hL] at hn3
  have HN3 := Lib.hid hn3
  clear hn3 k3 hL
  go_wp2_with fail
  go_loopw [8, 9] (DrRel1 w3 n L sc ts) (fun _ i _ => ts.length - (intOf i).toNat)
  case atStart => exact ⟨0, newS 1 sc, rfl, rfl, Nat.zero_le _, by omega, ⟨rfl, rfl, rfl, HF.out, fun p hp => by simp [newS] at hp⟩, HN3.out, Keeps.refl _ _⟩
  case round =>
    obtain ⟨k, s, rfl, rfl, hkl, hk40, hst, hn4, hk4⟩ := hrel
    have z4 := hk4.size
    have HST := Lib.hid hst
    have HN4 := Lib.hid hn4
    have HK4 := Lib.hid hk4
    have hsl : s.w.length ≤ 320 := by have := hst.fine.len; omega
    have kk : Keeps (from_ w.heap.size) w wr := (K3.out.any' _).trans (hk4.lower hwL)
    have HKK := Lib.hid kk
    clear hst hn4 hk4 kk
    by_cases hlt : k < ts.length ∧ k < 40
    · obtain ⟨hlt, hlt40⟩ := hlt
      obtain ⟨bb, off, rfl, hb, hc⟩ := HC.out (by omega)
      obtain ⟨c0, hu0, hu1⟩ := hc k hlt
      have c0 := HKK.out.cell c0 (fun e => by have : w.heap.size ≤ bb := e; omega)
      have hstep := HST.out.step hlt
      have hdl := dr_len (s := s) HST.out.nodes ts[k] k []
      obtain ⟨tm, htm⟩ : ∃ tm, tm = ts[k] := ⟨_, rfl⟩
      rw [← htm] at c0 hu0 hu1 hstep hdl
      obtain ⟨s', hs'⟩ : ∃ s', s' = s.send tm k 0 [] := ⟨_, rfl⟩
      rw [← hs'] at hstep hdl
      have HSTEP := Lib.hid hstep
      have HDL := Lib.hid hdl
      have HS' := Lib.hid hs'
      have hi1 : (k : Int) < (ts.length : Int) := by omega
      have hi2 : (k : Int) < 40 := by omega
      clear htm hc hstep hdl hs'
      go_wp2_with fail
      refine (send_in wr n L s k tm k 0 [] HN4.out (by omega) HST.out.fine (by omega) (by omega)).mono ?_
      rintro e w5 ⟨rfl, hn5, k5⟩
      rw [← HS'.out] at hn5
      have z5 := k5.size
      have HN5 := Lib.hid hn5
      have K5 := Lib.hid k5
      by_cases h0 : sc.length = 0
      · have hcp := HST.out.tr0 h0
        have hl1 : ((s'.w.length : Nat) : Int) = (s.w.length : Int) + 1 := by rw [HDL.out, hcp]; simp
        have HL1 := Lib.hid hl1
        have hd0 : ¬ (0 : Int) < (sc.length : Int) := by omega
        clear hcp hl1 hn5 k5 h0
        go_wp2_with fail
        go_roundw
        case rel => exact ⟨k + 1, s', by simp, by rw [HL1.out], by omega, by omega, HSTEP.out, HN5.out, HK4.out.trans K5.out⟩
        case measure => simp [intOf]; omega
      · have hpos : 0 < sc.length := by omega
        have htr := HST.out.tr1 hpos
        obtain ⟨g, cur, hg, hh, _⟩ := HFM.out.resolve_left (by omega)
        subst hg
        have hrow5 := (k5.trans (Keeps.refl _ _)).owns (HK4.out.owns HR3.out (fun j e e2 => by have := HRL.out j e; have : L ≤ j := e2; omega)) (fun j e e2 => by have := HRL.out j e; have : L ≤ j := e2; omega)
        have hat := owns_tr hrow5 (k % sc.length) (Nat.mod_lt _ hpos)
        rw [← htr] at hat
        obtain ⟨a0, a1, _⟩ := hat
        obtain ⟨r, hr⟩ : ∃ r, r = k % sc.length := ⟨_, rfl⟩
        rw [← hr] at a0 a1
        have hz : (k : Int) % (sc.length : Int) = (r : Int) := by rw [hr]; simp
        have hrl : r < sc.length := by rw [hr]; exact Nat.mod_lt _ hpos
        have hr0 : (0 : Int) ≤ (r : Int) := by omega
        have hr1 : (r : Int) < (sc.length : Int) := by omega
        have hp1 : (0 : Int) < (sc.length : Int) := by omega
        have hp2 : (1 : Int) ≤ (sc.length : Int) := by omega
        obtain ⟨cps, hcps⟩ : ∃ x, x = s.tr.copies := ⟨_, rfl⟩
        obtain ⟨m1, hm1⟩ : ∃ m : Int, m = max cps 1 := ⟨_, rfl⟩
        obtain ⟨K, hK⟩ : ∃ K : Nat, K = nCop cps := ⟨_, rfl⟩
        have hM1 : (if cps < 1 then (1 : Int) else cps) = m1 := by rw [hm1]; split <;> omega
        have hM2 : (if (8 : Int) < m1 then (8 : Int) else m1) = (K : Int) := by
          unfold nCop at hK; split <;> omega
        have hK8 : K ≤ 8 := by rw [hK]; exact (nCop_le _).2
        rw [← hcps] at a1
        cases hlost : s.tr.lost with
        | true =>
          rw [hlost] at a0
          have hl1 : ((s'.w.length : Nat) : Int) = (s.w.length : Int) := by rw [HDL.out]; simp [drCop, hlost]
          have HL1 := Lib.hid hl1
          clear hl1 hn5 k5 hrow5 htr hh hr hcps hm1 hK hlost h0
          go_wp2_with fail
          go_roundw
          case rel => exact ⟨k + 1, s', by simp, by rw [HL1.out], by omega, by omega, HSTEP.out, HN5.out, HK4.out.trans K5.out⟩
          case measure => simp [intOf]; omega
        | false =>
          rw [hlost] at a0
          have hl1 : ((s'.w.length : Nat) : Int) = (s.w.length : Int) + (K : Int) := by rw [HDL.out]; simp [drCop, hlost, hK, hcps]
          have HL1 := Lib.hid hl1
          clear hl1 hn5 k5 hrow5 htr hh hr hcps hm1 hK hlost h0
          go_wp2_with fail
          go_roundw
          case rel => exact ⟨k + 1, s', by simp, by rw [HL1.out], by omega, by omega, HSTEP.out, HN5.out, HK4.out.trans K5.out⟩
          case measure => simp [intOf]; omega
    · have hend : ¬ (k : Int) < ts.length ∨ ¬ (k : Int) < 40 := by omega
      have hleft : DrLeft ts s.w.length (-1) (-1) s := ⟨rfl, fun p hp => by
        obtain ⟨h1, h2, t, ht, hta⟩ := HST.out.mem p hp
        have hu : inU16 t := by
          obtain ⟨bb, off, _, _, hc⟩ := HC.out (by omega)
          have := (hc p.sn h2).2
          rw [List.getElem?_eq_getElem h2] at ht
          rw [← Option.some.inj ht]; exact this
        have := hu.1
        exact ⟨by omega, fun e => by omega⟩, HST.out.mem, HST.out.fine.mono hk40⟩
      have HLEFT := Lib.hid hleft
      obtain ⟨M, hM⟩ : ∃ M, M = s.w.length := ⟨_, rfl⟩
      have hM320 : M ≤ 320 := by omega
      have HM := Lib.hid hM
      clear hlt hleft
      obtain ⟨wo, rfl⟩ : ∃ wo : World, wo = wr := ⟨_, rfl⟩
      rw [← hM]
      clear hM hsl
      by_cases hkl2 : (k : Int) < ts.length
      · have hk2 : ¬ (k : Int) < 40 := hend.resolve_left (fun h => h hkl2)
        clear hend
        go_wp2_with fail
        refine (waiting_in wo n L s HN4.out).mono ?_
        rintro e w' ⟨rfl, rfl⟩
        rw [← HM.out]
        go_wp2_with fail
        go_loopw [11, 12, 13] (DrRel2 wo n L M ts) (fun _ _ i _ => M - (intOf i).toNat)
        case atStart => exact ⟨0, s, -1, -1, rfl, rfl, rfl, Nat.zero_le _, by have := HLEFT.out; rw [← HM.out] at this; exact this, HN4.out, Keeps.refl _ _⟩
        case round =>
          obtain ⟨j, s5, la, fi, rfl, rfl, rfl, hjM, hleft, hn5, hk5⟩ := hrel
          have z5 := hk5.size
          have HN5 := Lib.hid hn5
          have HK5 := Lib.hid hk5
          have kk : Keeps (from_ w.heap.size) w wr := HKK.out.trans (hk5.lower hwL)
          have HKK2 := Lib.hid kk
          clear hn5 hk5 kk
          by_cases hlt : j < M
          · have hi1 : (j : Int) < (M : Int) := by omega
            obtain ⟨r, hr⟩ : ∃ r, M - j = r + 1 := ⟨M - j - 1, by omega⟩
            rw [hr] at hleft
            have HR5 := Lib.hid (show M - (j + 1) = r by omega)
            have hlen := hleft.len
            obtain ⟨p, rest, hw⟩ : ∃ p rest, s5.w = p :: rest := by
              cases h : s5.w with
              | nil => rw [h] at hlen; simp at hlen
              | cons p rest => exact ⟨p, rest, rfl⟩
            have hleft2 := hleft.step HN5.out.ok p rest hw
            obtain ⟨hla, hfi⟩ := hleft.ord p (by rw [hw]; simp)
            obtain ⟨hfr, hsn, t, ht, hta⟩ := hleft.mem p (by rw [hw]; simp)
            obtain ⟨f, hf⟩ : ∃ f, f = p.sn := ⟨_, rfl⟩
            obtain ⟨pa, hpa⟩ : ∃ a, a = p.at_ := ⟨_, rfl⟩
            rw [hfr, ← hf, ← hpa] at hfi
            rw [← hf] at hsn ht
            rw [hfr, ← hf, ← hpa] at hleft2
            rw [← hpa] at hla hta
            have hv : nextVal s5.w = .tuple #[.agg #[.int .i64 (f : Int), .int .i64 p.to_, .string (str p.tx)], .int .i64 pa, .bool true] := by rw [hw, hf, ← hfr, hpa]; rfl
            obtain ⟨bb, off, hob, hb, hc⟩ := HC.out (by omega)
            subst hob
            obtain ⟨c0, hu0, hu1⟩ := hc f hsn
            have htt : ts[f] = t := by rw [List.getElem?_eq_getElem hsn] at ht; exact Option.some.inj ht
            rw [htt] at c0 hu0 hu1
            have c0 := HKK2.out.cell c0 (fun e => by have : w.heap.size ≤ bb := e; omega)
            have HL2 := Lib.hid hleft2
            have HV := Lib.hid hv
            have HFN := Lib.hid hleft.fine
            have HNB := Lib.hid (show ¬ from_ L bb from fun e => by have : L ≤ bb := e; omega)
            have hf0 : (0 : Int) ≤ (f : Int) := by omega
            have hf1 : (f : Int) < (ts.length : Int) := by omega
            have HFI := Lib.hid hfi
            clear hfi hlen hw hleft hleft2 hfr hf hpa hv hc htt ht hr
            go_wp2_with fail
            refine (next_in wr n L s5 40 HN5.out (by omega) HFN.out (by omega)).mono ?_
            rintro e w6 ⟨rfl, hn6, k6⟩
            rw [HV.out]
            have c0 := k6.cell c0 HNB.out
            have hbw : bb < w6.heap.size := by have := k6.size; omega
            have hq6 := (Keeps.refl noBlock w6).alloc (.cells #[.int .i64 (f : Int), .int .i64 p.to_, .string (str p.tx)] 31)
            have HN6 := Lib.hid (hn6.keep hq6)
            have K6 := Lib.hid (k6.trans (hq6.any' _))
            clear hn6 k6 hq6
            by_cases heq : pa = la
            · have hfi := HFI.out heq
              have hb1 : (pa == la) = true := by simpa using heq
              clear heq
              go_wp2_with fail
              go_quiet (fail)
              go_wp2_with fail
              go_roundw
              case rel =>
                have hq := (Keeps.refl noBlock (w6.alloc (.cells #[.int .i64 (f : Int), .int .i64 p.to_, .string (str p.tx)] 31))).drewN nq
                exact ⟨j + 1, _, pa, f, by simp, rfl, rfl, by omega, by rw [HR5.out]; exact HL2.out, HN6.out.keep hq, (HK5.out.trans K6.out).trans (hq.any' _)⟩
              case measure => simp [intOf]; omega
            · have hb1 : (pa == la) = false := by simpa using heq
              clear heq
              go_wp2_with fail
              go_quiet (fail)
              go_wp2_with fail
              go_roundw
              case rel =>
                have hq := (Keeps.refl noBlock (w6.alloc (.cells #[.int .i64 (f : Int), .int .i64 p.to_, .string (str p.tx)] 31))).drewN nq
                exact ⟨j + 1, _, pa, f, by simp, rfl, rfl, by omega, by rw [HR5.out]; exact HL2.out, HN6.out.keep hq, (HK5.out.trans K6.out).trans (hq.any' _)⟩
              case measure => simp [intOf]; omega
          · obtain rfl : j = M := by omega
            have hw0 : s5.w = [] := List.eq_nil_of_length_eq_zero (by have := hleft.len; omega)
            have hv : nextVal s5.w = .tuple #[.agg #[.int .i64 0, .int .i64 0, .string ByteArray.empty], .int .i64 0, .bool false] := by rw [hw0]; rfl
            have e2 : s5.next.w.length = 0 := by unfold NS.next; rw [hw0]; rfl
            have HV := Lib.hid hv
            have E2 := Lib.hid e2
            have HFN := Lib.hid hleft.fine
            clear hlt hw0 hv e2 hleft
            go_wp2_with fail
            refine (next_in wr n L s5 40 HN5.out (by omega) HFN.out (by omega)).mono ?_
            rintro e w6 ⟨rfl, hn6, k6⟩
            rw [HV.out]
            have hq6 := (Keeps.refl noBlock w6).alloc (.cells #[.int .i64 0, .int .i64 0, .string ByteArray.empty] 31)
            have HN6 := Lib.hid (hn6.keep hq6)
            have K6 := Lib.hid (k6.trans (hq6.any' _))
            clear hn6 k6 hq6
            go_wp2_with fail
            refine (waiting_in _ n L _ HN6.out).mono ?_
            rintro e w' ⟨rfl, rfl⟩
            rw [E2.out]
            go_wp2_with fail
            go_ret
            exact ⟨rfl, (HKK2.out.trans (K6.out.lower hwL)).below (Nat.le_refl _) (fun k hk e => by have : w.heap.size ≤ k := e; omega)⟩
      · clear hend
        go_wp2_with fail
        refine (waiting_in wo n L s HN4.out).mono ?_
        rintro e w' ⟨rfl, rfl⟩
        rw [← HM.out]
        go_wp2_with fail
        go_loopw [11, 12, 13] (DrRel2 wo n L M ts) (fun _ _ i _ => M - (intOf i).toNat)
        case atStart => exact ⟨0, s, -1, -1, rfl, rfl, rfl, Nat.zero_le _, by have := HLEFT.out; rw [← HM.out] at this; exact this, HN4.out, Keeps.refl _ _⟩
        case round =>
          obtain ⟨j, s5, la, fi, rfl, rfl, rfl, hjM, hleft, hn5, hk5⟩ := hrel
          have z5 := hk5.size
          have HN5 := Lib.hid hn5
          have HK5 := Lib.hid hk5
          have kk : Keeps (from_ w.heap.size) w wr := HKK.out.trans (hk5.lower hwL)
          have HKK2 := Lib.hid kk
          clear hn5 hk5 kk
          by_cases hlt : j < M
          · have hi1 : (j : Int) < (M : Int) := by omega
            obtain ⟨r, hr⟩ : ∃ r, M - j = r + 1 := ⟨M - j - 1, by omega⟩
            rw [hr] at hleft
            have HR5 := Lib.hid (show M - (j + 1) = r by omega)
            have hlen := hleft.len
            obtain ⟨p, rest, hw⟩ : ∃ p rest, s5.w = p :: rest := by
              cases h : s5.w with
              | nil => rw [h] at hlen; simp at hlen
              | cons p rest => exact ⟨p, rest, rfl⟩
            have hleft2 := hleft.step HN5.out.ok p rest hw
            obtain ⟨hla, hfi⟩ := hleft.ord p (by rw [hw]; simp)
            obtain ⟨hfr, hsn, t, ht, hta⟩ := hleft.mem p (by rw [hw]; simp)
            obtain ⟨f, hf⟩ : ∃ f, f = p.sn := ⟨_, rfl⟩
            obtain ⟨pa, hpa⟩ : ∃ a, a = p.at_ := ⟨_, rfl⟩
            rw [hfr, ← hf, ← hpa] at hfi
            rw [← hf] at hsn ht
            rw [hfr, ← hf, ← hpa] at hleft2
            rw [← hpa] at hla hta
            have hv : nextVal s5.w = .tuple #[.agg #[.int .i64 (f : Int), .int .i64 p.to_, .string (str p.tx)], .int .i64 pa, .bool true] := by rw [hw, hf, ← hfr, hpa]; rfl
            obtain ⟨bb, off, hob, hb, hc⟩ := HC.out (by omega)
            subst hob
            obtain ⟨c0, hu0, hu1⟩ := hc f hsn
            have htt : ts[f] = t := by rw [List.getElem?_eq_getElem hsn] at ht; exact Option.some.inj ht
            rw [htt] at c0 hu0 hu1
            have c0 := HKK2.out.cell c0 (fun e => by have : w.heap.size ≤ bb := e; omega)
            have HL2 := Lib.hid hleft2
            have HV := Lib.hid hv
            have HFN := Lib.hid hleft.fine
            have HNB := Lib.hid (show ¬ from_ L bb from fun e => by have : L ≤ bb := e; omega)
            have hf0 : (0 : Int) ≤ (f : Int) := by omega
            have hf1 : (f : Int) < (ts.length : Int) := by omega
            have HFI := Lib.hid hfi
            clear hfi hlen hw hleft hleft2 hfr hf hpa hv hc htt ht hr
            go_wp2_with fail
            refine (next_in wr n L s5 40 HN5.out (by omega) HFN.out (by omega)).mono ?_
            rintro e w6 ⟨rfl, hn6, k6⟩
            rw [HV.out]
            have c0 := k6.cell c0 HNB.out
            have hbw : bb < w6.heap.size := by have := k6.size; omega
            have hq6 := (Keeps.refl noBlock w6).alloc (.cells #[.int .i64 (f : Int), .int .i64 p.to_, .string (str p.tx)] 31)
            have HN6 := Lib.hid (hn6.keep hq6)
            have K6 := Lib.hid (k6.trans (hq6.any' _))
            clear hn6 k6 hq6
            by_cases heq : pa = la
            · have hfi := HFI.out heq
              have hb1 : (pa == la) = true := by simpa using heq
              clear heq
              go_wp2_with fail
              go_quiet (fail)
              go_wp2_with fail
              go_roundw
              case rel =>
                have hq := (Keeps.refl noBlock (w6.alloc (.cells #[.int .i64 (f : Int), .int .i64 p.to_, .string (str p.tx)] 31))).drewN nq
                exact ⟨j + 1, _, pa, f, by simp, rfl, rfl, by omega, by rw [HR5.out]; exact HL2.out, HN6.out.keep hq, (HK5.out.trans K6.out).trans (hq.any' _)⟩
              case measure => simp [intOf]; omega
            · have hb1 : (pa == la) = false := by simpa using heq
              clear heq
              go_wp2_with fail
              go_quiet (fail)
              go_wp2_with fail
              go_roundw
              case rel =>
                have hq := (Keeps.refl noBlock (w6.alloc (.cells #[.int .i64 (f : Int), .int .i64 p.to_, .string (str p.tx)] 31))).drewN nq
                exact ⟨j + 1, _, pa, f, by simp, rfl, rfl, by omega, by rw [HR5.out]; exact HL2.out, HN6.out.keep hq, (HK5.out.trans K6.out).trans (hq.any' _)⟩
              case measure => simp [intOf]; omega
          · obtain rfl : j = M := by omega
            have hw0 : s5.w = [] := List.eq_nil_of_length_eq_zero (by have := hleft.len; omega)
            have hv : nextVal s5.w = .tuple #[.agg #[.int .i64 0, .int .i64 0, .string ByteArray.empty], .int .i64 0, .bool false] := by rw [hw0]; rfl
            have e2 : s5.next.w.length = 0 := by unfold NS.next; rw [hw0]; rfl
            have HV := Lib.hid hv
            have E2 := Lib.hid e2
            have HFN := Lib.hid hleft.fine
            clear hlt hw0 hv e2 hleft
            go_wp2_with fail
            refine (next_in wr n L s5 40 HN5.out (by omega) HFN.out (by omega)).mono ?_
            rintro e w6 ⟨rfl, hn6, k6⟩
            rw [HV.out]
            have hq6 := (Keeps.refl noBlock w6).alloc (.cells #[.int .i64 0, .int .i64 0, .string ByteArray.empty] 31)
            have HN6 := Lib.hid (hn6.keep hq6)
            have K6 := Lib.hid (k6.trans (hq6.any' _))
            clear hn6 k6 hq6
            go_wp2_with fail
            refine (waiting_in _ n L _ HN6.out).mono ?_
            rintro e w' ⟨rfl, rfl⟩
            rw [E2.out]
            go_wp2_with fail
            go_ret
            exact ⟨rfl, (HKK2.out.trans (K6.out.lower hwL)).below (Nat.le_refl _) (fun k hk e => by have : w.heap.size ≤ k := e; omega)⟩
#print axioms drains_walk
end Go.Proofs.Ythhimnihgkegiaa
