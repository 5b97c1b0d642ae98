/-
  The program's hash: Sum returns the model's hash of its string. Condition: a string of at most 2^40 bytes.
-/
import Derived.Test.YthlkgmdkabelpaaGreatDoorHChunk
import Derived.Test.YthlkgmdkabelpaaGreatDoorHRow
namespace Go.Proofs.YthlkgmdkabelpaaGreatDoor
open Go Go.RowKit Go.Shelf
set_option linter.unusedVariables false
attribute [local go_sem] Oper.semAt_some

theorem byte_24 (x : W32) : uw x / (16777216 : Int) % (256 : Int) = ((byteW x 24).toNat : Int) := by rw [shr_24, ← conv_back, IntKind.wrap_u8]
theorem byte_16 (x : W32) : uw x / (65536 : Int) % (256 : Int) = ((byteW x 16).toNat : Int) := by rw [shr_16, ← conv_back, IntKind.wrap_u8]
theorem byte_8 (x : W32) : uw x / (256 : Int) % (256 : Int) = ((byteW x 8).toNat : Int) := by rw [shr_8, ← conv_back, IntKind.wrap_u8]
theorem byte_0 (x : W32) : uw x % (256 : Int) = ((byteW x 0).toNat : Int) := by rw [← conv_back0, IntKind.wrap_u8]
theorem bytes_any (x : W32) (w : World) : Calls Tryz.prog 90 #[.int .u32 (uw x)] w fun e w' => e = .returned (.slice (some ⟨w.heap.size, 0, none⟩) 4 4) ∧ w' = w.alloc (.cells (bvs (bytesW x)).toArray 5) := by
  go_enter Tryz.func90, Tryz.ntmps90
  go_wp2
  go_ret
  refine ⟨rfl, ?_⟩
  rw [byte_24, byte_16, byte_8, byte_0]
  rfl

theorem chunk_any (F : Fence) (n : Nat) (hf : F.fn 92) (hro : F.round = none) (a : Option Addr) (len cap : Nat) (w : World) :
    CallsIn F n Tryz.prog 92 #[.slice a len cap, .int .i64 64] w fun e w' => e = .returned (.func (.func 127) #[] #[.pointer (some ⟨w.heap.size, 0, none⟩), .pointer (some ⟨w.heap.size + 1, 0, none⟩)]) ∧
      w' = (w.alloc (.cells #[.slice a len cap] 22)).alloc (.cells #[.int .i64 64] 3) := by
  refine callsIn_of_wp Tryz.func92 rfl hf ?_ hro
  simp only [Tryz.ntmps92, List.size_toArray, List.length_cons, List.length_nil, Nat.reduceAdd, Nat.reduceSub, Array.replicate_succ, Array.replicate_zero, List.push_toArray, List.append_toArray, List.nil_append, List.cons_append]
  gi_wp2
  go_ret
  exact ⟨rfl, rfl⟩
theorem chunk_stops (F : Fence) (n : Nat) (hf : F.fn 127) (hro : F.round = none) (hn : 1 ≤ n) (Bs Bn b cap N : Nat) (T : Nat → Prop) (hN : N ≤ 2199023255552) (hcap : 64 * N ≤ cap)
    (hTs : ¬ T Bs) (hTn : ¬ T Bn) (w : World) (hBs : w.cell? ⟨Bs, 0, none⟩ = some (.slice (some ⟨b, 0, none⟩) (64 * N) cap)) (hBn : w.cell? ⟨Bn, 0, none⟩ = some (.int .i64 64)) :
    SeqStopsK F n Tryz.prog 127 #[.pointer (some ⟨Bs, 0, none⟩), .pointer (some ⟨Bn, 0, none⟩)] (pieceV b) (Keeps T) (numsTo N N) (fun _ => True) N w := fun l J Jx W hW hJ _ hY h0 =>
  chunk1_in F n hf hro hn l Bs Bn b cap N T hN hcap hTs hTn J Jx hY (fun pre W' hj => hJ pre W' W'.drew none hj ⟨rfl, rfl, rfl, Nat.le_refl _, fun _ _ _ => rfl⟩ (fun r e => by cases e)) W
    ((hW.cell (p := ⟨Bs, 0, none⟩) (World.block_lt_of_cell? w _ hBs)).trans hBs) ((hW.cell (p := ⟨Bn, 0, none⟩) (World.block_lt_of_cell? w _ hBn)).trans hBn) h0

def hashV (l : List UInt8) : Value := .agg (bvs l).toArray
theorem infoU8 : (Tryz.prog.info? 5).map (fun i => (i.zero, i.size, i.bytes)) = some (some (.int .u8 0), 1, 1) := by kernel_rfl

theorem src4 (w : World) (x : W32) : Src Tryz.prog 1 22 (.slice (some ⟨w.heap.size, 0, none⟩) 4 4) (bytesW x).length (bvs (bytesW x)) (w.alloc (.cells (bvs (bytesW x)).toArray 5)) :=
  Src.ofSlice _ Tryz.underlying22 _ _ _ _ rfl (fun j u hu => by
    rw [addr_add, Nat.zero_add, cell_of_heap heap_alloc_at]
    simpa using hu) (oneCell_bvs _)
/-- the words of a number of 64 bits -/
def hiW (n : Nat) : W32 := BitVec.ofNat 32 (n / 4294967296)
def loW (n : Nat) : W32 := BitVec.ofNat 32 n
theorem u8_of_mod (a b : Nat) (h : a % 256 = b % 256) : UInt8.ofNat a = UInt8.ofNat b := by
  apply UInt8.toNat_inj.1
  simp [UInt8.toNat_ofNat']
  exact h
theorem be64_words (n : Nat) (h : n < 18446744073709551616) : bytesW (hiW n) ++ bytesW (loW n) = be64 n := by
  have hh : (hiW n).toNat = n / 4294967296 := by unfold hiW; rw [BitVec.toNat_ofNat]; omega
  have hl : (loW n).toNat = n % 4294967296 := by unfold loW; rw [BitVec.toNat_ofNat]
  unfold bytesW be64 byteW byteAt
  simp only [BitVec.toNat_ushiftRight, Nat.shiftRight_eq_div_pow, hh, hl, List.cons_append, List.nil_append]
  congr 1
  · exact u8_of_mod _ _ (by omega)
  congr 1
  · exact u8_of_mod _ _ (by omega)
  congr 1
  · exact u8_of_mod _ _ (by omega)
  congr 1
  · exact u8_of_mod _ _ (by omega)
  congr 1
  · exact u8_of_mod _ _ (by omega)
  congr 1
  · exact u8_of_mod _ _ (by omega)
  congr 1
  · exact u8_of_mod _ _ (by omega)
  congr 1
  exact u8_of_mod _ _ (by omega)
theorem uw_hi (n : Nat) (h : n < 18446744073709551616) : uw (hiW n) = ((n / 4294967296 : Nat) : Int) := by unfold uw hiW; rw [BitVec.toNat_ofNat]; omega
theorem uw_lo (n : Nat) : uw (loW n) = ((n % 4294967296 : Nat) : Int) := by unfold uw loW; rw [BitVec.toNat_ofNat]

/-- the state behind the pieces pre of a message -/
def stAfter (m : List UInt8) {N : Nat} (pre : List (Fin N)) : S8 := pre.foldl (fun s x => blk s ((m.drop (64 * x.val)).take 64)) (S8.of iv)
theorem stAfter_snoc (m : List UInt8) {N : Nat} (pre : List (Fin N)) (x : Fin N) : stAfter m (pre ++ [x]) = blk (stAfter m pre) ((m.drop (64 * x.val)).take 64) := by simp [stAfter]
theorem stAfter_all (m : List UInt8) {N : Nat} (pre : List (Fin N)) (k : Nat) (h : numsTo N k pre) : stAfter m pre = blks m k := by
  have e : stAfter m pre = (pre.map (·.val)).foldl (fun s i => blk s ((m.drop (64 * i)).take 64)) (S8.of iv) := by
    unfold stAfter
    rw [List.foldl_map]
  rw [e, h]
  clear e h
  induction k with
  | zero => rfl
  | succ k ih => rw [List.range_succ, List.foldl_append, ih]; rfl
theorem keepsOthers_of {w w' : World} {g : Nat} {cs : Array Value} {t : TypeId} {fr : Nat × Nat} (h : Keeps (fun x => x = g) w w') (hg : w.heap[g]? = some (.cells cs t fr)) : KeepsOthers w w' :=
  ⟨h.size, fun k o hk ho => h.heap hk (fun e => by
    have e' : k = g := e
    subst e'
    rw [hg] at hk
    cases hk
    cases ho)⟩
theorem bytesAt_of {w : World} {b : Nat} {m : List UInt8} (h : w.rangeAt b 0 (bvs m)) (i : Nat) (hi : 64 * i + 64 ≤ m.length) : BytesAt w b (64 * i) ((m.drop (64 * i)).take 64) := by
  intro j hj
  have hl : 64 * i + j < m.length := by omega
  have := h (64 * i + j) (bv m[64 * i + j]) (by simp [bvs, List.getElem?_map, List.getElem?_eq_getElem hl])
  rw [Nat.zero_add] at this
  rw [this]
  have e : ((m.drop (64 * i)).take 64).getD j 0 = m[64 * i + j] := by
    rw [List.getD_eq_getElem?_getD, List.getElem?_take, if_pos hj, List.getElem?_drop, List.getElem?_eq_getElem hl]
    rfl
  rw [e]
  rfl

/-- the bytes of the first k words, in a row of 32 -/
def outRow (L : List W32) (k : Nat) : List UInt8 := (L.take k).flatMap bytesW ++ List.replicate (32 - 4 * k) 0
theorem flat_length (L : List W32) : (L.flatMap bytesW).length = 4 * L.length := by
  induction L with
  | nil => rfl
  | cons x L ih => rw [List.flatMap_cons, List.length_append, ih]; simp [bytesW]; omega
theorem outRow_length (L : List W32) (k : Nat) (hL : L.length = 8) (h : k ≤ 8) : (outRow L k).length = 32 := by
  unfold outRow
  rw [List.length_append, flat_length, List.length_take, List.length_replicate]
  omega
theorem take_one (L : List W32) (k : Nat) (h : k < L.length) : L.take (k + 1) = L.take k ++ [wAt L k] := by
  rw [List.take_succ_eq_append_getElem h]
  simp [wAt, List.getElem?_eq_getElem h]
theorem outRow_step (L : List W32) (k : Nat) (hL : L.length = 8) (h : k < 8) :
    (bvs (outRow L k)).take (4 * k) ++ bvs (bytesW (wAt L k)) ++ (bvs (outRow L k)).drop (4 * k + 4) = bvs (outRow L (k + 1)) := by
  have hl : ((L.take k).flatMap bytesW).length = 4 * k := by rw [flat_length, List.length_take]; omega
  have e1 : (outRow L k).take (4 * k) = (L.take k).flatMap bytesW := by unfold outRow; rw [← hl]; exact List.take_left
  have e2 : (outRow L k).drop (4 * k + 4) = List.replicate (32 - 4 * (k + 1)) 0 := by
    unfold outRow
    rw [← hl, List.drop_append, List.drop_replicate, List.drop_eq_nil_of_le (by omega), List.nil_append, hl]
    congr 1
    omega
  unfold bvs
  rw [← List.map_take, ← List.map_drop, e1, e2, ← List.map_append, ← List.map_append]
  unfold outRow
  rw [take_one L k (by omega), List.flatMap_append]
  simp
theorem out_all (L : List W32) (hL : L.length = 8) : outRow L 8 = L.flatMap bytesW := by
  unfold outRow
  rw [← hL, List.take_length]
  simp [hL]
def OutRel (w : World) (ob : Nat) (L : List W32) (i : Value) (wr : World) : Prop :=
  ∃ k : Nat, i = .int .i64 (k : Int) ∧ k ≤ 8 ∧ wr.heap[ob]? = some (.cells (bvs (outRow L k)).toArray 32 (0, 0)) ∧ Keeps (fun x => x = ob) w wr

/-- 'out[o:]', out an array of bytes -/
theorem run_sliceAt_arr {P : Program} (T e : TypeId) (n : Nat) (hu : P.underlying T = some (.array n e)) (hsz : (P.info? e).map (·.size) = some 1) (g o : Nat) (x : Int) (k : IntKind) (hx : x = (o : Int)) (ho : o < n) (w : World) :
    (Instr.sliceAt T (.pointer (some ⟨g, 0, none⟩)) (some (.int k x)) none none).run P w = .ok (.slice (some ⟨g, o, none⟩) (n - o) (n - o)) w := by
  subst hx
  cases hq : P.info? e with
  | none => simp [hq] at hsz
  | some i =>
    have hi : i.size = 1 := by simpa [hq] using hsz
    have hle : (o : Int) ≤ n := by omega
    have hne : ¬ n = o := by omega
    simp [Instr.sliceAt, Instr.sureAddr, run_underlying hu, Instr.sliceBounds, Instr.sliceBound, asIntOf, sizeOf, typeInfo, hq, hi, hne, addr_add]
    intro hh; omega
set_option maxRecDepth 100000 in
set_option maxHeartbeats 2000000 in
theorem sum_any (s : ByteArray) (w : World) (hs : s.size ≤ 140737488351232) : Calls Tryz.prog 61 #[.string s] w fun e w' => e = .returned (hashV (sha s.data.toList)) ∧ Keeps noBlock w w' := by
  obtain ⟨i0, hi, hz0, hz1, hz2⟩ := info_parts infoU8
  have hzs : (Value.int .u8 0).cells.size = 1 := rfl
  obtain ⟨w1, hw1⟩ : ∃ w1, w1 = w.alloc (.cells #[Value.int IntKind.u8 0, Value.int IntKind.u8 0, Value.int IntKind.u8 0, Value.int IntKind.u8 0, Value.int IntKind.u8 0, Value.int IntKind.u8 0, Value.int IntKind.u8 0, Value.int IntKind.u8 0, Value.int IntKind.u8 0, Value.int IntKind.u8 0, Value.int IntKind.u8 0, Value.int IntKind.u8 0, Value.int IntKind.u8 0, Value.int IntKind.u8 0, Value.int IntKind.u8 0, Value.int IntKind.u8 0, Value.int IntKind.u8 0, Value.int IntKind.u8 0, Value.int IntKind.u8 0, Value.int IntKind.u8 0, Value.int IntKind.u8 0, Value.int IntKind.u8 0, Value.int IntKind.u8 0, Value.int IntKind.u8 0, Value.int IntKind.u8 0, Value.int IntKind.u8 0, Value.int IntKind.u8 0, Value.int IntKind.u8 0, Value.int IntKind.u8 0, Value.int IntKind.u8 0, Value.int IntKind.u8 0, Value.int IntKind.u8 0] 32) := ⟨_, rfl⟩
  have k1 : Keeps noBlock w w1 := by rw [hw1]; exact (Keeps.refl _ _).alloc _
  have z1 : w1.heap.size = w.heap.size + 1 := by rw [hw1]; simp
  have h1 : w1.heap[w.heap.size]? = some (.cells (bvs (List.replicate 32 0)).toArray 32 (0, 0)) := by rw [hw1]; exact heap_alloc_at
  obtain ⟨l, hl⟩ : ∃ l, l = s.data.toList := ⟨_, rfl⟩
  have hls : l.length = s.size := by rw [hl]; exact size_data s
  obtain ⟨r2, k2⟩ := row8_of_string w1 5 s
  obtain ⟨v2, hv2⟩ : ∃ v, v = Value.slice (some ⟨w1.heap.size, 0, none⟩) s.size (grownCap w1 s.size 0 5) := ⟨_, rfl⟩
  obtain ⟨w2, hw2⟩ : ∃ w2, w2 = Lib.bytesWorld w1 5 s := ⟨_, rfl⟩
  have hcv := Lib.run_convert_string_bytes (P := Tryz.prog) w1 9 22 5 s Tryz.underlying9 Tryz.underlying22 Tryz.underlying5
  rw [← hw2, ← hv2] at hcv
  rw [← hw2, ← hv2, ← hl] at r2
  rw [← hw2] at k2
  -- the mark
  have r3 : Row8 (w2.alloc (.cells #[.int .u8 128] 5)) w1.heap.size v2 l := r2.keep ((Keeps.refl noBlock _).alloc _) (fun _ _ _ e => e)
  have hx3 : Src Tryz.prog 1 22 (.slice (some ⟨w2.heap.size, 0, none⟩) 1 1) 1 (bvs [0x80]) (w2.alloc (.cells #[.int .u8 128] 5)) :=
    Src.ofSlice _ Tryz.underlying22 _ _ _ _ rfl (fun j u hu => by
      rw [addr_add, Nat.zero_add, cell_of_heap heap_alloc_at]
      cases j with
      | zero => simpa [bvs, bv] using hu
      | succ j => simp [bvs] at hu) (oneCell_bvs _)
  obtain ⟨v4, w4, hap4, r4, k4⟩ := run_append_row8 (P := Tryz.prog) _ 22 22 22 5 i0 _ Tryz.underlying22 hi hz0 hz1 hz2 hzs w1.heap.size v2 l r3 (by have := k2.size; simp; omega) _ [0x80] hx3 (by simp; omega)
  have hb2 := r2.block
  have K4 : Keeps noBlock w1 w4 := k2.trans' (((Keeps.refl (fun k => w1.heap.size ≤ k) w2).alloc _).trans' k4 (fun k _ e => (hb2 k e).1)) (fun k hk e => by omega)
  have hb4 := r4.block
  obtain ⟨n4, hn4⟩ : ∃ n, n = (l ++ [0x80]).length := ⟨_, rfl⟩
  obtain ⟨g4, cap4, hv4, -, -, -, -, -⟩ := id r4
  rw [← hn4] at hv4
  subst hv4
  -- the zeros
  obtain ⟨zn, hzn⟩ : ∃ z, z = zerosN l.length := ⟨_, rfl⟩
  have hz64 : zn < 64 := by rw [hzn]; unfold zerosN; omega
  obtain ⟨v5, w5, hap5, r5, k5⟩ := run_append_zeros8 (P := Tryz.prog) w4 22 3 22 5 i0 .i64 .i64 Tryz.underlying22 Tryz.underlying3 hi hz0 hz1 hz2 w1.heap.size (.slice (some ⟨g4, 0, none⟩) n4 cap4) (l ++ [0x80]) r4 (by have := K4.size; omega) zn (by simp; omega)
  have hb5 := r5.block
  have K5 : Keeps noBlock w1 w5 := K4.trans' k5 (fun k hk e => by have := (hb4 k e).1; omega)
  have HCV := Lib.hid hcv; have HA4 := Lib.hid hap4; have HA5 := Lib.hid hap5; have R5 := Lib.hid r5; have KK5 := Lib.hid K5; have H1 := Lib.hid h1; have KK1 := Lib.hid k1; have HW1 := Lib.hid hw1
  have HL := Lib.hid hl; have HZN := Lib.hid hzn; have HLS := Lib.hid hls; have Z1 := Lib.hid z1
  have hzm : (120 - (n4 : Int)) % 64 = (zn : Int) := by
    have e4 : n4 = l.length + 1 := by rw [hn4]; simp
    rw [hzn, e4]; unfold zerosN; omega
  have HZM := Lib.hid (show (120 - (n4 : Int) % 64) % 64 = (zn : Int) by omega)
  have hn0 : (0 : Int) ≤ (n4 : Int) := by omega
  clear hcv hap4 hap5 r5 r4 K5 h1 k1 hw1 hl hzn hls z1 r2 k2 hw2 r3 hx3 k4 hb2 K4 hb4 k5 hb5 hv2 hn4
  refine (callsIn_wide (n := 3)).1 ?_
  refine callsIn_of_wp_marks Tryz.func61 rfl trivial ?_ rfl
  simp only [Tryz.ntmps61, List.size_toArray, List.length_cons, List.length_nil, Nat.reduceAdd, Nat.reduceSub, Array.replicate_succ, Array.replicate_zero, List.push_toArray, List.append_toArray, List.nil_append, List.cons_append]
  gi_wp2_with (first
    | (refine wpListIn_convert_run _ rfl _ _ _ rfl _ rfl v2 w2 (by rw [← HW1.out]; exact HCV.out) ?_)
    | (gi_at_builtin; refine wpListIn_append_run _ rfl _ _ _ _ rfl v2 _ rfl rfl _ w4 HA4.out ?_)
    | (gi_at_builtin; refine wpListIn_append_run _ rfl _ _ _ _ rfl _ (.int .i64 ((120 - (n4 : Int) % 64) % 64)) rfl rfl v5 w5 (by rw [HZM.out]; exact HA5.out) ?_))
  refine ⟨trivial, ?_⟩
  rw [show (s.size : Int) * 8 / 4294967296 = uw (hiW (8 * l.length)) by rw [uw_hi _ (by have := HLS.out; omega), HLS.out]; omega]
  refine (callsIn_wide.2 (bytes_any _ _)).mono ?_
  rintro e w6 ⟨rfl, hw6⟩
  have r6 : Row8 w6 w1.heap.size v5 (l ++ [0x80] ++ List.replicate zn 0) := by rw [hw6]; exact R5.out.keep ((Keeps.refl noBlock _).alloc _) (fun _ _ _ e => e)
  have k6 : Keeps noBlock w1 w6 := by rw [hw6]; exact KK5.out.alloc _
  have hx6 := src4 w5 (hiW (8 * l.length))
  rw [← hw6] at hx6
  obtain ⟨v7, w7, hap7, r7, k7⟩ := run_append_row8 (P := Tryz.prog) w6 22 22 22 5 i0 _ Tryz.underlying22 hi hz0 hz1 hz2 hzs w1.heap.size v5 _ r6 k6.size _ (bytesW (hiW (8 * l.length))) hx6 (by have := HLS.out; simp [bytesW]; omega)
  have hb5 := r6.block
  have k7' : Keeps noBlock w1 w7 := k6.trans' k7 (fun k hk e => by have := (hb5 k e).1; omega)
  have HA7 := Lib.hid hap7; have R7 := Lib.hid r7; have K7 := Lib.hid k7'
  clear hw6 r6 k6 hx6 hap7 r7 k7 hb5 k7'
  gi_wp2_with (first
    | (gi_at_builtin; refine wpListIn_append_run _ rfl _ _ _ _ rfl v5 _ rfl rfl v7 w7 HA7.out ?_))
  refine ⟨trivial, ?_⟩
  rw [show (s.size : Int) * 8 % 4294967296 = uw (loW (8 * l.length)) by rw [uw_lo, HLS.out]; omega]
  refine (callsIn_wide.2 (bytes_any _ _)).mono ?_
  rintro e w8 ⟨rfl, hw8⟩
  have r8 : Row8 w8 w1.heap.size v7 (l ++ [0x80] ++ List.replicate zn 0 ++ bytesW (hiW (8 * l.length))) := by rw [hw8]; exact R7.out.keep ((Keeps.refl noBlock _).alloc _) (fun _ _ _ e => e)
  have k8 : Keeps noBlock w1 w8 := by rw [hw8]; exact K7.out.alloc _
  have hx8 := src4 w7 (loW (8 * l.length))
  rw [← hw8] at hx8
  obtain ⟨v9, w9, hap9, r9, k9⟩ := run_append_row8 (P := Tryz.prog) w8 22 22 22 5 i0 _ Tryz.underlying22 hi hz0 hz1 hz2 hzs w1.heap.size v7 _ r8 k8.size _ (bytesW (loW (8 * l.length))) hx8 (by have := HLS.out; simp [bytesW]; omega)
  have hb8 := r8.block
  have k9' : Keeps noBlock w1 w9 := k8.trans' k9 (fun k hk e => by have := (hb8 k e).1; omega)
  have hpad : l ++ [0x80] ++ List.replicate zn 0 ++ bytesW (hiW (8 * l.length)) ++ bytesW (loW (8 * l.length)) = padL l := by
    rw [List.append_assoc (l ++ [0x80] ++ List.replicate zn 0), be64_words _ (by have := HLS.out; omega), HZN.out]; rfl
  rw [hpad] at r9
  obtain ⟨m, hm⟩ : ∃ m, m = padL l := ⟨_, rfl⟩
  rw [← hm] at r9
  obtain ⟨b, cap, hv9, hbB, hbw, hcap, -, hrg⟩ := r9
  obtain ⟨N, hN⟩ : ∃ N, m.length = 64 * N := ⟨m.length / 64, by have := padL_mod l; rw [← hm] at this; omega⟩
  have hNb : N ≤ 2199023255552 := by have h1 := padL_length l; rw [← hm, hN, ← HZN.out] at h1; have h2 := HLS.out; omega
  rw [hN] at hv9 hcap
  subst hv9
  have HA9 := Lib.hid hap9; have K9 := Lib.hid k9'; have HM := Lib.hid hm; have HN := Lib.hid hN; have HRG := Lib.hid hrg
  clear hw8 r8 k8 hx8 hap9 k9 hb8 k9' hpad hm hN hrg
  gi_wp2_with (first
    | (gi_at_builtin; refine wpListIn_append_run _ rfl _ _ _ _ rfl v7 _ rfl rfl _ w9 HA9.out ?_))
  refine ⟨trivial, ?_⟩
  refine (callsIn_wide.2 (start_any w9)).mono ?_
  rintro e w10 ⟨rfl, k10⟩
  have K10 := Lib.hid k10; have z10 := k10.size; clear k10
  gi_wp2_with (first
    | (refine wpListIn_store_new rfl _ _ _ rfl _ (arr iv) rfl rfl (size8 iv rfl) rfl (all_arr iv) ?_))
  refine ⟨trivial, ?_⟩
  obtain ⟨w11, hw11⟩ : ∃ w11, w11 = w10.alloc (.cells (arr iv) 179) := ⟨_, rfl⟩
  have h11 : w11.heap[w10.heap.size]? = some (.cells (arr iv) 179 (0, 0)) := by rw [hw11]; exact heap_alloc_at
  have k11 : Keeps noBlock w10 w11 := by rw [hw11]; exact (Keeps.refl _ _).alloc _
  have z11 : w11.heap.size = w10.heap.size + 1 := by rw [hw11]; simp
  rw [← hw11]
  have H11 := Lib.hid h11; have K11 := Lib.hid k11; have Z11 := Lib.hid z11
  clear h11 k11 z11 hw11
  refine (chunk_any Fence.wide 2 trivial rfl _ _ _ _).mono ?_
  rintro e _ ⟨rfl, rfl⟩
  obtain ⟨w12, hw12⟩ : ∃ w12, w12 = (w11.alloc (.cells #[.slice (some ⟨b, 0, none⟩) (64 * N) cap] 22)).alloc (.cells #[.int .i64 64] 3) := ⟨_, rfl⟩
  have k12 : Keeps noBlock w11 w12 := by rw [hw12]; exact ((Keeps.refl _ _).alloc _).alloc _
  have z12 : w12.heap.size = w11.heap.size + 2 := by rw [hw12]; simp
  have cs12 : w12.cell? ⟨w11.heap.size, 0, none⟩ = some (.slice (some ⟨b, 0, none⟩) (64 * N) cap) := by rw [hw12, cell_of_heap heap_alloc_at0]; rfl
  have cn12 : w12.cell? ⟨w11.heap.size + 1, 0, none⟩ = some (.int .i64 64) := by rw [hw12, cell_of_heap heap_alloc_at1]; rfl
  have h12 : w12.heap[w10.heap.size]? = some (.cells (arr iv) 179 (0, 0)) := k12.heap H11.out (fun e => e)
  have rg12 : w12.rangeAt b 0 (bvs m) := by
    intro j x hx
    rw [cell_keep (((K10.out.trans K11.out).trans k12)) hbw (fun e => e)]
    exact HRG.out j x hx
  have HW12 := Lib.hid hw12; have K12 := Lib.hid k12; have Z12 := Lib.hid z12; have H12 := Lib.hid h12; have RG12 := Lib.hid rg12
  have CS12 := Lib.hid cs12; have CN12 := Lib.hid cn12
  clear hw12 k12 z12 h12 rg12 cs12 cn12
  gi_wp2_with fail
  rw [← HW12.out]
  refine' wpIn_rangeFunc_ownF rfl (by omega) (gf := 127) (lb := #[.pointer (some ⟨w11.heap.size, 0, none⟩), .pointer (some ⟨w11.heap.size + 1, 0, none⟩)]) rfl trivial (enters_of Tryz.func127 (by kernel_rfl) rfl)
    (chunk_stops Fence.wide 2 trivial rfl (by omega) w11.heap.size (w11.heap.size + 1) b cap N (fun x => x = w10.heap.size ∨ w12.heap.size ≤ x) hNb hcap (by have := Z12.out; have := Z11.out; omega) (by have := Z12.out; have := Z11.out; omega) w12 CS12.out CN12.out)
    (fun h k => h.trans k) (fun W l o o' hl ho hc hw => (Keeps.refl _ W).grown (grownBy_putObj' W l o') (fun k e _ => by cases e; exact .inr hl)) (Below.refl _ _) (fun _ => rfl)
    (fun pre W => W.heap[w10.heap.size]? = some (.cells (arr (stAfter m pre).list) 179 (0, 0)) ∧ Keeps (fun x => x = w10.heap.size ∨ w12.heap.size ≤ x) w12 W)
    (fun _ _ _ => False)
    (fun pre W W' row hs hg hr => ⟨(hg.block _ (lt_of_heap hs.1) (fun e => by have := (hr _ e.symm).1; have := Z12.out; have := Z11.out; omega)).trans hs.1, hs.2.grown hg (fun k e _ => .inr (hr k e).1)⟩)
    (fun _ _ _ _ _ hs _ _ => hs)
    ⟨H12.out, Keeps.refl _ _⟩
    _ ?assign ?body ?done ?stop
  case assign =>
    intro l x W K hK
    unfold pieceV
    gi_wp2
    exact hK
  case body =>
    rintro l pre x W ⟨h1, h2⟩ hlen
    have hbne : b ≠ w10.heap.size := by omega
    have hbn2 : ¬ (b = w10.heap.size ∨ w12.heap.size ≤ b) := by have := Z12.out; have := Z11.out; omega
    have rgW : W.rangeAt b 0 (bvs m) := by
      intro j v hv
      have := Z12.out; have := Z11.out
      rw [cell_keep h2 (by omega) hbn2]
      exact RG12.out j v hv
    have hbt := bytesAt_of rgW x.val (by have := HN.out; have := x.isLt; omega)
    have HBT := Lib.hid hbt; have HH1 := Lib.hid h1; have HH2 := Lib.hid h2
    clear hbt h1 h2 rgW hlen hbn2
    gi_wp2_with fail
    refine ⟨trivial, ?_⟩
    refine (CallsIn.inRound l (callsIn_wide.2 (add_any w10.heap.size b (64 * x.val) 64 (stAfter m pre) _ W HH1.out HBT.out (Nat.le_refl _) hbne))).mono ?_
    rintro e w' ⟨rfl, hst, hk⟩
    have HST := Lib.hid hst; have HK := Lib.hid hk
    clear hst hk
    gi_wp2
    exact ⟨keepsOthers_of HK.out HH1.out, HK.out.mono (fun _ _ e => .inl e), by rw [stAfter_snoc]; exact HST.out, HH2.out.trans (HK.out.mono (fun _ _ e => .inl e))⟩
  case done =>
    rintro D xs W hD hxs ⟨h1, h2⟩ hK
    rw [stAfter_all m xs N hxs] at h1
    have HH1 := Lib.hid h1; have HH2 := Lib.hid h2; have HHK := Lib.hid hK
    clear h1 h2 hK hxs
    obtain ⟨L, hL⟩ : ∃ L, L = (blks m N).list := ⟨_, rfl⟩
    have hL8 : L.length = 8 := by rw [hL]; rfl
    rw [← hL] at HH1
    obtain ⟨w13, hw13⟩ : ∃ w13, w13 = W.alloc (.cells (bvs (List.replicate 32 0)).toArray 32) := ⟨_, rfl⟩
    have hz : (#[Value.int IntKind.u8 0, Value.int IntKind.u8 0, Value.int IntKind.u8 0, Value.int IntKind.u8 0, Value.int IntKind.u8 0, Value.int IntKind.u8 0, Value.int IntKind.u8 0, Value.int IntKind.u8 0, Value.int IntKind.u8 0, Value.int IntKind.u8 0, Value.int IntKind.u8 0, Value.int IntKind.u8 0, Value.int IntKind.u8 0, Value.int IntKind.u8 0, Value.int IntKind.u8 0, Value.int IntKind.u8 0, Value.int IntKind.u8 0, Value.int IntKind.u8 0, Value.int IntKind.u8 0, Value.int IntKind.u8 0, Value.int IntKind.u8 0, Value.int IntKind.u8 0, Value.int IntKind.u8 0, Value.int IntKind.u8 0, Value.int IntKind.u8 0, Value.int IntKind.u8 0, Value.int IntKind.u8 0, Value.int IntKind.u8 0, Value.int IntKind.u8 0, Value.int IntKind.u8 0, Value.int IntKind.u8 0, Value.int IntKind.u8 0] : Array Value) = (bvs (List.replicate 32 0)).toArray := rfl
    have k13 : Keeps noBlock W w13 := by rw [hw13]; exact (Keeps.refl _ _).alloc _
    have h13 : w13.heap[W.heap.size]? = some (.cells (bvs (List.replicate 32 0)).toArray 32 (0, 0)) := by rw [hw13]; exact heap_alloc_at
    have hst := k13.heap HH1.out (fun e => e)
    have HZ := Lib.hid hz; have HW13 := Lib.hid hw13; have K13 := Lib.hid k13; have H13 := Lib.hid h13; have HST := Lib.hid hst; have HL2 := Lib.hid hL
    clear hz hw13 k13 h13 hst hL
    gi_wp2_with (first
      | (refine wpListIn_load_row rfl _ _ rfl w10.heap.size rfl _ (arr L) (0, 0) _ (by rw [HZ.out, ← HW13.out]; exact HST.out) Tryz.underlying179 rfl (size8 _ hL8) ?_))
    rw [HZ.out, ← HW13.out]
    gi_loopw [42] (OutRel w13 W.heap.size L) (fun i _ => 8 - (intOf i).toNat)
    case atStart => exact ⟨0, rfl, by omega, H13.out, Keeps.refl _ _⟩
    case round =>
      obtain ⟨k, rfl, hk, hr, hkr⟩ := hrel
      by_cases hlt : k < 8
      · have hix := run_index_arr (P := Tryz.prog) 179 178 8 Tryz.underlying179 (by kernel_rfl) Tryz.underlying178 L k hlt hL8
        obtain ⟨x, hx⟩ : ∃ x, x = wAt L k := ⟨_, rfl⟩
        rw [← hx] at hix
        have hk0 : (0 : Int) ≤ (k : Int) := by omega
        have hk1 : (k : Int) < 8 := by omega
        have hw4 : IntKind.i64.wrap (4 * (k : Int)) = 4 * (k : Int) := IntWalk.i64_in _ (by omega)
        have hsl := run_sliceAt_arr (P := Tryz.prog) 32 5 32 Tryz.underlying32 (by kernel_rfl) W.heap.size (4 * k) (4 * (k : Int)) .i64 (by omega) (by omega)
        have h4a : (0 : Int) ≤ 4 * (k : Int) := by omega
        have h4b : 4 * (k : Int) ≤ 32 := by omega
        have h4c : ¬ (32 = 4 * k) := by omega
        have h4d : (4 * (k : Int)).toNat = 4 * k := by omega
        have h4e : min 4 (32 - 4 * k) = 4 := by omega
        have hlo : W.heap.size < wr.heap.size := lt_of_heap hr
        obtain ⟨w14, hw14⟩ : ∃ w, w = (wr.alloc (.cells (bvs (bytesW x)).toArray 5)).drew := ⟨_, rfl⟩
        have hr14 : w14.heap[W.heap.size]? = some (.cells (bvs (outRow L k)).toArray 32 (0, 0)) := by
          rw [hw14]
          show (wr.alloc _).heap[W.heap.size]? = _
          rw [Below.heap_alloc _ _ _ hlo]; exact hr
        have hsrc : CopySrc w14 (.slice (some ⟨wr.heap.size, 0, none⟩) 4 4) 4 (bvs (bytesW x)) := .inr ⟨_, 4, rfl, fun _ => ⟨_, rfl, fun j v hv => by
          rw [addr_add, Nat.zero_add, hw14]
          show (wr.alloc _).cell? _ = _
          rw [cell_of_heap heap_alloc_at]
          simpa using hv⟩⟩
        have hmin : (bvs (bytesW x)).length = Nat.min 4 (32 - 4 * k) := by
          show 4 = Nat.min 4 (32 - 4 * k)
          rw [show Nat.min 4 (32 - 4 * k) = min 4 (32 - 4 * k) from rfl]; omega
        obtain ⟨c1, c2⟩ := hsrc.run (P := Tryz.prog) hmin
        have hcp := run_copy_src (P := Tryz.prog) w14 22 22 3 5 W.heap.size (4 * k) (32 - 4 * k) (32 - 4 * k) _ 4 _ _ _ Tryz.underlying22 (by kernel_rfl) hr14 c1 (by rw [← hmin]; exact c2) hmin
          (by show 4 * k + 4 ≤ _; rw [List.size_toArray, length_bvs, outRow_length L k hL8 (by omega)]; omega) (oneCell_bvs _)
        have hlen4 : (bvs (bytesW x)).length = 4 := rfl
        rw [hlen4, List.toList_toArray, hx, outRow_step L k hL8 hlt] at hcp
        rw [hw14] at hcp
        have hgo : goInt ((4 : Nat) : Int) = .int .i64 4 := rfl
        clear hsrc hmin c1 c2 hlen4 hr14 hw14
        have HR := Lib.hid hr; have HKR := Lib.hid hkr; have HX := Lib.hid hx
        clear hr hkr hx
        gi_wp2_with fail
        apply wpIn_oneEnd
        · gi_region_with (refine ⟨trivial, ?_⟩; refine (callsIn_wide.2 (bytes_any x _)).mono ?_; rintro e w' ⟨rfl, rfl⟩)
          all_goals exact ⟨rfl, rfl⟩
        · gi_wp2_with fail
          go_roundw
          case rel =>
            have hk1 : Keeps (fun y => y = W.heap.size) w13 (wr.alloc (.cells (bvs (bytesW x)).toArray 5)).drew := (HKR.out.alloc _).drew
            exact ⟨k + 1, by simp, by omega, setRow_heap _ _ _ _ _ _ (by
              show (wr.alloc _).heap[W.heap.size]? = _
              rw [Below.heap_alloc _ _ _ hlo]; exact HR.out), hk1.trans ⟨rfl, rfl, rfl, by simp, fun j hj hn => setRow_other _ _ _ _ hn⟩⟩
          case measure => simp [intOf]; omega
      · obtain rfl : k = 8 := by omega
        have q12 := Z12.out; have q11 := Z11.out; have q1 := Z1.out
        have q9 := K9.out.size; have q10 := z10
        have qW := HH2.out.size
        have hD2 : D < W.heap.size := lt_of_heap HHK.out
        have hz : wr.heap[w.heap.size]? = some (.cells (bvs (List.replicate 32 0)).toArray 32 (0, 0)) := by
          have a1 := (((K9.out.trans K10.out).trans K11.out).trans K12.out).heap H1.out (fun e => e)
          have a2 := HH2.out.heap a1 (fun e => by omega)
          have a3 := K13.out.heap a2 (fun e => e)
          exact hkr.heap a3 (fun e => by omega)
        have hdf : wr.heap[D]? = some (.deferred (some [])) := by
          have a2 := K13.out.heap HHK.out (fun e => e)
          exact hkr.heap a2 (fun e => by omega)
        have hout : outRow L 8 = sha l := by
          rw [out_all L hL8, HL2.out, HM.out]
          unfold sha
          rw [show (padL l).length / 64 = N by rw [← HM.out, HN.out]; omega]
        rw [hout] at hr
        have hsz : (Tryz.prog.info? 32).map (·.size) = some (bvs (sha l)).toArray.size := by
          rw [List.size_toArray, length_bvs, sha_length]; kernel_rfl
        have hkall : Keeps (fun x => w.heap.size ≤ x) w wr := by
          have b1 := ((((KK1.out.trans K9.out).trans K10.out).trans K11.out).trans K12.out).any' (fun x => w.heap.size ≤ x)
          have b2 := b1.trans (HH2.out.mono (T := fun x => w.heap.size ≤ x) (fun k _ e => by omega))
          have b3 := b2.trans (K13.out.any' _)
          exact b3.trans (hkr.mono (fun k _ e => by omega))
        have HR := Lib.hid hr; have HZZ := Lib.hid hz; have HDF := Lib.hid hdf; have HSZ := Lib.hid hsz; have HKA := Lib.hid hkall
        have hDne : D ≠ w.heap.size := by omega
        clear hr hkr hlt hk hz hdf hsz hkall hout q12 q11 q1 q9 q10 qW
        gi_wp2_with (first
          | (refine wpListIn_load_row rfl _ _ rfl W.heap.size rfl _ (bvs (sha l)).toArray (0, 0) _ HR.out Tryz.underlying32 rfl HSZ.out ?_)
          | (refine wpListIn_store_row rfl _ _ _ rfl w.heap.size (bvs (sha l)).toArray rfl rfl _ _ HZZ.out HSZ.out (by rw [List.size_toArray, List.size_toArray, length_bvs, length_bvs, sha_length]; rfl) (all_oneCell_toArray (oneCell_bvs _)) ?_))
        have hdf2 : (wr.setRow w.heap.size (bvs (sha l)).toArray).heap[D]? = some (.deferred (some [])) := by rw [setRow_other _ _ _ _ hDne]; exact HDF.out
        refine ⟨by simp, .inl ⟨_, _, rfl, run_takeDeferred hdf2, ?_⟩⟩
        have hres : ((wr.setRow w.heap.size (bvs (sha l)).toArray).putObj D (.deferred none)).heap[w.heap.size]? = some (.cells (bvs (sha l)).toArray 32 (0, 0)) := by
          rw [World.putObj_heap_other (fun e => hDne e.symm)]
          exact setRow_heap _ _ _ _ _ _ HZZ.out
        refine ⟨_, results_cell_row rfl _ _ w.heap.size _ (bvs (sha l)).toArray (0, 0) _ rfl hres Tryz.underlying32 rfl HSZ.out, ?_, ?_⟩
        · rw [← HL.out]; rfl
        · have c1 : Keeps (fun x => w.heap.size ≤ x) w (wr.setRow w.heap.size (bvs (sha l)).toArray) :=
            HKA.out.trans ⟨rfl, rfl, rfl, by simp, fun j hj hn => setRow_other _ _ _ _ (fun e => hn (by omega))⟩
          have c2 := c1.grown (grownBy_putObj' _ D (.deferred none)) (fun k e hk => by cases e; have := HH2.out.size; have := Z12.out; have := Z11.out; have := Z1.out; have := K9.out.size; omega)
          exact c2.mono (fun k hk e => by omega)
  case stop =>
    rintro D c pre W _ _ h _
    exact h.elim
end Go.Proofs.YthlkgmdkabelpaaGreatDoor
