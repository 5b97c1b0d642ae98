/-
  Packed by program (tools/pack.py) out of the texts W GModel. No condition.
-/
import Derived.WalkKit
import Derived.WalkSpells
import Derived.WalkLawsBesides
import Derived.Laws.CopyOwn
import Derived.Maps.AppendAt
import Derived.Lib.Hide
set_option linter.all false
namespace Go.Proofs.YthlkgmdkabelpaaGreat
open Go Go.RowKit
abbrev abP:=@List.length_append
abbrev abQ:=@Result.andThen_ok
abbrev abR:=@List.length_take
abbrev abS:=@List.getElem?_eq_getElem
abbrev abT:=@List.length_drop
abbrev abU:=@Sem.run_bind
abbrev abV:=@List.getD_eq_getElem?_getD
abbrev abW:=@Nat.zero_le
abbrev abX:=@List.length_set
abbrev abY:=@Nat.eq_of_beq_eq_true
abbrev abZ:=@Bool.and_eq_true
abbrev ab0:=@Sem.run_pure
abbrev ab1:=@List.length_map
abbrev ab2:=@Int.toNat_natCast
abbrev ab3:=@Classical.choose_spec
abbrev ab4:=@List.mem_cons_self
abbrev ab5:=@List.length_singleton
abbrev ab6:=@List.not_mem_nil
abbrev ab7:=@List.flatMap_cons
abbrev ab8:=@Nat.lt_or_ge
abbrev ab9:=@List.getElem?_eq_none
abbrev aca:=@List.mem_cons_of_mem
abbrev acb:=@Nat.beq_refl
abbrev acd:=@List.mem_cons
abbrev ace:=@List.eq_nil_of_length_eq_zero
abbrev acf:=@Bool.false_ne_true
abbrev acg:=@List.append_assoc
abbrev ach:=@Option.map_some
abbrev aci:=@Nat.lt_succ_self
abbrev acj:=@Array.getD_eq_getD_getElem?
abbrev ack:=@List.map_cons
abbrev acl:=@Array.getElem?_eq_getElem
abbrev acm:=@Nat.not_lt_zero
abbrev acn:=@List.map_append
abbrev aco:=@List.drop_of_length_le
abbrev acp:=@List.getElem_of_mem
abbrev acq:=@List.mem_of_getElem?
abbrev acr:=@Array.getElem?_toList
abbrev acs:=@Bool.or_eq_true
abbrev act:=@List.getElem?_append_right
abbrev acu:=@List.drop_eq_nil_of_le
abbrev acv:=@Array.length_toList
abbrev acw:=@List.getElem?_take
abbrev acx:=@Nat.le_trans
abbrev acy:=@Nat.add_comm
abbrev acz:=@List.getElem?_append_left
abbrev acA:=@Option.map_none
abbrev acB:=@Array.getElem?_setIfInBounds_ne
abbrev acC:=@List.getElem?_drop
abbrev acD:=@List.length_replicate
abbrev acE:=@List.getElem?_map
abbrev acF:=@List.drop_eq_getElem_cons
abbrev acG:=@List.drop_drop
abbrev acH:=@Nat.zero_mul
abbrev acI:=@List.map_nil
abbrev acJ:=@Bool.not_eq_true'
abbrev acK:=@Array.getElem?_modify
abbrev acL:=@Nat.mul_le_mul_right
abbrev acM:=@Nat.succ_mul
abbrev acN:=@List.ext_getElem?
abbrev acO:=@Nat.min_eq_left
abbrev acP:=@Option.getD_some
abbrev acQ:=@Nat.add_sub_cancel
abbrev acR:=@Array.toArray_toList
abbrev acS:=@Int.ofNat_eq_natCast
abbrev acT:=@List.flatMap_append
abbrev acU:=@Nat.le_succ
abbrev acV:=@List.flatMap_nil
abbrev acW:=@Nat.lt_of_lt_of_le
abbrev acX:=@Nat.ble_eq_true_of_le
abbrev acY:=@BitVec.toNat_ofNat
abbrev acZ:=@Nat.one_pos
abbrev ac0:=@Nat.sub_zero
abbrev ac1:=@List.length_erase_of_mem
abbrev ac2:=@Nat.pow_le_pow_right
abbrev ac3:=@List.mem_append_right
abbrev ac4:=@List.mem_append_left
abbrev ac5:=@List.mem_of_mem_take
abbrev ac6:=@Array.getElem?_setIfInBounds_self
abbrev ac7:=@Nat.add_mul
abbrev ac8:=@List.filter_cons
abbrev ac9:=@Nat.le_add_right
abbrev ada:=@List.all_eq_true
abbrev adb:=@Nat.add_assoc
abbrev adc:=@Nat.eq_zero_or_pos
abbrev ade:=@List.all_append
abbrev adf:=@Nat.lt_trichotomy
abbrev adg:=@List.set_append_right
abbrev adh:=@List.take_append_drop
abbrev adi:=@List.nodup_nil
abbrev adj:=@Array.getElem?_append
abbrev adk:=@List.mem_of_mem_drop
def bv(x:UInt8):Value:=.int .u8 (x.toNat:Int)
def an(l:List UInt8):List Value:=l.map bv
theorem bE(l:List UInt8):(an l).length=l.length:=by simp[an]
def str(l:List UInt8):ByteArray:=⟨l.toArray⟩
theorem dO(l:List UInt8):(str l).size=l.length:=by simp[str,ByteArray.size]
theorem xm(l:List UInt8):(str l).toList=l:=ByteArray.toList_mk l
theorem pX(s:ByteArray):s.data.toList.length=s.size:=Array.length_toList
structure ak(S:Nat->Prop)(w w':World):Prop where
 os:w'.os=w.os
 tape:w'.tape=w.tape
 output:w'.output=w.output
 size:w.heap.size<=w'.heap.size
 block:∀k,k<w.heap.size->¬S k->w'.heap[k]?=w.heap[k]?
def aO:Nat->Prop:=fun _=>False
def grow(S:Nat->Prop)(w w':World):Nat->Prop:=fun k=>S k\/(w.heap.size<=k/\k<w'.heap.size)
theorem ak.refl(S:Nat->Prop)(w:World):ak S w w:=⟨rfl,rfl,rfl,Nat.le_refl _,fun _ _ _=>rfl⟩
theorem ak.mono{S T:Nat->Prop}{w w':World}(h:ak S w w')(hst:∀k,k<w.heap.size->S k->T k):ak T w w':=
 ⟨h.os,h.tape,h.output,h.size,fun k hk hn=>h.block k hk (fun hs=>hn (hst k hk hs))⟩
theorem ak.trans'{S T:Nat->Prop}{a b c:World}(h:ak S a b)(k:ak T b c)(ht:∀k,k<a.heap.size->T k->S k):ak S a c:=
 ⟨k.os.trans h.os,k.tape.trans h.tape,k.output.trans h.output,Nat.le_trans h.size k.size,fun i hi hn=>(k.block i (Nat.lt_of_lt_of_le hi h.size) (fun x=>hn (ht i hi x))).trans (h.block i hi hn)⟩
theorem ak.trans{S:Nat->Prop}{a b c:World}(h:ak S a b)(k:ak S b c):ak S a c:=h.trans' k (fun _ _ h=>h)
theorem ak.alloc{S:Nat->Prop}{a w:World}(h:ak S a w)(o:Obj):ak S a (w.alloc o):=
 h.trans ⟨rfl,rfl,rfl,by simp,fun k hk _=>Below.heap_alloc _ _ _ hk⟩
theorem ak.drew{S:Nat->Prop}{a w:World}(h:ak S a w):ak S a w.drew:=⟨h.os,h.tape,h.output,h.size,h.block⟩
theorem ak.setCell{S:Nat->Prop}{a w:World}(h:ak S a w){p:Addr}(hp:p.block<a.heap.size->S p.block)(u:Value):ak S a (w.setCell p u):=
 ⟨h.os,h.tape,h.output,by simpa[World.setCell]using h.size,fun k hk hn=>by
  rw[Below.heap_setCell _ _ _ _ (fun e=>by subst e;exact hn (hp hk))];exact h.block k hk hn⟩
theorem ak.grown{S:Nat->Prop}{a w w':World}{row:Option Nat}(h:ak S a w)(hg:w.grownBy w' row)(hr:∀k,row=some k->k<a.heap.size->S k):ak S a w':=
 h.trans' (T:=fun k=>row=some k) ⟨hg.os,hg.tape,hg.output,hg.size,fun k hk hn=>hg.block k hk (fun e=>hn e.symm)⟩ (fun k hk e=>hr k e hk)
theorem ak.below{S:Nat->Prop}{w w':World}{B:Nat}(h:ak S w w')(hB:B<=w.heap.size)(hS:∀k,k<B->¬S k):Below B w w':=
 ⟨h.os,h.tape,h.output,h.size,fun k hk=>h.block k (Nat.lt_of_lt_of_le hk hB) (hS k hk)⟩
theorem ak.cell{S:Nat->Prop}{w w':World}(h:ak S w w'){p:Addr}{v:Value}(hv:w.cell? p=some v)(hs:¬S p.block):w'.cell? p=some v:=by
 rw[World.cell?_of_block (h.block _ (World.block_lt_of_cell? w p hv) hs)];exact hv
theorem ak.heap{S:Nat->Prop}{w w':World}(h:ak S w w'){k:Nat}{o:Obj}(hv:w.heap[k]?=some o)(hs:¬S k):w'.heap[k]?=some o:=by
 rw[h.block _ (Array.getElem?_eq_some_iff.1 hv).1 hs];exact hv
theorem fy{w:World}{k:Nat}{o:Obj}(h:w.heap[k]?=some o):k<w.heap.size:=(Array.getElem?_eq_some_iff.1 h).1
theorem bm{w:World}{b:Nat}{cs:Array Value}{t:TypeId}{f:Nat×Nat}(h:w.heap[b]?=some (.cells cs t f))(i:Nat):w.cell? ⟨b,i,none⟩=cs[i]?:=by
 simp[World.cell?,h]
theorem dS{w:World}{b:Nat}{cs:Array Value}{t:TypeId}(h:w.heap[b]?=some (.cells cs t (0,0)))(i:Nat):w.frozen? ⟨b,i,none⟩=false:=by
 simp[World.frozen?,h]
theorem eu{w:World}{b i:Nat}{cs:Array Value}{t:TypeId}{v:Value}(h:w.heap[b]?=some (.cells cs t (0,0))):(w.setCell ⟨b,i,none⟩ v).heap[b]?=some (.cells (cs.setIfInBounds i v) t (0,0)):=
 heap_setCell_same w b i cs t v h
theorem bw{w:World}{o:Obj}:(w.alloc o).heap[w.heap.size]?=some o:=by
 show(w.heap.push o)[w.heap.size]?=_;simp
theorem tU{g o n c k:Nat}{s:Option Nat}:(Value.slice (some ⟨g,o,s⟩) n c).ownBlock=some k↔k=g:=by
 simp only[Value.ownBlock,Option.some.injEq];exact eq_comm
theorem BB{w w':World}{base:Nat}{e:TypeId}{size:Nat}{v:Value}{n:Nat}{xs:List Value}(h:w.ownsRow base e size v n xs)(hb:∀k,v.ownBlock=some k->w'.heap[k]?=w.heap[k]?):w'.ownsRow base e size v n xs:=by
 refine⟨h.1,?_⟩;rcases h.2 with hn|⟨g,cap,cur,rfl,hbg,hg,rest⟩
 ·exact .inl hn
 exact .inr ⟨g,cap,cur,rfl,hbg,by rw[hb g rfl];exact hg,rest⟩
theorem ak.owns{S:Nat->Prop}{w w':World}{base:Nat}{e:TypeId}{size:Nat}{v:Value}{n:Nat}{xs:List Value}(hk:ak S w w')(h:w.ownsRow base e size v n xs)(hs:∀k,v.ownBlock=some k->¬S k):w'.ownsRow base e size v n xs:=
 BB h fun k e=>hk.block k (h.lt k e).2 (hs k e)
theorem bX(g o j:Nat):(⟨g,o,none⟩:Addr).add j=⟨g,o+j,none⟩:=by
 simp only[Addr.add];split
 ·simp
 rfl
theorem Jf{w:World}{base e:Nat}{o:Option Addr}{n m cap:Nat}{xs:List Value}(h:w.ownsRow base e 1 (.slice o n cap) m xs)(g:Addr)(hg:o=some g)(j:Nat)(v:Value)(hv:xs[j]?=some v):w.cell? (g.add j)=some v:=by
 subst hg;rcases h.2 with⟨h0,_⟩|⟨g',cap',cur,h0,hb,hh,r⟩
 ·cases h0
 simp only[Value.slice.injEq,Option.some.injEq]at h0;obtain⟨rfl,rfl,rfl⟩:=h0;exact h.cells (g:=g') rfl j v hv
theorem ja(l:List UInt8):∀v∈an l,v.oneCell'=true:=by
 intro v hv;simp only[an,List.mem_map]at hv;obtain⟨x,_,rfl⟩:=hv;rfl
theorem oE(a b:List UInt8):an (a++b)=an a++an b:=by simp[an]
theorem LJ(n:Nat):(madeCells (Value.int .u8 0).cells n).toList=an (List.replicate n 0):=by
 have:(Value.int .u8 0).cells=#[.int .u8 0]:=rfl;rw[this,toList_madeCells_one];simp[an,bv]
theorem Fk(l:List UInt8)(a b:Nat):(str l).extract a b=str ((l.drop a).take (b-a)):=ByteArray.extract_mk l a b
theorem Bm{P:Program}(t:TypeId)(hu:P.underlying t=some .string)(l:List UInt8)(k k':IntKind)(m n:Nat)(hm:m<=n)(h:n<=l.length)(w:World) :
 (Instr.slice t (.string (str l)) (some (.int k (m:Int))) (some (.int k' (n:Int))) none).run P w=.ok (.string (str ((l.drop m).take (n-m)))) w:=by
 have hs:=dO l;have hle:(n:Int)<=l.length:=by omega
 have hle2:(m:Int)<=n:=by omega
 simp[Instr.slice,run_underlying hu,Instr.sliceBounds,Instr.sliceBound,asIntOf,hs,Fk,h,hm,Sem.run_bind]
theorem iL(a b:List UInt8):str a++str b=str (a++b):=ByteArray.mk_append_mk a b
theorem EV{P:Program}(a b:List UInt8)(h:a.length+b.length<=9223372036854775807)(w:World):(Op.stringOp .add (str a) (str b)).run P w=.ok (.string (str (a++b))) w:=by
 rw[run_string_add_sum w (str a) (str b) (by rw[dO,dO];exact h),iL]
section copy
variable {P:Program}
theorem Dj(w:World)(dT sT ty elem:TypeId)(g off dLen dCap:Nat)(src:Value)(n:Nat)(cur:Array Value)(t:TypeId)(cs:List Value)
 (hu:P.underlying dT=some (.slice elem)) (hs:(P.info? elem).map (·.size)=some 1) (hg:w.heap[g]?=some (.cells cur t (0,0)))
 (hlen:(Builtin.lenOf src).run P w=.ok n w) (hfirst:(Builtin.firstCells 1 (Nat.min n dLen) src).run P w=.ok cs.toArray w)
 (hn:cs.length=Nat.min n dLen) (hfit:off+cs.length<=cur.size) (h1:∀v∈cs,v.oneCell'=true) :
 (Builtin.copy_ #[dT,sT] ty #[.slice (some ⟨g,off,none⟩) dLen dCap,src]).run P w =
  .ok (goInt cs.length) (w.setRow g (cur.toList.take off++cs++cur.toList.drop (off+cs.length)).toArray):=by
 have hst:=run_storeCells_at P g off t cs 0 cur w hg (by simpa using hfit) h1;cases hq:P.info? elem with
 |none=>simp[hq]at hs
 |some i=>
  have hi:i.size=1:=by simpa[hq]using hs
  rw[<-hn]at hfirst
  simp[Builtin.copy_,run_underlying hu,hlen,sizeOf,typeInfo,hq,hi,<-hn,hfirst,hst]
def mJ(w:World)(src:Value)(n:Nat)(cs:List Value):Prop:=
 (∃s:ByteArray,src=.string s/\n=s.size/\∃k,cs=(an s.data.toList).take k) \/
 (∃(sp:Option Addr) (c:Nat),src=.slice sp n c/\(0<cs.length->∃ad,sp=some ad/\∀j v,cs[j]?=some v->w.cell? (ad.add j)=some v))
theorem mJ.run{w:World}{src:Value}{n k:Nat}{cs:List Value}(h:mJ w src n cs)(hk:cs.length=Nat.min n k) :
 (Builtin.lenOf src).run P w=.ok n w/\(Builtin.firstCells 1 cs.length src).run P w=.ok cs.toArray w:=by
 rcases h with⟨s,rfl,rfl,j,rfl⟩|⟨sp,c,rfl,h⟩
 ·refine⟨by simp[Builtin.lenOf],?_⟩;simp only[Builtin.firstCells,an,List.length_take,List.length_map,Array.length_toList,Sem.run_pure];congr 1;apply Array.ext';simp only[Array.toList_map,ByteArray.data_extract,Array.toList_extract,List.extract_eq_take_drop,Nat.sub_zero,List.drop_zero,List.map_take];change List.take (min j s.data.size) (List.map bv s.data.toList)=List.take j (List.map bv s.data.toList);rw[List.take_eq_take_iff];simp only[List.length_map,Array.length_toList];omega
 refine⟨by simp[Builtin.lenOf],?_⟩;by_cases h0:cs.length=0
 ·obtain rfl:cs=[]:=List.eq_nil_of_length_eq_zero h0;cases sp with
  |none=>simp[Builtin.firstCells]
  |some a=>simp[Builtin.firstCells,loadCells,loadCellsFrom]
 obtain⟨ad,rfl,hc⟩:=h (by omega);have hl:=run_loadCells_list (P:=P) w ad cs hc;simp[Builtin.firstCells,hl]
theorem mJ.of_owns{w:World}{base e:Nat}{o:Option Addr}{n c:Nat}{xs:List Value}(h:w.ownsRow base e 1 (.slice o n c) n xs):mJ w (.slice o n c) n xs:=by
 refine .inr ⟨o,c,rfl,fun hp=>?_⟩;have hx:=h.1;simp only[Nat.mul_one]at hx;rcases h.2 with⟨h0,rfl⟩|⟨g,cap',cur,h0,_⟩
 ·omega
 simp only[Value.slice.injEq]at h0;obtain⟨rfl,_⟩:=h0;exact⟨_,rfl,fun j v hv=>Jf h _ rfl j v hv⟩
theorem mJ.of_str(w:World)(s:ByteArray):mJ w (.string s) s.size (an s.data.toList):=
 .inl ⟨s,rfl,rfl,s.data.toList.length,by rw[List.take_of_length_le (by simp[an])]⟩
end copy
theorem n8{P:Program}(w:World)(src dst e:TypeId)(a:Option Addr)(n cap:Nat)(l:List UInt8)(hs:P.underlying src=some (.slice e))(he:P.underlying e=some (.int .u8))(hd:P.underlying dst=some .string)
 (hn:n=l.length) (hc:0<l.length->∃ad,a=some ad/\∀j (hj:j<l.length),w.cell? (ad.add j)=some (bv l[j])) :
 (convert src dst (.slice a n cap)).run P w=.ok (.string (str l)) w:=by
 subst hn;by_cases h0:l.length=0
 ·obtain rfl:l=[]:=List.eq_nil_of_length_eq_zero h0;cases a with
  |none=>rw[run_convert_bytes_string w src dst e none _ cap hs he hd];rfl
  |some ad=>exact run_convert_bytes_back w src dst e ad cap [] hs he hd (fun j hj=>by simp at hj)
 obtain⟨ad,had,hx⟩:=hc (by omega);subst had;clear hc;exact run_convert_bytes_back w src dst e ad cap l hs he hd hx
abbrev aA:=BitVec 32
def ef(x:aA)(n:Nat):aA:=(x >>> n) ||| (x <<< (32-n))
def U6(x:aA):aA:=ef x 7 ^^^ ef x 18 ^^^ x >>> 3
def TY(y:aA):aA:=ef y 17 ^^^ ef y 19 ^^^ y >>> 10
def bs0(x:aA):aA:=ef x 2 ^^^ ef x 13 ^^^ ef x 22
def bs1(x:aA):aA:=ef x 6 ^^^ ef x 11 ^^^ ef x 25
def chF(e f g:aA):aA:=(e &&& f) ^^^ ((~~~ e) &&& g)
def maF(a b c:aA):aA:=((a &&& b) ^^^ (a &&& c)) ^^^ (b &&& c)
def kc:List aA:=[
 0x428a2f98,0x71374491,0xb5c0fbcf,0xe9b5dba5,0x3956c25b,0x59f111f1,0x923f82a4,0xab1c5ed5,
 0xd807aa98,0x12835b01,0x243185be,0x550c7dc3,0x72be5d74,0x80deb1fe,0x9bdc06a7,0xc19bf174,
 0xe49b69c1,0xefbe4786,0x0fc19dc6,0x240ca1cc,0x2de92c6f,0x4a7484aa,0x5cb0a9dc,0x76f988da,
 0x983e5152,0xa831c66d,0xb00327c8,0xbf597fc7,0xc6e00bf3,0xd5a79147,0x06ca6351,0x14292967,
 0x27b70a85,0x2e1b2138,0x4d2c6dfc,0x53380d13,0x650a7354,0x766a0abb,0x81c2c92e,0x92722c85,
 0xa2bfe8a1,0xa81a664b,0xc24b8b70,0xc76c51a3,0xd192e819,0xd6990624,0xf40e3585,0x106aa070,
 0x19a4c116,0x1e376c08,0x2748774c,0x34b0bcb5,0x391c0cb3,0x4ed8aa4a,0x5b9cca4f,0x682e6ff3,
 0x748f82ee,0x78a5636f,0x84c87814,0x8cc70208,0x90befffa,0xa4506ceb,0xbef9a3f7,0xc67178f2]
def iv:List aA:=[0x6a09e667,0xbb67ae85,0x3c6ef372,0xa54ff53a,0x510e527f,0x9b05688c,0x1f83d9ab,0x5be0cd19]
def co(l:List aA)(i:Nat):aA:=l.getD i 0
def D1(x:UInt8):aA:=BitVec.ofNat 32 x.toNat
def Jm(a b c d:UInt8):aA:=((D1 a <<< 24 ||| D1 b <<< 16) ||| D1 c <<< 8) ||| D1 d
def XB(b:List UInt8)(i:Nat):aA:=Jm (b.getD (4*i) 0) (b.getD (4*i+1) 0) (b.getD (4*i+2) 0) (b.getD (4*i+3) 0)
def kl(b:List UInt8)(W:List aA):aA:=
 if W.length<16 then XB b W.length
 else co W (W.length-16)+U6 (co W (W.length-15))+co W (W.length-7)+TY (co W (W.length-2))
def cN(b:List UInt8):Nat->List aA
 |0=>[]
 |i+1=>cN b i++[kl b (cN b i)]
theorem dq(b:List UInt8):∀i,(cN b i).length=i
 |0=>rfl
 |i+1=>by simp[cN,dq b i]
structure S8 where
 a:aA
 b:aA
 c:aA
 d:aA
 e:aA
 f:aA
 g:aA
 h:aA
deriving DecidableEq
def S8.list(s:S8):List aA:=[s.a,s.b,s.c,s.d,s.e,s.f,s.g,s.h]
def S8.of(l:List aA):S8:=⟨co l 0,co l 1,co l 2,co l 3,co l 4,co l 5,co l 6,co l 7⟩
theorem S8.of_list(s:S8):S8.of s.list=s:=rfl
def rT(s:S8)(k w:aA):aA:=s.h+bs1 s.e+chF s.e s.f s.g+k+w
def rU(s:S8):aA:=bs0 s.a+maF s.a s.b s.c
def KD(s:S8)(k w:aA):S8:=⟨rT s k w+rU s,s.a,s.b,s.c,s.d+rT s k w,s.e,s.f,s.g⟩
def fH(W:List aA)(s:S8):Nat->S8
 |0=>s
 |i+1=>KD (fH W s i) (co kc i) (co W i)
def sS(s t:S8):S8:=⟨s.a+t.a,s.b+t.b,s.c+t.c,s.d+t.d,s.e+t.e,s.f+t.f,s.g+t.g,s.h+t.h⟩
def dw(s:S8)(b:List UInt8):S8:=sS s (fH (cN b 64) s 64)
def oa(m:List UInt8):Nat->S8
 |0=>S8.of iv
 |i+1=>dw (oa m i) ((m.drop (64*i)).take 64)
def eH(n:Nat):Nat:=(120-(n+1)%64)%64
def gK(n sh:Nat):UInt8:=UInt8.ofNat (n/2^sh)
def pb(n:Nat):List UInt8:=[gK n 56,gK n 48,gK n 40,gK n 32,gK n 24,gK n 16,gK n 8,gK n 0]
def jl(l:List UInt8):List UInt8:=l++[0x80]++List.replicate (eH l.length) 0++pb (8*l.length)
theorem qp(l:List UInt8):(jl l).length=l.length+1+eH l.length+8:=by simp[jl,pb];omega
theorem Dz(l:List UInt8):(jl l).length%64=0:=by rw[qp];unfold eH;omega
def ko(x:aA)(sh:Nat):UInt8:=UInt8.ofNat ((x >>> sh).toNat)
def cg(x:aA):List UInt8:=[ko x 24,ko x 16,ko x 8,ko x 0]
def dR(l:List UInt8):List UInt8:=(oa (jl l) ((jl l).length/64)).list.flatMap cg
theorem dB(l:List UInt8):(dR l).length=32:=by simp[dR,S8.list,cg]
def fN{α:Type}(n:Nat)(k:Nat->α):α:=match n with
 |0=>k 0
 |m+1=>k (m+1)
theorem BR{α:Type}(n:Nat)(k:Nat->α):fN n k=k n:=by cases n<;>rfl
def fW{α:Type}(x:aA)(k:aA->α):α:=fN x.toNat fun n=>k (BitVec.ofNat 32 n)
theorem lW{α:Type}(x:aA)(k:aA->α):fW x k=k x:=by unfold fW;rw[BR];simp
def ml{α:Type}(b:List UInt8):Nat->List aA->(List aA->α)->α
 |0,W,k=>k W
 |i+1,W,k=>fW (kl b W) fun x=>ml b i (W++[x]) k
theorem nF{α:Type}(b:List UInt8)(k:List aA->α):∀(i j:Nat),ml b i (cN b j) k=k (cN b (j+i))
 |0,_=>rfl
 |i+1,j=>by
  unfold ml;rw[lW];have:=nF b k i (j+1);rw[show cN b (j+1)=cN b j++[kl b (cN b j)]from rfl]at this;rw[this];congr 2;omega
def lX{α:Type}(W:List aA):Nat->Nat->S8->(S8->α)->α
 |0,_,s,k=>k s
 |n+1,i,s,k=>fW (rT s (co kc i) (co W i)) fun t=>fW (t+rU s) fun x=>fW (s.d+t) fun y=>lX W n (i+1) ⟨x,s.a,s.b,s.c,y,s.e,s.f,s.g⟩ k
theorem oX{α:Type}(W:List aA)(s:S8)(k:S8->α):∀(n i:Nat),lX W n i (fH W s i) k=k (fH W s (i+n))
 |0,_=>rfl
 |n+1,i=>by
  unfold lX;rw[lW,lW,lW];have:=oX W s k n (i+1);rw[show fH W s (i+1)=KD (fH W s i) (co kc i) (co W i)from rfl]at this;unfold KD at this;rw[this];congr 2;omega
def fS{α:Type}(s:S8)(k:S8->α):α:=fW s.a fun a=>fW s.b fun b=>fW s.c fun c=>fW s.d fun d=>fW s.e fun e=>fW s.f fun f=>fW s.g fun g=>fW s.h fun h=>k ⟨a,b,c,d,e,f,g,h⟩
theorem Jj{α:Type}(s:S8)(k:S8->α):fS s k=k s:=by unfold fS;simp only[lW]
def yO{α:Type}(s:S8)(b:List UInt8)(k:S8->α):α:=ml b 64 [] fun W=>lX W 64 0 s fun t=>fS (sS s t) k
theorem GM{α:Type}(s:S8)(b:List UInt8)(k:S8->α):yO s b k=k (dw s b):=by
 unfold yO;have h1:=nF b (fun W=>lX W 64 0 s fun t=>fS (sS s t) k) 64 0;rw[show cN b 0=[]from rfl]at h1;rw[h1];have h2:=oX (cN b (0+64)) s (fun t=>fS (sS s t) k) 64 0;rw[show fH (cN b (0+64)) s 0=s from rfl]at h2;rw[h2,Jj];rfl
end Go.Proofs.YthlkgmdkabelpaaGreat
