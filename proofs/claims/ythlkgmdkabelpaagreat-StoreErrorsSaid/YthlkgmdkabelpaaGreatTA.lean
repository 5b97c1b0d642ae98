/-
  Packed by program (tools/pack.py) out of the texts W GModel. No condition.
-/
import Derived.WalkKit
import Derived.WalkSpells
import Derived.WalkLawsBesides
import Derived.Laws.CopyOwn
import Derived.Maps.AppendAt
import Derived.Lib.Hide
set_option linter.all false
namespace Go.Proofs.YthlkgmdkabelpaaGreat
open Go Go.RowKit
abbrev Yh:=@List.length_append
abbrev Yi:=@Result.andThen_ok
abbrev Yj:=@Sem.run_bind
abbrev Yk:=@List.length_take
abbrev Yl:=@List.getElem?_eq_getElem
abbrev Ym:=@List.length_drop
abbrev Yn:=@List.getD_eq_getElem?_getD
abbrev Yo:=@List.length_set
abbrev Yp:=@Nat.eq_of_beq_eq_true
abbrev Yq:=@Nat.zero_le
abbrev Yr:=@Bool.and_eq_true
abbrev Ys:=@Sem.run_pure
abbrev Yt:=@Int.toNat_natCast
abbrev Yu:=@Classical.choose_spec
abbrev Yv:=@List.length_map
abbrev Yw:=@List.mem_cons_self
abbrev Yx:=@List.eq_nil_of_length_eq_zero
abbrev Yy:=@List.not_mem_nil
abbrev Yz:=@Nat.lt_or_ge
abbrev YA:=@List.getElem?_eq_none
abbrev YB:=@List.flatMap_cons
abbrev YC:=@Nat.beq_refl
abbrev YD:=@List.mem_cons
abbrev YE:=@Bool.false_ne_true
abbrev YF:=@List.append_assoc
abbrev YG:=@Option.map_some
abbrev YH:=@List.mem_cons_of_mem
abbrev YI:=@Nat.not_lt_zero
abbrev YJ:=@Nat.lt_succ_self
abbrev YK:=@Array.getD_eq_getD_getElem?
abbrev YL:=@List.getElem_of_mem
abbrev YM:=@List.map_cons
abbrev YN:=@List.length_singleton
abbrev YO:=@List.mem_of_getElem?
abbrev YP:=@Array.getElem?_toList
abbrev YQ:=@List.getElem?_append_right
abbrev YR:=@Bool.or_eq_true
abbrev YS:=@Array.getElem?_eq_getElem
abbrev YT:=@List.getElem?_take
abbrev YU:=@Array.length_toList
abbrev YV:=@List.drop_of_length_le
abbrev YW:=@List.map_append
abbrev YX:=@Nat.add_comm
abbrev YY:=@List.getElem?_append_left
abbrev YZ:=@Option.map_none
abbrev Y0:=@Array.getElem?_setIfInBounds_ne
abbrev Y1:=@List.getElem?_drop
abbrev Y2:=@List.drop_eq_nil_of_le
abbrev Y3:=@Nat.zero_mul
abbrev Y4:=@List.length_replicate
abbrev Y5:=@List.flatMap_append
abbrev Y6:=@Bool.not_eq_true'
abbrev Y7:=@List.getElem?_map
abbrev Y8:=@Array.getElem?_modify
abbrev Y9:=@List.map_nil
abbrev Za:=@Nat.succ_mul
abbrev Zb:=@List.ext_getElem?
abbrev Zc:=@Nat.min_eq_left
abbrev Zd:=@Option.getD_some
abbrev Ze:=@Array.toArray_toList
abbrev Zf:=@Int.ofNat_eq_natCast
abbrev Zg:=@Nat.mul_le_mul_right
abbrev Zh:=@Nat.add_sub_cancel_left
abbrev Zi:=@Nat.lt_of_lt_of_le
abbrev Zj:=@Nat.ble_eq_true_of_le
abbrev Zk:=@BitVec.toNat_ofNat
abbrev Zl:=@Nat.add_sub_cancel
abbrev Zm:=@Nat.le_succ
abbrev Zn:=@Nat.sub_zero
abbrev Zo:=@List.drop_drop
abbrev Zp:=@List.mem_append_right
abbrev Zq:=@List.take_left'
abbrev Zr:=@List.set_append_right
abbrev Zt:=@Nat.add_assoc
abbrev Zu:=@List.mem_append_left
abbrev Zv:=@List.drop_eq_getElem_cons
abbrev Zw:=@Array.getElem?_setIfInBounds_self
abbrev Zx:=@Nat.add_mul
abbrev Zy:=@List.filter_cons
abbrev Zz:=@List.all_eq_true
abbrev ZA:=@List.length_erase_of_mem
abbrev ZB:=@List.flatMap_nil
abbrev ZC:=@List.drop_left'
abbrev ZD:=@List.all_append
abbrev ZE:=@Nat.lt_trichotomy
abbrev ZF:=@List.take_append_drop
abbrev ZG:=@List.nodup_nil
abbrev ZH:=@Array.getElem?_append
abbrev ZJ:=@List.mem_of_mem_take
def bv(x:UInt8):Value:=.int .u8 (x.toNat:Int)
def ao(l:List UInt8):List Value:=l.map bv
theorem bL(l:List UInt8):(ao l).length=l.length:=by simp[ao]
def str(l:List UInt8):ByteArray:=⟨l.toArray⟩
theorem dy(l:List UInt8):(str l).size=l.length:=by simp[str,ByteArray.size]
theorem vj(l:List UInt8):(str l).toList=l:=ByteArray.toList_mk l
theorem oJ(s:ByteArray):s.data.toList.length=s.size:=Array.length_toList
structure ai(S:Nat->Prop)(w w':World):Prop where
 os:w'.os=w.os
 tape:w'.tape=w.tape
 output:w'.output=w.output
 size:w.heap.size<=w'.heap.size
 block:∀k,k<w.heap.size->¬S k->w'.heap[k]?=w.heap[k]?
def aG:Nat->Prop:=fun _=>False
def grow(S:Nat->Prop)(w w':World):Nat->Prop:=fun k=>S k\/(w.heap.size<=k/\k<w'.heap.size)
theorem ai.refl(S:Nat->Prop)(w:World):ai S w w:=⟨rfl,rfl,rfl,Nat.le_refl _,fun _ _ _=>rfl⟩
theorem ai.mono{S T:Nat->Prop}{w w':World}(h:ai S w w')(hst:∀k,k<w.heap.size->S k->T k):ai T w w':=
 ⟨h.os,h.tape,h.output,h.size,fun k hk hn=>h.block k hk (fun hs=>hn (hst k hk hs))⟩
theorem ai.trans'{S T:Nat->Prop}{a b c:World}(h:ai S a b)(k:ai T b c)(ht:∀k,k<a.heap.size->T k->S k):ai S a c:=
 ⟨k.os.trans h.os,k.tape.trans h.tape,k.output.trans h.output,Nat.le_trans h.size k.size,fun i hi hn=>(k.block i (Nat.lt_of_lt_of_le hi h.size) (fun x=>hn (ht i hi x))).trans (h.block i hi hn)⟩
theorem ai.trans{S:Nat->Prop}{a b c:World}(h:ai S a b)(k:ai S b c):ai S a c:=h.trans' k (fun _ _ h=>h)
theorem ai.alloc{S:Nat->Prop}{a w:World}(h:ai S a w)(o:Obj):ai S a (w.alloc o):=
 h.trans ⟨rfl,rfl,rfl,by simp,fun k hk _=>Below.heap_alloc _ _ _ hk⟩
theorem ai.drew{S:Nat->Prop}{a w:World}(h:ai S a w):ai S a w.drew:=⟨h.os,h.tape,h.output,h.size,h.block⟩
theorem ai.setCell{S:Nat->Prop}{a w:World}(h:ai S a w){p:Addr}(hp:p.block<a.heap.size->S p.block)(u:Value):ai S a (w.setCell p u):=
 ⟨h.os,h.tape,h.output,by simpa[World.setCell]using h.size,fun k hk hn=>by
  rw[Below.heap_setCell _ _ _ _ (fun e=>by subst e;exact hn (hp hk))];exact h.block k hk hn⟩
theorem ai.grown{S:Nat->Prop}{a w w':World}{row:Option Nat}(h:ai S a w)(hg:w.grownBy w' row)(hr:∀k,row=some k->k<a.heap.size->S k):ai S a w':=
 h.trans' (T:=fun k=>row=some k) ⟨hg.os,hg.tape,hg.output,hg.size,fun k hk hn=>hg.block k hk (fun e=>hn e.symm)⟩ (fun k hk e=>hr k e hk)
theorem ai.below{S:Nat->Prop}{w w':World}{B:Nat}(h:ai S w w')(hB:B<=w.heap.size)(hS:∀k,k<B->¬S k):Below B w w':=
 ⟨h.os,h.tape,h.output,h.size,fun k hk=>h.block k (Nat.lt_of_lt_of_le hk hB) (hS k hk)⟩
theorem ai.cell{S:Nat->Prop}{w w':World}(h:ai S w w'){p:Addr}{v:Value}(hv:w.cell? p=some v)(hs:¬S p.block):w'.cell? p=some v:=by
 rw[World.cell?_of_block (h.block _ (World.block_lt_of_cell? w p hv) hs)];exact hv
theorem ai.heap{S:Nat->Prop}{w w':World}(h:ai S w w'){k:Nat}{o:Obj}(hv:w.heap[k]?=some o)(hs:¬S k):w'.heap[k]?=some o:=by
 rw[h.block _ (Array.getElem?_eq_some_iff.1 hv).1 hs];exact hv
theorem eU{w:World}{k:Nat}{o:Obj}(h:w.heap[k]?=some o):k<w.heap.size:=(Array.getElem?_eq_some_iff.1 h).1
theorem aY{w:World}{b:Nat}{cs:Array Value}{t:TypeId}{f:Nat×Nat}(h:w.heap[b]?=some (.cells cs t f))(i:Nat):w.cell? ⟨b,i,none⟩=cs[i]?:=by
 simp[World.cell?,h]
theorem dB{w:World}{b:Nat}{cs:Array Value}{t:TypeId}(h:w.heap[b]?=some (.cells cs t (0,0)))(i:Nat):w.frozen? ⟨b,i,none⟩=false:=by
 simp[World.frozen?,h]
theorem dO{w:World}{b i:Nat}{cs:Array Value}{t:TypeId}{v:Value}(h:w.heap[b]?=some (.cells cs t (0,0))):(w.setCell ⟨b,i,none⟩ v).heap[b]?=some (.cells (cs.setIfInBounds i v) t (0,0)):=
 heap_setCell_same w b i cs t v h
theorem bi{w:World}{o:Obj}:(w.alloc o).heap[w.heap.size]?=some o:=by
 show(w.heap.push o)[w.heap.size]?=_;simp
theorem ss{g o n c k:Nat}{s:Option Nat}:(Value.slice (some ⟨g,o,s⟩) n c).ownBlock=some k↔k=g:=by
 simp only[Value.ownBlock,Option.some.injEq];exact eq_comm
theorem zt{w w':World}{base:Nat}{e:TypeId}{size:Nat}{v:Value}{n:Nat}{xs:List Value}(h:w.ownsRow base e size v n xs)(hb:∀k,v.ownBlock=some k->w'.heap[k]?=w.heap[k]?):w'.ownsRow base e size v n xs:=by
 refine⟨h.1,?_⟩;rcases h.2 with hn|⟨g,cap,cur,rfl,hbg,hg,rest⟩
 ·exact .inl hn
 exact .inr ⟨g,cap,cur,rfl,hbg,by rw[hb g rfl];exact hg,rest⟩
theorem ai.owns{S:Nat->Prop}{w w':World}{base:Nat}{e:TypeId}{size:Nat}{v:Value}{n:Nat}{xs:List Value}(hk:ai S w w')(h:w.ownsRow base e size v n xs)(hs:∀k,v.ownBlock=some k->¬S k):w'.ownsRow base e size v n xs:=
 zt h fun k e=>hk.block k (h.lt k e).2 (hs k e)
theorem bI(g o j:Nat):(⟨g,o,none⟩:Addr).add j=⟨g,o+j,none⟩:=by
 simp only[Addr.add];split
 ·simp
 rfl
theorem FV{w:World}{base e:Nat}{o:Option Addr}{n m cap:Nat}{xs:List Value}(h:w.ownsRow base e 1 (.slice o n cap) m xs)(g:Addr)(hg:o=some g)(j:Nat)(v:Value)(hv:xs[j]?=some v):w.cell? (g.add j)=some v:=by
 subst hg;rcases h.2 with⟨h0,_⟩|⟨g',cap',cur,h0,hb,hh,r⟩
 ·cases h0
 simp only[Value.slice.injEq,Option.some.injEq]at h0;obtain⟨rfl,rfl,rfl⟩:=h0;exact h.cells (g:=g') rfl j v hv
theorem iF(l:List UInt8):∀v∈ao l,v.oneCell'=true:=by
 intro v hv;simp only[ao,List.mem_map]at hv;obtain⟨x,_,rfl⟩:=hv;rfl
theorem m4(a b:List UInt8):ao (a++b)=ao a++ao b:=by simp[ao]
theorem Hh(n:Nat):(madeCells (Value.int .u8 0).cells n).toList=ao (List.replicate n 0):=by
 have:(Value.int .u8 0).cells=#[.int .u8 0]:=rfl;rw[this,toList_madeCells_one];simp[ao,bv]
theorem CJ(l:List UInt8)(a b:Nat):(str l).extract a b=str ((l.drop a).take (b-a)):=ByteArray.extract_mk l a b
theorem zm{P:Program}(t:TypeId)(hu:P.underlying t=some .string)(l:List UInt8)(k k':IntKind)(m n:Nat)(hm:m<=n)(h:n<=l.length)(w:World) :
 (Instr.slice t (.string (str l)) (some (.int k (m:Int))) (some (.int k' (n:Int))) none).run P w=.ok (.string (str ((l.drop m).take (n-m)))) w:=by
 have hs:=dy l;have hle:(n:Int)<=l.length:=by omega
 have hle2:(m:Int)<=n:=by omega
 simp[Instr.slice,run_underlying hu,Instr.sliceBounds,Instr.sliceBound,asIntOf,hs,CJ,h,hm,Sem.run_bind]
theorem ig(a b:List UInt8):str a++str b=str (a++b):=ByteArray.mk_append_mk a b
theorem Da{P:Program}(a b:List UInt8)(h:a.length+b.length<=9223372036854775807)(w:World):(Op.stringOp .add (str a) (str b)).run P w=.ok (.string (str (a++b))) w:=by
 rw[run_string_add_sum w (str a) (str b) (by rw[dy,dy];exact h),ig]
section copy
variable {P:Program}
theorem z7(w:World)(dT sT ty elem:TypeId)(g off dLen dCap:Nat)(src:Value)(n:Nat)(cur:Array Value)(t:TypeId)(cs:List Value)
 (hu:P.underlying dT=some (.slice elem)) (hs:(P.info? elem).map (·.size)=some 1) (hg:w.heap[g]?=some (.cells cur t (0,0)))
 (hlen:(Builtin.lenOf src).run P w=.ok n w) (hfirst:(Builtin.firstCells 1 (Nat.min n dLen) src).run P w=.ok cs.toArray w)
 (hn:cs.length=Nat.min n dLen) (hfit:off+cs.length<=cur.size) (h1:∀v∈cs,v.oneCell'=true) :
 (Builtin.copy_ #[dT,sT] ty #[.slice (some ⟨g,off,none⟩) dLen dCap,src]).run P w =
  .ok (goInt cs.length) (w.setRow g (cur.toList.take off++cs++cur.toList.drop (off+cs.length)).toArray):=by
 have hst:=run_storeCells_at P g off t cs 0 cur w hg (by simpa using hfit) h1;cases hq:P.info? elem with
 |none=>simp[hq]at hs
 |some i=>
  have hi:i.size=1:=by simpa[hq]using hs
  rw[<-hn]at hfirst
  simp[Builtin.copy_,run_underlying hu,hlen,sizeOf,typeInfo,hq,hi,<-hn,hfirst,hst]
def lD(w:World)(src:Value)(n:Nat)(cs:List Value):Prop:=
 (∃s:ByteArray,src=.string s/\n=s.size/\∃k,cs=(ao s.data.toList).take k) \/
 (∃(sp:Option Addr) (c:Nat),src=.slice sp n c/\(0<cs.length->∃ad,sp=some ad/\∀j v,cs[j]?=some v->w.cell? (ad.add j)=some v))
theorem lD.run{w:World}{src:Value}{n k:Nat}{cs:List Value}(h:lD w src n cs)(hk:cs.length=Nat.min n k) :
 (Builtin.lenOf src).run P w=.ok n w/\(Builtin.firstCells 1 cs.length src).run P w=.ok cs.toArray w:=by
 rcases h with⟨s,rfl,rfl,j,rfl⟩|⟨sp,c,rfl,h⟩
 ·refine⟨by simp[Builtin.lenOf],?_⟩;simp only[Builtin.firstCells,ao,List.length_take,List.length_map,Array.length_toList,Sem.run_pure];congr 1;apply Array.ext';simp only[Array.toList_map,ByteArray.data_extract,Array.toList_extract,List.extract_eq_take_drop,Nat.sub_zero,List.drop_zero,List.map_take];change List.take (min j s.data.size) (List.map bv s.data.toList)=List.take j (List.map bv s.data.toList);rw[List.take_eq_take_iff];simp only[List.length_map,Array.length_toList];omega
 refine⟨by simp[Builtin.lenOf],?_⟩;by_cases h0:cs.length=0
 ·obtain rfl:cs=[]:=List.eq_nil_of_length_eq_zero h0;cases sp with
  |none=>simp[Builtin.firstCells]
  |some a=>simp[Builtin.firstCells,loadCells,loadCellsFrom]
 obtain⟨ad,rfl,hc⟩:=h (by omega);have hl:=run_loadCells_list (P:=P) w ad cs hc;simp[Builtin.firstCells,hl]
theorem lD.of_owns{w:World}{base e:Nat}{o:Option Addr}{n c:Nat}{xs:List Value}(h:w.ownsRow base e 1 (.slice o n c) n xs):lD w (.slice o n c) n xs:=by
 refine .inr ⟨o,c,rfl,fun hp=>?_⟩;have hx:=h.1;simp only[Nat.mul_one]at hx;rcases h.2 with⟨h0,rfl⟩|⟨g,cap',cur,h0,_⟩
 ·omega
 simp only[Value.slice.injEq]at h0;obtain⟨rfl,_⟩:=h0;exact⟨_,rfl,fun j v hv=>FV h _ rfl j v hv⟩
theorem lD.of_str(w:World)(s:ByteArray):lD w (.string s) s.size (ao s.data.toList):=
 .inl ⟨s,rfl,rfl,s.data.toList.length,by rw[List.take_of_length_le (by simp[ao])]⟩
end copy
theorem mQ{P:Program}(w:World)(src dst e:TypeId)(a:Option Addr)(n cap:Nat)(l:List UInt8)(hs:P.underlying src=some (.slice e))(he:P.underlying e=some (.int .u8))(hd:P.underlying dst=some .string)
 (hn:n=l.length) (hc:0<l.length->∃ad,a=some ad/\∀j (hj:j<l.length),w.cell? (ad.add j)=some (bv l[j])) :
 (convert src dst (.slice a n cap)).run P w=.ok (.string (str l)) w:=by
 subst hn;by_cases h0:l.length=0
 ·obtain rfl:l=[]:=List.eq_nil_of_length_eq_zero h0;cases a with
  |none=>rw[run_convert_bytes_string w src dst e none _ cap hs he hd];rfl
  |some ad=>exact run_convert_bytes_back w src dst e ad cap [] hs he hd (fun j hj=>by simp at hj)
 obtain⟨ad,had,hx⟩:=hc (by omega);subst had;clear hc;exact run_convert_bytes_back w src dst e ad cap l hs he hd hx
abbrev aw:=BitVec 32
def dL(x:aw)(n:Nat):aw:=(x >>> n) ||| (x <<< (32-n))
def QM(x:aw):aw:=dL x 7 ^^^ dL x 18 ^^^ x >>> 3
def Q9(y:aw):aw:=dL y 17 ^^^ dL y 19 ^^^ y >>> 10
def Wz(x:aw):aw:=dL x 2 ^^^ dL x 13 ^^^ dL x 22
def WK(x:aw):aw:=dL x 6 ^^^ dL x 11 ^^^ dL x 25
def Ya(e f g:aw):aw:=(e &&& f) ^^^ ((~~~ e) &&& g)
def XP(a b c:aw):aw:=((a &&& b) ^^^ (a &&& c)) ^^^ (b &&& c)
def kc:List aw:=[
 0x428a2f98,0x71374491,0xb5c0fbcf,0xe9b5dba5,0x3956c25b,0x59f111f1,0x923f82a4,0xab1c5ed5,
 0xd807aa98,0x12835b01,0x243185be,0x550c7dc3,0x72be5d74,0x80deb1fe,0x9bdc06a7,0xc19bf174,
 0xe49b69c1,0xefbe4786,0x0fc19dc6,0x240ca1cc,0x2de92c6f,0x4a7484aa,0x5cb0a9dc,0x76f988da,
 0x983e5152,0xa831c66d,0xb00327c8,0xbf597fc7,0xc6e00bf3,0xd5a79147,0x06ca6351,0x14292967,
 0x27b70a85,0x2e1b2138,0x4d2c6dfc,0x53380d13,0x650a7354,0x766a0abb,0x81c2c92e,0x92722c85,
 0xa2bfe8a1,0xa81a664b,0xc24b8b70,0xc76c51a3,0xd192e819,0xd6990624,0xf40e3585,0x106aa070,
 0x19a4c116,0x1e376c08,0x2748774c,0x34b0bcb5,0x391c0cb3,0x4ed8aa4a,0x5b9cca4f,0x682e6ff3,
 0x748f82ee,0x78a5636f,0x84c87814,0x8cc70208,0x90befffa,0xa4506ceb,0xbef9a3f7,0xc67178f2]
def iv:List aw:=[0x6a09e667,0xbb67ae85,0x3c6ef372,0xa54ff53a,0x510e527f,0x9b05688c,0x1f83d9ab,0x5be0cd19]
def bV(l:List aw)(i:Nat):aw:=l.getD i 0
def Bm(x:UInt8):aw:=BitVec.ofNat 32 x.toNat
def FN(a b c d:UInt8):aw:=((Bm a <<< 24 ||| Bm b <<< 16) ||| Bm c <<< 8) ||| Bm d
def SS(b:List UInt8)(i:Nat):aw:=FN (b.getD (4*i) 0) (b.getD (4*i+1) 0) (b.getD (4*i+2) 0) (b.getD (4*i+3) 0)
def jv(b:List UInt8)(W:List aw):aw:=
 if W.length<16 then SS b W.length
 else bV W (W.length-16)+QM (bV W (W.length-15))+bV W (W.length-7)+Q9 (bV W (W.length-2))
def cD(b:List UInt8):Nat->List aw
 |0=>[]
 |i+1=>cD b i++[jv b (cD b i)]
theorem db(b:List UInt8):∀i,(cD b i).length=i
 |0=>rfl
 |i+1=>by simp[cD,db b i]
structure S8 where
 a:aw
 b:aw
 c:aw
 d:aw
 e:aw
 f:aw
 g:aw
 h:aw
deriving DecidableEq
def S8.list(s:S8):List aw:=[s.a,s.b,s.c,s.d,s.e,s.f,s.g,s.h]
def S8.of(l:List aw):S8:=⟨bV l 0,bV l 1,bV l 2,bV l 3,bV l 4,bV l 5,bV l 6,bV l 7⟩
theorem S8.of_list(s:S8):S8.of s.list=s:=rfl
def rT(s:S8)(k w:aw):aw:=s.h+WK s.e+Ya s.e s.f s.g+k+w
def rU(s:S8):aw:=Wz s.a+XP s.a s.b s.c
def IO(s:S8)(k w:aw):S8:=⟨rT s k w+rU s,s.a,s.b,s.c,s.d+rT s k w,s.e,s.f,s.g⟩
def e9(W:List aw)(s:S8):Nat->S8
 |0=>s
 |i+1=>IO (e9 W s i) (bV kc i) (bV W i)
def pY(s t:S8):S8:=⟨s.a+t.a,s.b+t.b,s.c+t.c,s.d+t.d,s.e+t.e,s.f+t.f,s.g+t.g,s.h+t.h⟩
def dc(s:S8)(b:List UInt8):S8:=pY s (e9 (cD b 64) s 64)
def mX(m:List UInt8):Nat->S8
 |0=>S8.of iv
 |i+1=>dc (mX m i) ((m.drop (64*i)).take 64)
def dR(n:Nat):Nat:=(120-(n+1)%64)%64
def gj(n sh:Nat):UInt8:=UInt8.ofNat (n/2^sh)
def og(n:Nat):List UInt8:=[gj n 56,gj n 48,gj n 40,gj n 32,gj n 24,gj n 16,gj n 8,gj n 0]
def iJ(l:List UInt8):List UInt8:=l++[0x80]++List.replicate (dR l.length) 0++og (8*l.length)
theorem o9(l:List UInt8):(iJ l).length=l.length+1+dR l.length+8:=by simp[iJ,og];omega
theorem zZ(l:List UInt8):(iJ l).length%64=0:=by rw[o9];unfold dR;omega
def jy(x:aw)(sh:Nat):UInt8:=UInt8.ofNat ((x >>> sh).toNat)
def bR(x:aw):List UInt8:=[jy x 24,jy x 16,jy x 8,jy x 0]
def dz(l:List UInt8):List UInt8:=(mX (iJ l) ((iJ l).length/64)).list.flatMap bR
theorem dr(l:List UInt8):(dz l).length=32:=by simp[dz,S8.list,bR]
def fN{α:Type}(n:Nat)(k:Nat->α):α:=match n with
 |0=>k 0
 |m+1=>k (m+1)
theorem zQ{α:Type}(n:Nat)(k:Nat->α):fN n k=k n:=by cases n<;>rfl
def fW{α:Type}(x:aw)(k:aw->α):α:=fN x.toNat fun n=>k (BitVec.ofNat 32 n)
theorem kW{α:Type}(x:aw)(k:aw->α):fW x k=k x:=by unfold fW;rw[zQ];simp
def kT{α:Type}(b:List UInt8):Nat->List aw->(List aw->α)->α
 |0,W,k=>k W
 |i+1,W,k=>fW (jv b W) fun x=>kT b i (W++[x]) k
theorem mt{α:Type}(b:List UInt8)(k:List aw->α):∀(i j:Nat),kT b i (cD b j) k=k (cD b (j+i))
 |0,_=>rfl
 |i+1,j=>by
  unfold kT;rw[kW];have:=mt b k i (j+1);rw[show cD b (j+1)=cD b j++[jv b (cD b j)]from rfl]at this;rw[this];congr 2;omega
def kS{α:Type}(W:List aw):Nat->Nat->S8->(S8->α)->α
 |0,_,s,k=>k s
 |n+1,i,s,k=>fW (rT s (bV kc i) (bV W i)) fun t=>fW (t+rU s) fun x=>fW (s.d+t) fun y=>kS W n (i+1) ⟨x,s.a,s.b,s.c,y,s.e,s.f,s.g⟩ k
theorem nZ{α:Type}(W:List aw)(s:S8)(k:S8->α):∀(n i:Nat),kS W n i (e9 W s i) k=k (e9 W s (i+n))
 |0,_=>rfl
 |n+1,i=>by
  unfold kS;rw[kW,kW,kW];have:=nZ W s k n (i+1);rw[show e9 W s (i+1)=IO (e9 W s i) (bV kc i) (bV W i)from rfl]at this;unfold IO at this;rw[this];congr 2;omega
def fS{α:Type}(s:S8)(k:S8->α):α:=fW s.a fun a=>fW s.b fun b=>fW s.c fun c=>fW s.d fun d=>fW s.e fun e=>fW s.f fun f=>fW s.g fun g=>fW s.h fun h=>k ⟨a,b,c,d,e,f,g,h⟩
theorem ET{α:Type}(s:S8)(k:S8->α):fS s k=k s:=by unfold fS;simp only[kW]
def xq{α:Type}(s:S8)(b:List UInt8)(k:S8->α):α:=kT b 64 [] fun W=>kS W 64 0 s fun t=>fS (pY s t) k
theorem Dz{α:Type}(s:S8)(b:List UInt8)(k:S8->α):xq s b k=k (dc s b):=by
 unfold xq;have h1:=mt b (fun W=>kS W 64 0 s fun t=>fS (pY s t) k) 64 0;rw[show cD b 0=[]from rfl]at h1;rw[h1];have h2:=nZ (cD b (0+64)) s (fun t=>fS (pY s t) k) 64 0;rw[show e9 (cD b (0+64)) s 0=s from rfl]at h2;rw[h2,ET];rfl
end Go.Proofs.YthlkgmdkabelpaaGreat
