/-
  Packed by program (tools/pack.py) out of the texts W GModel. No condition.
-/
import Derived.WalkKit
import Derived.WalkSpells
import Derived.WalkLawsBesides
import Derived.Laws.CopyOwn
import Derived.Maps.AppendAt
import Derived.Lib.Hide
set_option linter.all false
namespace Go.Proofs.YthlkgmdkabelpaaGreat
open Go Go.RowKit
abbrev ZM:=@List.length_append
abbrev ZN:=@Result.andThen_ok
abbrev ZO:=@Sem.run_bind
abbrev ZP:=@List.getElem?_eq_getElem
abbrev ZQ:=@Classical.choose_spec
abbrev ZR:=@List.length_take
abbrev ZS:=@List.not_mem_nil
abbrev ZT:=@Nat.eq_of_beq_eq_true
abbrev ZU:=@List.mem_cons
abbrev ZV:=@List.length_drop
abbrev ZW:=@Option.map_some
abbrev ZX:=@Bool.and_eq_true
abbrev ZY:=@Nat.beq_refl
abbrev Z0:=@Sem.run_pure
abbrev Z3:=@Nat.zero_le
abbrev Z5:=@List.drop_eq_nil_of_le
abbrev Z6:=@Option.map_none
abbrev Z7:=@List.append_assoc
abbrev Z8:=@List.flatMap_cons
abbrev Z9:=@List.all_append
abbrev aaa:=@Nat.lt_or_ge
abbrev aab:=@Nat.zero_mul
abbrev aac:=@List.drop_eq_getElem_cons
abbrev aad:=@Nat.sub_zero
abbrev aae:=@List.getElem?_eq_none
abbrev aaf:=@List.mem_cons_self
abbrev aag:=@Bool.false_ne_true
abbrev aah:=@Array.getD_eq_getD_getElem?
abbrev aai:=@Nat.min_eq_left
abbrev aaj:=@List.getElem?_take
abbrev aak:=@Nat.mul_one
abbrev aal:=@List.mem_cons_of_mem
abbrev aam:=@List.getD_eq_getElem?_getD
abbrev aan:=@Nat.lt_succ_self
abbrev aao:=@List.ext_getElem?
abbrev aap:=@List.flatMap_append
abbrev aaq:=@List.length_map
abbrev aar:=@Array.getElem?_toList
abbrev aas:=@List.getElem?_drop
abbrev aat:=@Bool.or_eq_true
abbrev aau:=@Nat.add_comm
abbrev aav:=@Array.getElem?_eq_getElem
abbrev aaw:=@Array.length_toList
abbrev aax:=@List.getElem?_append
abbrev aay:=@List.getElem_mem
abbrev aaz:=@List.getElem?_append_right
abbrev aaA:=@Nat.add_sub_cancel
abbrev aaB:=@List.getElem?_append_left
abbrev aaC:=@List.mem_of_getElem?
abbrev aaD:=@Array.getElem?_setIfInBounds_ne
abbrev aaE:=@Bool.not_eq_true'
abbrev aaF:=@Int.toNat_natCast
abbrev aaG:=@List.map_cons
abbrev aaH:=@Array.getElem?_modify
abbrev aaI:=@List.map_append
abbrev aaJ:=@Option.getD_some
abbrev aaK:=@Array.toArray_toList
abbrev aaL:=@Int.ofNat_eq_natCast
abbrev aaM:=@Nat.add_sub_cancel_left
abbrev aaN:=@Nat.not_lt_zero
abbrev aaO:=@Nat.succ_mul
abbrev aaP:=@List.take_succ_eq_append_getElem
abbrev aaQ:=@BitVec.toNat_ofNat
abbrev aaR:=@List.foldl_cons
abbrev aaS:=@List.drop_left'
abbrev aaT:=@List.length_set
abbrev aaU:=@List.getElem?_map
abbrev aaV:=@List.filter_cons
abbrev aaW:=@Option.getD_none
abbrev aaX:=@Nat.le_succ
abbrev aaY:=@Nat.lt_of_lt_of_le
abbrev aaZ:=@List.length_replicate
abbrev aa0:=@Int.tdiv_eq_ediv_of_nonneg
abbrev aa1:=@Array.getElem?_setIfInBounds_self
abbrev aa2:=@List.nodup_nil
abbrev aa3:=@List.all_eq_true
abbrev aa4:=@Nat.lt_trans
abbrev aa5:=@Nat.add_assoc
abbrev aa6:=@List.set_cons_zero
abbrev aa7:=@List.take_left'
abbrev aa8:=@List.any_eq_false
abbrev aa9:=@List.take_append_drop
abbrev aba:=@Array.getElem?_append
abbrev abb:=@Nat.mul_le_mul_right
abbrev abc:=@Bool.or_eq_false_iff
abbrev abd:=@List.flatMap_nil
def bv(x:UInt8):Value:=.int .u8 (x.toNat:Int)
def aF(l:List UInt8):List Value:=l.map bv
theorem bK(l:List UInt8):(aF l).length=l.length:=by simp[aF]
def str(l:List UInt8):ByteArray:=⟨l.toArray⟩
theorem fu(l:List UInt8):(str l).size=l.length:=by simp[str,ByteArray.size]
theorem xM(l:List UInt8):(str l).toList=l:=ByteArray.toList_mk l
theorem pg(s:ByteArray):s.data.toList.length=s.size:=Array.length_toList
structure aK(S:Nat->Prop)(w w':World):Prop where
 os:w'.os=w.os
 tape:w'.tape=w.tape
 output:w'.output=w.output
 size:w.heap.size<=w'.heap.size
 block:∀k,k<w.heap.size->¬S k->w'.heap[k]?=w.heap[k]?
def bY:Nat->Prop:=fun _=>False
def grow(S:Nat->Prop)(w w':World):Nat->Prop:=fun k=>S k\/(w.heap.size<=k/\k<w'.heap.size)
theorem aK.refl(S:Nat->Prop)(w:World):aK S w w:=⟨rfl,rfl,rfl,Nat.le_refl _,fun _ _ _=>rfl⟩
theorem aK.mono{S T:Nat->Prop}{w w':World}(h:aK S w w')(hst:∀k,k<w.heap.size->S k->T k):aK T w w':=
 ⟨h.os,h.tape,h.output,h.size,fun k hk hn=>h.block k hk (fun hs=>hn (hst k hk hs))⟩
theorem aK.trans'{S T:Nat->Prop}{a b c:World}(h:aK S a b)(k:aK T b c)(ht:∀k,k<a.heap.size->T k->S k):aK S a c:=
 ⟨k.os.trans h.os,k.tape.trans h.tape,k.output.trans h.output,Nat.le_trans h.size k.size,fun i hi hn=>(k.block i (Nat.lt_of_lt_of_le hi h.size) (fun x=>hn (ht i hi x))).trans (h.block i hi hn)⟩
theorem aK.trans{S:Nat->Prop}{a b c:World}(h:aK S a b)(k:aK S b c):aK S a c:=h.trans' k (fun _ _ h=>h)
theorem aK.alloc{S:Nat->Prop}{a w:World}(h:aK S a w)(o:Obj):aK S a (w.alloc o):=
 h.trans ⟨rfl,rfl,rfl,by simp,fun k hk _=>Below.heap_alloc _ _ _ hk⟩
theorem aK.drew{S:Nat->Prop}{a w:World}(h:aK S a w):aK S a w.drew:=⟨h.os,h.tape,h.output,h.size,h.block⟩
theorem aK.setCell{S:Nat->Prop}{a w:World}(h:aK S a w){p:Addr}(hp:p.block<a.heap.size->S p.block)(u:Value):aK S a (w.setCell p u):=
 ⟨h.os,h.tape,h.output,by simpa[World.setCell]using h.size,fun k hk hn=>by
  rw[Below.heap_setCell _ _ _ _ (fun e=>by subst e;exact hn (hp hk))];exact h.block k hk hn⟩
theorem aK.grown{S:Nat->Prop}{a w w':World}{row:Option Nat}(h:aK S a w)(hg:w.grownBy w' row)(hr:∀k,row=some k->k<a.heap.size->S k):aK S a w':=
 h.trans' (T:=fun k=>row=some k) ⟨hg.os,hg.tape,hg.output,hg.size,fun k hk hn=>hg.block k hk (fun e=>hn e.symm)⟩ (fun k hk e=>hr k e hk)
theorem aK.below{S:Nat->Prop}{w w':World}{B:Nat}(h:aK S w w')(hB:B<=w.heap.size)(hS:∀k,k<B->¬S k):Below B w w':=
 ⟨h.os,h.tape,h.output,h.size,fun k hk=>h.block k (Nat.lt_of_lt_of_le hk hB) (hS k hk)⟩
theorem aK.cell{S:Nat->Prop}{w w':World}(h:aK S w w'){p:Addr}{v:Value}(hv:w.cell? p=some v)(hs:¬S p.block):w'.cell? p=some v:=by
 rw[World.cell?_of_block (h.block _ (World.block_lt_of_cell? w p hv) hs)];exact hv
theorem aK.heap{S:Nat->Prop}{w w':World}(h:aK S w w'){k:Nat}{o:Obj}(hv:w.heap[k]?=some o)(hs:¬S k):w'.heap[k]?=some o:=by
 rw[h.block _ (Array.getElem?_eq_some_iff.1 hv).1 hs];exact hv
theorem gg{w:World}{k:Nat}{o:Obj}(h:w.heap[k]?=some o):k<w.heap.size:=(Array.getElem?_eq_some_iff.1 h).1
theorem cB{w:World}{b:Nat}{cs:Array Value}{t:TypeId}{f:Nat×Nat}(h:w.heap[b]?=some (.cells cs t f))(i:Nat):w.cell? ⟨b,i,none⟩=cs[i]?:=by
 simp[World.cell?,h]
theorem eO{w:World}{b:Nat}{cs:Array Value}{t:TypeId}(h:w.heap[b]?=some (.cells cs t (0,0)))(i:Nat):w.frozen? ⟨b,i,none⟩=false:=by
 simp[World.frozen?,h]
theorem ft{w:World}{b i:Nat}{cs:Array Value}{t:TypeId}{v:Value}(h:w.heap[b]?=some (.cells cs t (0,0))):(w.setCell ⟨b,i,none⟩ v).heap[b]?=some (.cells (cs.setIfInBounds i v) t (0,0)):=
 heap_setCell_same w b i cs t v h
theorem cC{w:World}{o:Obj}:(w.alloc o).heap[w.heap.size]?=some o:=by
 show(w.heap.push o)[w.heap.size]?=_;simp
theorem uu{g o n c k:Nat}{s:Option Nat}:(Value.slice (some ⟨g,o,s⟩) n c).ownBlock=some k↔k=g:=by
 simp only[Value.ownBlock,Option.some.injEq];exact eq_comm
theorem Av{w w':World}{base:Nat}{e:TypeId}{size:Nat}{v:Value}{n:Nat}{xs:List Value}(h:w.ownsRow base e size v n xs)(hb:∀k,v.ownBlock=some k->w'.heap[k]?=w.heap[k]?):w'.ownsRow base e size v n xs:=by
 refine⟨h.1,?_⟩;rcases h.2 with hn|⟨g,cap,cur,rfl,hbg,hg,rest⟩
 ·exact .inl hn
 exact .inr ⟨g,cap,cur,rfl,hbg,by rw[hb g rfl];exact hg,rest⟩
theorem aK.owns{S:Nat->Prop}{w w':World}{base:Nat}{e:TypeId}{size:Nat}{v:Value}{n:Nat}{xs:List Value}(hk:aK S w w')(h:w.ownsRow base e size v n xs)(hs:∀k,v.ownBlock=some k->¬S k):w'.ownsRow base e size v n xs:=
 Av h fun k e=>hk.block k (h.lt k e).2 (hs k e)
theorem dc(g o j:Nat):(⟨g,o,none⟩:Addr).add j=⟨g,o+j,none⟩:=by
 simp only[Addr.add];split
 ·simp
 rfl
theorem GL{w:World}{base e:Nat}{o:Option Addr}{n m cap:Nat}{xs:List Value}(h:w.ownsRow base e 1 (.slice o n cap) m xs)(g:Addr)(hg:o=some g)(j:Nat)(v:Value)(hv:xs[j]?=some v):w.cell? (g.add j)=some v:=by
 subst hg;rcases h.2 with⟨h0,_⟩|⟨g',cap',cur,h0,hb,hh,r⟩
 ·cases h0
 simp only[Value.slice.injEq,Option.some.injEq]at h0;obtain⟨rfl,rfl,rfl⟩:=h0;exact h.cells (g:=g') rfl j v hv
theorem jA(l:List UInt8):∀v∈aF l,v.oneCell'=true:=by
 intro v hv;simp only[aF,List.mem_map]at hv;obtain⟨x,_,rfl⟩:=hv;rfl
theorem oh(a b:List UInt8):aF (a++b)=aF a++aF b:=by simp[aF]
theorem JG(n:Nat):(madeCells (Value.int .u8 0).cells n).toList=aF (List.replicate n 0):=by
 have:(Value.int .u8 0).cells=#[.int .u8 0]:=rfl;rw[this,toList_madeCells_one];simp[aF,bv]
theorem D5(l:List UInt8)(a b:Nat):(str l).extract a b=str ((l.drop a).take (b-a)):=ByteArray.extract_mk l a b
theorem Au{P:Program}(t:TypeId)(hu:P.underlying t=some .string)(l:List UInt8)(k k':IntKind)(m n:Nat)(hm:m<=n)(h:n<=l.length)(w:World) :
 (Instr.slice t (.string (str l)) (some (.int k (m:Int))) (some (.int k' (n:Int))) none).run P w=.ok (.string (str ((l.drop m).take (n-m)))) w:=by
 have hs:=fu l;have hle:(n:Int)<=l.length:=by omega
 have hle2:(m:Int)<=n:=by omega
 simp[Instr.slice,run_underlying hu,Instr.sliceBounds,Instr.sliceBound,asIntOf,hs,D5,h,hm,Sem.run_bind]
theorem kG(a b:List UInt8):str a++str b=str (a++b):=ByteArray.mk_append_mk a b
theorem DY{P:Program}(a b:List UInt8)(h:a.length+b.length<=9223372036854775807)(w:World):(Op.stringOp .add (str a) (str b)).run P w=.ok (.string (str (a++b))) w:=by
 rw[run_string_add_sum w (str a) (str b) (by rw[fu,fu];exact h),kG]
section copy
variable {P:Program}
theorem Dn(w:World)(dT sT ty elem:TypeId)(g off dLen dCap:Nat)(src:Value)(n:Nat)(cur:Array Value)(t:TypeId)(cs:List Value)
 (hu:P.underlying dT=some (.slice elem)) (hs:(P.info? elem).map (·.size)=some 1) (hg:w.heap[g]?=some (.cells cur t (0,0)))
 (hlen:(Builtin.lenOf src).run P w=.ok n w) (hfirst:(Builtin.firstCells 1 (Nat.min n dLen) src).run P w=.ok cs.toArray w)
 (hn:cs.length=Nat.min n dLen) (hfit:off+cs.length<=cur.size) (h1:∀v∈cs,v.oneCell'=true) :
 (Builtin.copy_ #[dT,sT] ty #[.slice (some ⟨g,off,none⟩) dLen dCap,src]).run P w =
  .ok (goInt cs.length) (w.setRow g (cur.toList.take off++cs++cur.toList.drop (off+cs.length)).toArray):=by
 have hst:=run_storeCells_at P g off t cs 0 cur w hg (by simpa using hfit) h1;cases hq:P.info? elem with
 |none=>simp[hq]at hs
 |some i=>
  have hi:i.size=1:=by simpa[hq]using hs
  rw[<-hn]at hfirst
  simp[Builtin.copy_,run_underlying hu,hlen,sizeOf,typeInfo,hq,hi,<-hn,hfirst,hst]
def mH(w:World)(src:Value)(n:Nat)(cs:List Value):Prop:=
 (∃s:ByteArray,src=.string s/\n=s.size/\∃k,cs=(aF s.data.toList).take k) \/
 (∃(sp:Option Addr) (c:Nat),src=.slice sp n c/\(0<cs.length->∃ad,sp=some ad/\∀j v,cs[j]?=some v->w.cell? (ad.add j)=some v))
theorem mH.run{w:World}{src:Value}{n k:Nat}{cs:List Value}(h:mH w src n cs)(hk:cs.length=Nat.min n k) :
 (Builtin.lenOf src).run P w=.ok n w/\(Builtin.firstCells 1 cs.length src).run P w=.ok cs.toArray w:=by
 rcases h with⟨s,rfl,rfl,j,rfl⟩|⟨sp,c,rfl,h⟩
 ·refine⟨by simp[Builtin.lenOf],?_⟩;simp only[Builtin.firstCells,aF,List.length_take,List.length_map,Array.length_toList,Sem.run_pure];congr 1;apply Array.ext';simp only[Array.toList_map,ByteArray.data_extract,Array.toList_extract,List.extract_eq_take_drop,Nat.sub_zero,List.drop_zero,List.map_take];change List.take (min j s.data.size) (List.map bv s.data.toList)=List.take j (List.map bv s.data.toList);rw[List.take_eq_take_iff];simp only[List.length_map,Array.length_toList];omega
 refine⟨by simp[Builtin.lenOf],?_⟩;by_cases h0:cs.length=0
 ·obtain rfl:cs=[]:=List.eq_nil_of_length_eq_zero h0;cases sp with
  |none=>simp[Builtin.firstCells]
  |some a=>simp[Builtin.firstCells,loadCells,loadCellsFrom]
 obtain⟨ad,rfl,hc⟩:=h (by omega);have hl:=run_loadCells_list (P:=P) w ad cs hc;simp[Builtin.firstCells,hl]
theorem mH.of_owns{w:World}{base e:Nat}{o:Option Addr}{n c:Nat}{xs:List Value}(h:w.ownsRow base e 1 (.slice o n c) n xs):mH w (.slice o n c) n xs:=by
 refine .inr ⟨o,c,rfl,fun hp=>?_⟩;have hx:=h.1;simp only[Nat.mul_one]at hx;rcases h.2 with⟨h0,rfl⟩|⟨g,cap',cur,h0,_⟩
 ·omega
 simp only[Value.slice.injEq]at h0;obtain⟨rfl,_⟩:=h0;exact⟨_,rfl,fun j v hv=>GL h _ rfl j v hv⟩
theorem mH.of_str(w:World)(s:ByteArray):mH w (.string s) s.size (aF s.data.toList):=
 .inl ⟨s,rfl,rfl,s.data.toList.length,by rw[List.take_of_length_le (by simp[aF])]⟩
end copy
theorem nB{P:Program}(w:World)(src dst e:TypeId)(a:Option Addr)(n cap:Nat)(l:List UInt8)(hs:P.underlying src=some (.slice e))(he:P.underlying e=some (.int .u8))(hd:P.underlying dst=some .string)
 (hn:n=l.length) (hc:0<l.length->∃ad,a=some ad/\∀j (hj:j<l.length),w.cell? (ad.add j)=some (bv l[j])) :
 (convert src dst (.slice a n cap)).run P w=.ok (.string (str l)) w:=by
 subst hn;by_cases h0:l.length=0
 ·obtain rfl:l=[]:=List.eq_nil_of_length_eq_zero h0;cases a with
  |none=>rw[run_convert_bytes_string w src dst e none _ cap hs he hd];rfl
  |some ad=>exact run_convert_bytes_back w src dst e ad cap [] hs he hd (fun j hj=>by simp at hj)
 obtain⟨ad,had,hx⟩:=hc (by omega);subst had;clear hc;exact run_convert_bytes_back w src dst e ad cap l hs he hd hx
abbrev bx:=BitVec 32
def fc(x:bx)(n:Nat):bx:=(x >>> n) ||| (x <<< (32-n))
def SF(x:bx):bx:=fc x 7 ^^^ fc x 18 ^^^ x >>> 3
def Sl(y:bx):bx:=fc y 17 ^^^ fc y 19 ^^^ y >>> 10
def Xk(x:bx):bx:=fc x 2 ^^^ fc x 13 ^^^ fc x 22
def Xj(x:bx):bx:=fc x 6 ^^^ fc x 11 ^^^ fc x 25
def Zy(e f g:bx):bx:=(e &&& f) ^^^ ((~~~ e) &&& g)
def YT(a b c:bx):bx:=((a &&& b) ^^^ (a &&& c)) ^^^ (b &&& c)
def kc:List bx:=[
 0x428a2f98,0x71374491,0xb5c0fbcf,0xe9b5dba5,0x3956c25b,0x59f111f1,0x923f82a4,0xab1c5ed5,
 0xd807aa98,0x12835b01,0x243185be,0x550c7dc3,0x72be5d74,0x80deb1fe,0x9bdc06a7,0xc19bf174,
 0xe49b69c1,0xefbe4786,0x0fc19dc6,0x240ca1cc,0x2de92c6f,0x4a7484aa,0x5cb0a9dc,0x76f988da,
 0x983e5152,0xa831c66d,0xb00327c8,0xbf597fc7,0xc6e00bf3,0xd5a79147,0x06ca6351,0x14292967,
 0x27b70a85,0x2e1b2138,0x4d2c6dfc,0x53380d13,0x650a7354,0x766a0abb,0x81c2c92e,0x92722c85,
 0xa2bfe8a1,0xa81a664b,0xc24b8b70,0xc76c51a3,0xd192e819,0xd6990624,0xf40e3585,0x106aa070,
 0x19a4c116,0x1e376c08,0x2748774c,0x34b0bcb5,0x391c0cb3,0x4ed8aa4a,0x5b9cca4f,0x682e6ff3,
 0x748f82ee,0x78a5636f,0x84c87814,0x8cc70208,0x90befffa,0xa4506ceb,0xbef9a3f7,0xc67178f2]
def iv:List bx:=[0x6a09e667,0xbb67ae85,0x3c6ef372,0xa54ff53a,0x510e527f,0x9b05688c,0x1f83d9ab,0x5be0cd19]
def dp(l:List bx)(i:Nat):bx:=l.getD i 0
def Co(x:UInt8):bx:=BitVec.ofNat 32 x.toNat
def Gm(a b c d:UInt8):bx:=((Co a <<< 24 ||| Co b <<< 16) ||| Co c <<< 8) ||| Co d
def Ru(b:List UInt8)(i:Nat):bx:=Gm (b.getD (4*i) 0) (b.getD (4*i+1) 0) (b.getD (4*i+2) 0) (b.getD (4*i+3) 0)
def kE(b:List UInt8)(W:List bx):bx:=
 if W.length<16 then Ru b W.length
 else dp W (W.length-16)+SF (dp W (W.length-15))+dp W (W.length-7)+Sl (dp W (W.length-2))
def dM(b:List UInt8):Nat->List bx
 |0=>[]
 |i+1=>dM b i++[kE b (dM b i)]
theorem ep(b:List UInt8):∀i,(dM b i).length=i
 |0=>rfl
 |i+1=>by simp[dM,ep b i]
structure S8 where
 a:bx
 b:bx
 c:bx
 d:bx
 e:bx
 f:bx
 g:bx
 h:bx
deriving DecidableEq
def S8.list(s:S8):List bx:=[s.a,s.b,s.c,s.d,s.e,s.f,s.g,s.h]
def S8.of(l:List bx):S8:=⟨dp l 0,dp l 1,dp l 2,dp l 3,dp l 4,dp l 5,dp l 6,dp l 7⟩
theorem S8.of_list(s:S8):S8.of s.list=s:=rfl
def rT(s:S8)(k w:bx):bx:=s.h+Xj s.e+Zy s.e s.f s.g+k+w
def rU(s:S8):bx:=Xk s.a+YT s.a s.b s.c
def Jw(s:S8)(k w:bx):S8:=⟨rT s k w+rU s,s.a,s.b,s.c,s.d+rT s k w,s.e,s.f,s.g⟩
def gt(W:List bx)(s:S8):Nat->S8
 |0=>s
 |i+1=>Jw (gt W s i) (dp kc i) (dp W i)
def rz(s t:S8):S8:=⟨s.a+t.a,s.b+t.b,s.c+t.c,s.d+t.d,s.e+t.e,s.f+t.f,s.g+t.g,s.h+t.h⟩
def ek(s:S8)(b:List UInt8):S8:=rz s (gt (dM b 64) s 64)
def nL(m:List UInt8):Nat->S8
 |0=>S8.of iv
 |i+1=>ek (nL m i) ((m.drop (64*i)).take 64)
def fC(n:Nat):Nat:=(120-(n+1)%64)%64
def iC(n sh:Nat):UInt8:=UInt8.ofNat (n/2^sh)
def oZ(n:Nat):List UInt8:=[iC n 56,iC n 48,iC n 40,iC n 32,iC n 24,iC n 16,iC n 8,iC n 0]
def jF(l:List UInt8):List UInt8:=l++[0x80]++List.replicate (fC l.length) 0++oZ (8*l.length)
theorem pT(l:List UInt8):(jF l).length=l.length+1+fC l.length+8:=by simp[jF,oZ];omega
theorem DH(l:List UInt8):(jF l).length%64=0:=by rw[pT];unfold fC;omega
def kJ(x:bx)(sh:Nat):UInt8:=UInt8.ofNat ((x >>> sh).toNat)
def dk(x:bx):List UInt8:=[kJ x 24,kJ x 16,kJ x 8,kJ x 0]
def bW(l:List UInt8):List UInt8:=(nL (jF l) ((jF l).length/64)).list.flatMap dk
theorem dJ(l:List UInt8):(bW l).length=32:=by simp[bW,S8.list,dk]
def fN{α:Type}(n:Nat)(k:Nat->α):α:=match n with
 |0=>k 0
 |m+1=>k (m+1)
theorem AK{α:Type}(n:Nat)(k:Nat->α):fN n k=k n:=by cases n<;>rfl
def fW{α:Type}(x:bx)(k:bx->α):α:=fN x.toNat fun n=>k (BitVec.ofNat 32 n)
theorem lZ{α:Type}(x:bx)(k:bx->α):fW x k=k x:=by unfold fW;rw[AK];simp
def l7{α:Type}(b:List UInt8):Nat->List bx->(List bx->α)->α
 |0,W,k=>k W
 |i+1,W,k=>fW (kE b W) fun x=>l7 b i (W++[x]) k
theorem ne{α:Type}(b:List UInt8)(k:List bx->α):∀(i j:Nat),l7 b i (dM b j) k=k (dM b (j+i))
 |0,_=>rfl
 |i+1,j=>by
  unfold l7;rw[lZ];have:=ne b k i (j+1);rw[show dM b (j+1)=dM b j++[kE b (dM b j)]from rfl]at this;rw[this];congr 2;omega
def lY{α:Type}(W:List bx):Nat->Nat->S8->(S8->α)->α
 |0,_,s,k=>k s
 |n+1,i,s,k=>fW (rT s (dp kc i) (dp W i)) fun t=>fW (t+rU s) fun x=>fW (s.d+t) fun y=>lY W n (i+1) ⟨x,s.a,s.b,s.c,y,s.e,s.f,s.g⟩ k
theorem o4{α:Type}(W:List bx)(s:S8)(k:S8->α):∀(n i:Nat),lY W n i (gt W s i) k=k (gt W s (i+n))
 |0,_=>rfl
 |n+1,i=>by
  unfold lY;rw[lZ,lZ,lZ];have:=o4 W s k n (i+1);rw[show gt W s (i+1)=Jw (gt W s i) (dp kc i) (dp W i)from rfl]at this;unfold Jw at this;rw[this];congr 2;omega
def fS{α:Type}(s:S8)(k:S8->α):α:=fW s.a fun a=>fW s.b fun b=>fW s.c fun c=>fW s.d fun d=>fW s.e fun e=>fW s.f fun f=>fW s.g fun g=>fW s.h fun h=>k ⟨a,b,c,d,e,f,g,h⟩
theorem Gp{α:Type}(s:S8)(k:S8->α):fS s k=k s:=by unfold fS;simp only[lZ]
def yX{α:Type}(s:S8)(b:List UInt8)(k:S8->α):α:=l7 b 64 [] fun W=>lY W 64 0 s fun t=>fS (rz s t) k
theorem E6{α:Type}(s:S8)(b:List UInt8)(k:S8->α):yX s b k=k (ek s b):=by
 unfold yX;have h1:=ne b (fun W=>lY W 64 0 s fun t=>fS (rz s t) k) 64 0;rw[show dM b 0=[]from rfl]at h1;rw[h1];have h2:=o4 (dM b (0+64)) s (fun t=>fS (rz s t) k) 64 0;rw[show gt (dM b (0+64)) s 0=s from rfl]at h2;rw[h2,Gp];rfl
end Go.Proofs.YthlkgmdkabelpaaGreat
