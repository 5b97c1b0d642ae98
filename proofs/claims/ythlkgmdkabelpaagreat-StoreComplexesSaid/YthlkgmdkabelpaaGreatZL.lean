/-
  Packed by program (tools/pack.py) out of the texts GBits GRow. No condition.
-/
import Derived.Test.YthlkgmdkabelpaaGreatZA
import Derived.Test.YthlkgmdkabelpaaGreatChecked
import Derived.RegionTactic
import Derived.ChangeAlike
import Derived.Deep.QuietTactic
import Derived.BigQuiet
import Derived.Outline
import Derived.Deep.AppendSrc
import Derived.Deep.Upon
import Derived.Lib.ConvBytes
import Derived.Lib.AppendZerosOnto
import Derived.Deep.MidRow
import Derived.OwnWalkIn
import Derived.Deep.WholeRow
set_option linter.all false
namespace Go.Proofs.YthlkgmdkabelpaaGreat
open Go Go.RowKit
theorem ak.drewN{S:Nat->Prop}{a w:World}(h:ak S a w)(n:Nat):ak S a (w.drewN n):=h.trans' (T:=S) ⟨rfl,rfl,rfl,Nat.le_refl _,fun _ _ _=>rfl⟩ (fun _ _ h=>h)
theorem ak.any'{w w':World}(h:ak aO w w')(S:Nat->Prop):ak S w w':=h.mono fun _ _ e=>e.elim
theorem ak.frozen{S:Nat->Prop}{w w':World}(h:ak S w w'){p:Addr}(hl:p.block<w.heap.size)(hs:¬S p.block)(hf:w.frozen? p=false):w'.frozen? p=false:=by
 rw[World.frozen?_of_block (h.block _ hl hs)];exact hf
def uw(x:aA):Int:=(x.toNat:Int)
def uv(x:aA):Value:=.int .u32 (uw x)
theorem lh(x:aA):BitVec.ofInt 32 (uw x)=x:=by
 unfold uw;rw[BitVec.ofInt_natCast];simp
theorem oz(x:aA):IntKind.u32.wrap (x.toNat:Int)=uw x:=by
 rw[IntKind.wrap_u32];unfold uw;have:=x.isLt;omega
theorem nK(x y:aA):bits .xor .u32 (uw x) (uw y)=uw (x ^^^ y):=by
 show IntKind.u32.wrap ((BitVec.ofInt 32 (uw x) ^^^ BitVec.ofInt 32 (uw y)).toNat:Int)=_;rw[lh,lh];exact oz _
theorem JX(x y:aA):bits .and .u32 (uw x) (uw y)=uw (x &&& y):=by
 show IntKind.u32.wrap ((BitVec.ofInt 32 (uw x) &&& BitVec.ofInt 32 (uw y)).toNat:Int)=_;rw[lh,lh];exact oz _
theorem fg(x y:aA):bits .or .u32 (uw x) (uw y)=uw (x ||| y):=by
 show IntKind.u32.wrap ((BitVec.ofInt 32 (uw x) ||| BitVec.ofInt 32 (uw y)).toNat:Int)=_;rw[lh,lh];exact oz _
theorem Mn(x:aA):bits .xor .u32 4294967295 (uw x)=uw (~~~ x):=by
 show IntKind.u32.wrap ((BitVec.ofInt 32 4294967295 ^^^ BitVec.ofInt 32 (uw x)).toNat:Int)=_;rw[lh,show BitVec.ofInt 32 4294967295=BitVec.allOnes 32 by decide,BitVec.allOnes_xor];exact oz _
theorem eZ(x y:aA):IntKind.u32.wrap (uw x+uw y)=uw (x+y):=by
 rw[IntKind.wrap_u32];unfold uw;rw[BitVec.toNat_add];omega
theorem kh(x:aA)(n:Nat):uw x*((2^n:Nat):Int)%4294967296=uw (x <<< n):=by
 unfold uw;rw[BitVec.toNat_shiftLeft,Nat.shiftLeft_eq];omega
theorem iW(x:aA)(n:Nat):uw x/((2^n:Nat):Int)=uw (x >>> n):=by
 unfold uw;rw[BitVec.toNat_ushiftRight,Nat.shiftRight_eq_div_pow];omega
theorem Pg(x:aA):uw x*(128:Int)%(4294967296:Int)=uw (x <<< 7):=kh x 7
theorem P5(x:aA):uw x*(256:Int)%(4294967296:Int)=uw (x <<< 8):=kh x 8
theorem LI(x:aA):uw x*(1024:Int)%(4294967296:Int)=uw (x <<< 10):=kh x 10
theorem KW(x:aA):uw x*(8192:Int)%(4294967296:Int)=uw (x <<< 13):=kh x 13
theorem JI(x:aA):uw x*(16384:Int)%(4294967296:Int)=uw (x <<< 14):=kh x 14
theorem Mi(x:aA):uw x*(32768:Int)%(4294967296:Int)=uw (x <<< 15):=kh x 15
theorem JW(x:aA):uw x*(65536:Int)%(4294967296:Int)=uw (x <<< 16):=kh x 16
theorem KX(x:aA):uw x*(524288:Int)%(4294967296:Int)=uw (x <<< 19):=kh x 19
theorem MC(x:aA):uw x*(2097152:Int)%(4294967296:Int)=uw (x <<< 21):=kh x 21
theorem LA(x:aA):uw x*(16777216:Int)%(4294967296:Int)=uw (x <<< 24):=kh x 24
theorem J3(x:aA):uw x*(33554432:Int)%(4294967296:Int)=uw (x <<< 25):=kh x 25
theorem Mv(x:aA):uw x*(67108864:Int)%(4294967296:Int)=uw (x <<< 26):=kh x 26
theorem KM(x:aA):uw x*(1073741824:Int)%(4294967296:Int)=uw (x <<< 30):=kh x 30
theorem Pd(x:aA):uw x/(4:Int)=uw (x >>> 2):=iW x 2
theorem PF(x:aA):uw x/(8:Int)=uw (x >>> 3):=iW x 3
theorem PU(x:aA):uw x/(64:Int)=uw (x >>> 6):=iW x 6
theorem Pi(x:aA):uw x/(128:Int)=uw (x >>> 7):=iW x 7
theorem Zc(x:aA):uw x/(256:Int)=uw (x >>> 8):=iW x 8
theorem K0(x:aA):uw x/(1024:Int)=uw (x >>> 10):=iW x 10
theorem J4(x:aA):uw x/(2048:Int)=uw (x >>> 11):=iW x 11
theorem JM(x:aA):uw x/(8192:Int)=uw (x >>> 13):=iW x 13
theorem Ug(x:aA):uw x/(65536:Int)=uw (x >>> 16):=iW x 16
theorem Kf(x:aA):uw x/(131072:Int)=uw (x >>> 17):=iW x 17
theorem L3(x:aA):uw x/(262144:Int)=uw (x >>> 18):=iW x 18
theorem KS(x:aA):uw x/(524288:Int)=uw (x >>> 19):=iW x 19
theorem Mk(x:aA):uw x/(4194304:Int)=uw (x >>> 22):=iW x 22
theorem WO(x:aA):uw x/(16777216:Int)=uw (x >>> 24):=iW x 24
theorem Kv(x:aA):uw x/(33554432:Int)=uw (x >>> 25):=iW x 25
theorem P9(b:UInt8):IntKind.u32.wrap (b.toNat:Int)=uw (D1 b):=by
 rw[IntKind.wrap_u32];unfold uw D1;rw[BitVec.toNat_ofNat];have:=b.toNat_lt;omega
theorem ql(x:aA)(n:Nat):IntKind.u8.wrap (uw (x >>> n))=((ko x n).toNat:Int):=by
 rw[IntKind.wrap_u8];unfold uw ko;simp
theorem Il(x:aA):IntKind.u8.wrap (uw x)=((ko x 0).toNat:Int):=by
 have:=ql x 0;simpa using this
theorem jb(x:aA)(n:Nat):(x <<< (32-n)) ||| (x >>> n)=ef x n:=by unfold ef;rw[BitVec.or_comm]
theorem Xm(x:aA)(w:World) :
 Calls Tryz.prog 116 #[.int .u32 (uw x),.int .i64 (-7)] w fun e w'=>e=.returned (.int .u32 (uw (ef x 7)))/\w=w':=by
 have h1:bits .and .u64 (IntKind.u64.wrap (-7)) 31=25:=by decide +kernel
 have h2:IntKind.u64.wrap (32-25)=7:=by decide +kernel
 go_enter Tryz.func116,Tryz.ntmps116
 go_wp2
 go_ret
 refine⟨?_,rfl⟩;rw[J3,Pi,fg,jb x 7];rfl
theorem ZY(x:aA)(w:World) :
 Calls Tryz.prog 93 #[.int .u32 (uw x),.int .i64 7] w fun e w'=>e=.returned (.int .u32 (uw (ef x 7)))/\w.drew=w':=by
 go_enter Tryz.func93,Tryz.ntmps93
 go_wp2
 go_region
 go_wp2
 go_ret
 refine⟨?_,rfl⟩;rw[J3,Pi,fg];rfl
theorem Qw(x:aA)(w:World) :
 Calls Tryz.prog 116 #[.int .u32 (uw x),.int .i64 (-18)] w fun e w'=>e=.returned (.int .u32 (uw (ef x 18)))/\w=w':=by
 have h1:bits .and .u64 (IntKind.u64.wrap (-18)) 31=14:=by decide +kernel
 have h2:IntKind.u64.wrap (32-14)=18:=by decide +kernel
 go_enter Tryz.func116,Tryz.ntmps116
 go_wp2
 go_ret
 refine⟨?_,rfl⟩;rw[JI,L3,fg,jb x 18];rfl
theorem Vd(x:aA)(w:World) :
 Calls Tryz.prog 93 #[.int .u32 (uw x),.int .i64 18] w fun e w'=>e=.returned (.int .u32 (uw (ef x 18)))/\w.drew=w':=by
 go_enter Tryz.func93,Tryz.ntmps93
 go_wp2
 go_region
 go_wp2
 go_ret
 refine⟨?_,rfl⟩;rw[JI,L3,fg];rfl
theorem Qi(x:aA)(w:World) :
 Calls Tryz.prog 116 #[.int .u32 (uw x),.int .i64 (-17)] w fun e w'=>e=.returned (.int .u32 (uw (ef x 17)))/\w=w':=by
 have h1:bits .and .u64 (IntKind.u64.wrap (-17)) 31=15:=by decide +kernel
 have h2:IntKind.u64.wrap (32-15)=17:=by decide +kernel
 go_enter Tryz.func116,Tryz.ntmps116
 go_wp2
 go_ret
 refine⟨?_,rfl⟩;rw[Mi,Kf,fg,jb x 17];rfl
theorem Uj(x:aA)(w:World) :
 Calls Tryz.prog 93 #[.int .u32 (uw x),.int .i64 17] w fun e w'=>e=.returned (.int .u32 (uw (ef x 17)))/\w.drew=w':=by
 go_enter Tryz.func93,Tryz.ntmps93
 go_wp2
 go_region
 go_wp2
 go_ret
 refine⟨?_,rfl⟩;rw[Mi,Kf,fg];rfl
theorem Re(x:aA)(w:World) :
 Calls Tryz.prog 116 #[.int .u32 (uw x),.int .i64 (-19)] w fun e w'=>e=.returned (.int .u32 (uw (ef x 19)))/\w=w':=by
 have h1:bits .and .u64 (IntKind.u64.wrap (-19)) 31=13:=by decide +kernel
 have h2:IntKind.u64.wrap (32-13)=19:=by decide +kernel
 go_enter Tryz.func116,Tryz.ntmps116
 go_wp2
 go_ret
 refine⟨?_,rfl⟩;rw[KW,KS,fg,jb x 19];rfl
theorem Xg(x:aA)(w:World) :
 Calls Tryz.prog 93 #[.int .u32 (uw x),.int .i64 19] w fun e w'=>e=.returned (.int .u32 (uw (ef x 19)))/\w.drew=w':=by
 go_enter Tryz.func93,Tryz.ntmps93
 go_wp2
 go_region
 go_wp2
 go_ret
 refine⟨?_,rfl⟩;rw[KW,KS,fg];rfl
theorem Wz(x:aA)(w:World) :
 Calls Tryz.prog 116 #[.int .u32 (uw x),.int .i64 (-6)] w fun e w'=>e=.returned (.int .u32 (uw (ef x 6)))/\w=w':=by
 have h1:bits .and .u64 (IntKind.u64.wrap (-6)) 31=26:=by decide +kernel
 have h2:IntKind.u64.wrap (32-26)=6:=by decide +kernel
 go_enter Tryz.func116,Tryz.ntmps116
 go_wp2
 go_ret
 refine⟨?_,rfl⟩;rw[Mv,PU,fg,jb x 6];rfl
theorem YR(x:aA)(w:World) :
 Calls Tryz.prog 93 #[.int .u32 (uw x),.int .i64 6] w fun e w'=>e=.returned (.int .u32 (uw (ef x 6)))/\w.drew=w':=by
 go_enter Tryz.func93,Tryz.ntmps93
 go_wp2
 go_region
 go_wp2
 go_ret
 refine⟨?_,rfl⟩;rw[Mv,PU,fg];rfl
theorem RM(x:aA)(w:World) :
 Calls Tryz.prog 116 #[.int .u32 (uw x),.int .i64 (-11)] w fun e w'=>e=.returned (.int .u32 (uw (ef x 11)))/\w=w':=by
 have h1:bits .and .u64 (IntKind.u64.wrap (-11)) 31=21:=by decide +kernel
 have h2:IntKind.u64.wrap (32-21)=11:=by decide +kernel
 go_enter Tryz.func116,Tryz.ntmps116
 go_wp2
 go_ret
 refine⟨?_,rfl⟩;rw[MC,J4,fg,jb x 11];rfl
theorem Xl(x:aA)(w:World) :
 Calls Tryz.prog 93 #[.int .u32 (uw x),.int .i64 11] w fun e w'=>e=.returned (.int .u32 (uw (ef x 11)))/\w.drew=w':=by
 go_enter Tryz.func93,Tryz.ntmps93
 go_wp2
 go_region
 go_wp2
 go_ret
 refine⟨?_,rfl⟩;rw[MC,J4,fg];rfl
theorem S9(x:aA)(w:World) :
 Calls Tryz.prog 116 #[.int .u32 (uw x),.int .i64 (-25)] w fun e w'=>e=.returned (.int .u32 (uw (ef x 25)))/\w=w':=by
 have h1:bits .and .u64 (IntKind.u64.wrap (-25)) 31=7:=by decide +kernel
 have h2:IntKind.u64.wrap (32-7)=25:=by decide +kernel
 go_enter Tryz.func116,Tryz.ntmps116
 go_wp2
 go_ret
 refine⟨?_,rfl⟩;rw[Pg,Kv,fg,jb x 25];rfl
theorem Uz(x:aA)(w:World) :
 Calls Tryz.prog 93 #[.int .u32 (uw x),.int .i64 25] w fun e w'=>e=.returned (.int .u32 (uw (ef x 25)))/\w.drew=w':=by
 go_enter Tryz.func93,Tryz.ntmps93
 go_wp2
 go_region
 go_wp2
 go_ret
 refine⟨?_,rfl⟩;rw[Pg,Kv,fg];rfl
theorem Vw(x:aA)(w:World) :
 Calls Tryz.prog 116 #[.int .u32 (uw x),.int .i64 (-2)] w fun e w'=>e=.returned (.int .u32 (uw (ef x 2)))/\w=w':=by
 have h1:bits .and .u64 (IntKind.u64.wrap (-2)) 31=30:=by decide +kernel
 have h2:IntKind.u64.wrap (32-30)=2:=by decide +kernel
 go_enter Tryz.func116,Tryz.ntmps116
 go_wp2
 go_ret
 refine⟨?_,rfl⟩;rw[KM,Pd,fg,jb x 2];rfl
theorem ZA(x:aA)(w:World) :
 Calls Tryz.prog 93 #[.int .u32 (uw x),.int .i64 2] w fun e w'=>e=.returned (.int .u32 (uw (ef x 2)))/\w.drew=w':=by
 go_enter Tryz.func93,Tryz.ntmps93
 go_wp2
 go_region
 go_wp2
 go_ret
 refine⟨?_,rfl⟩;rw[KM,Pd,fg];rfl
theorem S6(x:aA)(w:World) :
 Calls Tryz.prog 116 #[.int .u32 (uw x),.int .i64 (-13)] w fun e w'=>e=.returned (.int .u32 (uw (ef x 13)))/\w=w':=by
 have h1:bits .and .u64 (IntKind.u64.wrap (-13)) 31=19:=by decide +kernel
 have h2:IntKind.u64.wrap (32-19)=13:=by decide +kernel
 go_enter Tryz.func116,Tryz.ntmps116
 go_wp2
 go_ret
 refine⟨?_,rfl⟩;rw[KX,JM,fg,jb x 13];rfl
theorem V3(x:aA)(w:World) :
 Calls Tryz.prog 93 #[.int .u32 (uw x),.int .i64 13] w fun e w'=>e=.returned (.int .u32 (uw (ef x 13)))/\w.drew=w':=by
 go_enter Tryz.func93,Tryz.ntmps93
 go_wp2
 go_region
 go_wp2
 go_ret
 refine⟨?_,rfl⟩;rw[KX,JM,fg];rfl
theorem Rg(x:aA)(w:World) :
 Calls Tryz.prog 116 #[.int .u32 (uw x),.int .i64 (-22)] w fun e w'=>e=.returned (.int .u32 (uw (ef x 22)))/\w=w':=by
 have h1:bits .and .u64 (IntKind.u64.wrap (-22)) 31=10:=by decide +kernel
 have h2:IntKind.u64.wrap (32-10)=22:=by decide +kernel
 go_enter Tryz.func116,Tryz.ntmps116
 go_wp2
 go_ret
 refine⟨?_,rfl⟩;rw[LI,Mk,fg,jb x 22];rfl
theorem We(x:aA)(w:World) :
 Calls Tryz.prog 93 #[.int .u32 (uw x),.int .i64 22] w fun e w'=>e=.returned (.int .u32 (uw (ef x 22)))/\w.drew=w':=by
 go_enter Tryz.func93,Tryz.ntmps93
 go_wp2
 go_region
 go_wp2
 go_ret
 refine⟨?_,rfl⟩;rw[LI,Mk,fg];rfl
theorem JL(x:aA)(w:World) :
 Calls Tryz.prog 97 #[.int .u32 (uw x),.int .i64 6,.int .i64 11,.int .i64 25] w fun e w'=>e=.returned (.int .u32 (uw (bs1 x)))/\w=w':=by
 go_enter Tryz.func97,Tryz.ntmps97
 go_wp2_with fail
 refine(Wz x _).mono ?_;rintro e w' ⟨rfl,rfl⟩
 go_wp2_with fail
 refine(RM x _).mono ?_;rintro e w' ⟨rfl,rfl⟩
 go_wp2_with fail
 refine(S9 x _).mono ?_;rintro e w' ⟨rfl,rfl⟩
 go_wp2_with fail
 go_ret
 refine⟨?_,rfl⟩;rw[nK,nK];rfl
theorem L2(x:aA)(w:World) :
 Calls Tryz.prog 97 #[.int .u32 (uw x),.int .i64 2,.int .i64 13,.int .i64 22] w fun e w'=>e=.returned (.int .u32 (uw (bs0 x)))/\w=w':=by
 go_enter Tryz.func97,Tryz.ntmps97
 go_wp2_with fail
 refine(Vw x _).mono ?_;rintro e w' ⟨rfl,rfl⟩
 go_wp2_with fail
 refine(S6 x _).mono ?_;rintro e w' ⟨rfl,rfl⟩
 go_wp2_with fail
 refine(Rg x _).mono ?_;rintro e w' ⟨rfl,rfl⟩
 go_wp2_with fail
 go_ret
 refine⟨?_,rfl⟩;rw[nK,nK];rfl
def mQ(w:World)(B:Nat)(v:Value)(l:List UInt8):Prop:=
 ∃g cap,v=.slice (some ⟨g,0,none⟩) l.length cap/\B<=g/\g<w.heap.size/\l.length<=cap/\w.there g 0 cap/\w.rangeAt g 0 (an l)
theorem nJ{S:Nat->Prop}{w w':World}(hk:ak S w w'){g:Nat}(hl:g<w.heap.size)(hs:¬S g)(j:Nat):w'.cell? ⟨g,j,none⟩=w.cell? ⟨g,j,none⟩:=
 World.cell?_of_block (hk.block g hl hs)
theorem mQ.keep{S:Nat->Prop}{w w':World}{B:Nat}{v:Value}{l:List UInt8}(h:mQ w B v l)(hk:ak S w w')(hs:∀k,B<=k->k<w.heap.size->¬S k):mQ w' B v l:=by
 obtain⟨g,cap,hv,hB,hg,hc,ht,hr⟩:=h;have hns:=hs g hB hg;refine⟨g,cap,hv,hB,Nat.lt_of_lt_of_le hg hk.size,hc,fun j hj=>?_,fun j x hx=>?_⟩
 ·rw[nJ hk hg hns,World.frozen?_of_block (hk.block g hg hns)];exact ht j hj
 rw[nJ hk hg hns];exact hr j x hx
theorem mQ.block{w:World}{B:Nat}{v:Value}{l:List UInt8}(h:mQ w B v l):∀k,v.ownBlock=some k->B<=k/\k<w.heap.size:=by
 obtain⟨g,cap,rfl,hB,hg,_⟩:=h;intro k hk;rw[tU]at hk;subst hk;exact⟨hB,hg⟩
theorem ak.setCells{S:Nat->Prop}{a w:World}(h:ak S a w)(b o:Nat)(vs:List Value)(hb:b<a.heap.size->S b):ak S a (w.setCells b o vs):=by
 have ht:∀(vs:List Value) (o:Nat) (w:World),(w.setCells b o vs).tape=w.tape/\w.heap.size<=(w.setCells b o vs).heap.size:=by
  intro vs
  induction vs with
  |nil=>exact fun o w=>⟨rfl,Nat.le_refl _⟩
  |cons v vs ih=>
   intro o w;rw[World.setCells];exact⟨(ih _ _).1,Nat.le_trans (by simp[World.setCell]) (ih _ _).2⟩
 refine h.trans' (T:=fun k=>k=b) ⟨World.os_setCells w b o vs,(ht vs o w).1,World.output_setCells w b o vs,(ht vs o w).2,fun k hk hn=>World.heap_setCells_other w b o vs hk hn⟩ (fun k h1 e=>?_);rw[e]at h1 ⊢;exact hb h1
section
variable {P:Program} (w:World)
theorem qS{w:World}{g:Nat}{a b:List Value}(ha:w.rangeAt g 0 a)(hb:w.rangeAt g a.length b):w.rangeAt g 0 (a++b):=by
 intro j x hx;by_cases h:j<a.length
 ·rw[List.getElem?_append_left h]at hx;exact ha j x hx
 rw[List.getElem?_append_right (by omega)]at hx;have:=hb _ x hx;rwa [show a.length+(j-a.length)=0+j by omega]at this
theorem wc(w:World)(cs:List Value)(C:Array Value)(t:TypeId)(h:C.toList.take cs.length=cs):(w.alloc (.cells C t)).rangeAt w.heap.size 0 cs:=by
 intro j x hx;have hj:j<cs.length:=(List.getElem?_eq_some_iff.1 hx).1;rw[Nat.zero_add,bm bw,<-Array.getElem?_toList];rw[<-h,List.getElem?_take,if_pos hj]at hx;exact hx
theorem Ay(w:World)(C:Array Value)(t:TypeId)(n:Nat)(h:n<=C.size):(w.alloc (.cells C t)).there w.heap.size 0 n:=by
 intro j hj;rw[Nat.zero_add,bm bw,dS bw];exact⟨by simp;omega,rfl⟩
theorem lY(t tx ty e:TypeId)(i:TypeInfo)(z:Value)(ht:P.underlying t=some (.slice e))(hi:P.info? e=some i)(hz:i.zero=some z)(hs1:i.size=1)(hb1:i.bytes=1)(hzc:z.cells.size=1)
 (B:Nat) (v:Value) (l:List UInt8) (h:mQ w B v l) (hBw:B<=w.heap.size) (x:Value) (m:List UInt8) (hx:Src P 1 tx x m.length (an m) w) (hlen:l.length+m.length<=1125899906842624/8) :
 ∃v' w',(Builtin.append_ #[t,tx] ty #[v,x]).run P w=.ok v' w'/\mQ w' B v' (l++m)/\ak (fun k=>v.ownBlock=some k) w w':=by
 obtain⟨g,cap,rfl,hB,hg,hc,hth,hr⟩:=h;have hbl:=bE l;have hbm:=bE m;by_cases hroom:l.length+m.length<=cap
 ·have hrun:=run_append_room_src w t tx ty e i ht hi g 0 l.length cap x m.length (an m) (by rw[hs1];exact hx) hroom (fun j hj=>by
   rw[hs1,Nat.zero_add,Nat.mul_one];have:=(hth (l.length+j) (by omega)).1;rwa [Nat.zero_add]at this) (fun j hj=>by
   rw[hs1,Nat.zero_add,Nat.mul_one];have:=(hth (l.length+j) (by omega)).2;rwa [Nat.zero_add]at this)
  rw[hs1,Nat.zero_add,Nat.mul_one]at hrun;refine⟨_,_,hrun,⟨g,cap,by rw[List.length_append],hB,?_,by rw[List.length_append];exact hroom,World.there_setCells hth _ _ _,?_⟩,(ak.refl _ w).setCells _ _ _ (fun _=>by rw[tU])⟩
  ·exact Nat.lt_of_lt_of_le hg ((ak.refl (fun k=>k=g) w).setCells g l.length (an m) (fun _=>rfl)).size
  rw[oE];refine qS (World.rangeAt_setCells_apart hr _ _ _ (by omega)) ?_;rw[hbl];exact World.rangeAt_setCells_same w g l.length (an m) (fun j hj=>by
   have:=hth (l.length+j) (by omega);rwa [Nat.zero_add]at this)
 have hold:(Builtin.firstCells i.size l.length (.slice (some ⟨g,0,none⟩) l.length cap)).run P w.drew=.ok (an l).toArray w.drew:=
  run_firstCells_some w.drew i.size l.length ⟨g,0,none⟩ l.length cap (an l) (by rw[hs1,Nat.mul_one,hbl]) (fun j u hu=>by
   have:=hr j u hu;rw[Nat.zero_add]at this;rw[bX,Nat.zero_add];exact this)
 have hrun:=run_append_grow_src w t tx ty e i z ht hi hz (some ⟨g,0,none⟩) l.length cap (an l) hold x m.length (an m) (by rw[hs1];exact hx) (by omega) (by omega)
  (growslice_fits (by omega) (by rw[hb1];omega))
 have hge:=grownCap_ge w (l.length+m.length) cap e;have hsz:((an l++an m).toArray++Builtin.zeroCells z.cells (grownCap w (l.length+m.length) cap e-(l.length+m.length))).size=grownCap w (l.length+m.length) cap e:=by simp only[Array.size_append,List.size_toArray,List.length_append,size_zeroCells,hzc,hbl,hbm];omega
 refine⟨_,_,hrun,⟨w.heap.size,_,by rw[List.length_append],hBw,by simp,by rw[List.length_append];exact hge,?_,?_⟩,((ak.refl _ w).drew).alloc _⟩
 ·exact Ay w.drew _ _ _ (by rw[hsz];exact Nat.le_refl _)
 rw[oE];refine wc w.drew _ _ _ ?_;rw[Array.toList_append];exact List.take_left
theorem vp(t tx ty e:TypeId)(i:TypeInfo)(k k':IntKind)(ht:P.underlying t=some (.slice e))(htx:P.underlying tx=some (.int k))(hi:P.info? e=some i)(hz:i.zero=some (.int .u8 0))(hs1:i.size=1)(hb1:i.bytes=1)
 (B:Nat) (v:Value) (l:List UInt8) (h:mQ w B v l) (hBw:B<=w.heap.size) (n:Nat) (hlen:l.length+n<=1125899906842624/8) :
 ∃v' w',(Builtin.append_ #[t,tx] ty #[v,.int k' (n:Int)]).run P w=.ok v' w'/\mQ w' B v' (l++List.replicate n 0)/\ak (fun k=>v.ownBlock=some k) w w':=by
 obtain⟨g,cap,rfl,hB,hg,hc,hth,hr⟩:=h;have hbl:=bE l;have hzz:(Builtin.zeroCells (Value.int .u8 0).cells n).toList=an (List.replicate n 0):=by have:=LJ n;rw[<-this];simp[Builtin.zeroCells,madeCells,Value.cells]
 have hzl:(an (List.replicate n (0:UInt8))).length=n:=by rw[bE,List.length_replicate]
 have hw:IntKind.i64.wrap (n:Int)=n:=IntWalk.i64_in _ (by omega);have hneg:¬((n:Int)<0):=by omega
 have h48i:¬(281474976710656<(n:Int)):=by omega
 by_cases hroom:l.length+n<=cap
 ·have hst:=run_storeCells_cells (P:=P) g l.length (an (List.replicate n 0)) 0 w (fun j hj=>by
   have:=(hth (l.length+j) (by omega)).1;simpa using this) (fun j hj=>by
   have:=(hth (l.length+j) (by omega)).2;simpa using this) (ja _)
  simp only[Nat.add_zero]at hst;have hrun:(Builtin.append_ #[t,tx] ty #[.slice (some ⟨g,0,none⟩) l.length cap,.int k' (n:Int)]).run P w=.ok (.slice (some ⟨g,0,none⟩) (l.length+n) cap) (w.setCells g l.length (an (List.replicate n 0))):=by
   by_cases h0:n=0
   ·subst h0;have hw0:IntKind.i64.wrap 0=0:=by decide
    simp[Builtin.append_,hw0,run_underlying ht,run_underlying htx,sizeOf,typeInfo,zeroValue,hi,hz,asInt,asIntOf,hb1,hc,Addr.add_lit,storeCells,an,World.setCells]
   simp[Builtin.append_,run_underlying ht,run_underlying htx,sizeOf,typeInfo,zeroValue,hi,hz,asInt,asIntOf,hw,hneg,hs1,hb1,h48i,h0,hroom,Addr.add_lit,hzz,hst]
  refine⟨_,_,hrun,⟨g,cap,by rw[List.length_append,List.length_replicate],hB,?_,by rw[List.length_append,List.length_replicate];exact hroom,World.there_setCells hth _ _ _,?_⟩,(ak.refl _ w).setCells _ _ _ (fun _=>by rw[tU])⟩
  ·exact Nat.lt_of_lt_of_le hg ((ak.refl (fun k=>k=g) w).setCells g l.length (an (List.replicate n 0)) (fun _=>rfl)).size
  rw[oE];refine qS (World.rangeAt_setCells_apart hr _ _ _ (by omega)) ?_;rw[hbl];exact World.rangeAt_setCells_same w g l.length _ (fun j hj=>by
   have:=hth (l.length+j) (by omega);rwa [Nat.zero_add]at this)
 have hold:(Builtin.firstCells i.size l.length (.slice (some ⟨g,0,none⟩) l.length cap)).run P w.drew=.ok (an l).toArray w.drew:=
  run_firstCells_some w.drew i.size l.length ⟨g,0,none⟩ l.length cap (an l) (by rw[hs1,Nat.mul_one,hbl]) (fun j u hu=>by
   have:=hr j u hu;rw[Nat.zero_add]at this;rw[bX,Nat.zero_add];exact this)
 have hrun:=Lib.run_append_grow_zeros w t tx ty e i (.int .u8 0) k' k ht htx hi hz (some ⟨g,0,none⟩) l.length cap (an l) hold n (by omega) (by omega) (by omega) (by omega) (by rw[hb1];omega)
  (growslice_fits (by omega) (by rw[hb1];omega))
 have hge:=grownCap_ge w (l.length+n) cap e;have hsz:((an l).toArray++Builtin.zeroCells (Value.int .u8 0).cells n++Builtin.zeroCells (Value.int .u8 0).cells (grownCap w (l.length+n) cap e-(l.length+n))).size=grownCap w (l.length+n) cap e:=by simp only[Array.size_append,List.size_toArray,size_zeroCells,hbl];rw[show(Value.int .u8 0).cells.size=1 from rfl];omega
 refine⟨_,_,hrun,⟨w.heap.size,_,by rw[List.length_append,List.length_replicate],hBw,by simp,by rw[List.length_append,List.length_replicate];exact hge,?_,?_⟩,((ak.refl _ w).drew).alloc _⟩
 ·exact Ay w.drew _ _ _ (by rw[hsz];exact Nat.le_refl _)
 rw[oE];refine wc w.drew _ _ _ ?_;rw[Array.toList_append,Array.toList_append,hzz];exact List.take_left
theorem zV(e:TypeId)(s:ByteArray):mQ (Lib.bytesWorld w e s) w.heap.size (.slice (some ⟨w.heap.size,0,none⟩) s.size (grownCap w s.size 0 e)) s.data.toList/\ak aO w (Lib.bytesWorld w e s):=by
 have hge:=grownCap_ge w s.size 0 e;have hsz:=Lib.bytesWorld_size w e s;have hnew:=Lib.bytesWorld_at_new w e s;have hcs:(Lib.bytesCells w e s).size=grownCap w s.size 0 e:=by unfold Lib.bytesCells;rw[Array.size_append,Array.size_map,Array.size_replicate];show s.size+_=_;omega
 refine⟨⟨w.heap.size,_,by rw[pX],Nat.le_refl _,by omega,by rw[pX];exact hge,fun j hj=>⟨?_,?_⟩,fun j x hx=>?_⟩,⟨rfl,rfl,rfl,by omega,fun k hk _=>Lib.bytesWorld_at_old w e s k hk⟩⟩
 ·rw[Nat.zero_add,cell_of_row _ _ _ _ _ _ hnew];rw[Array.getElem?_eq_getElem (by omega)];rfl
 ·rw[Nat.zero_add];simp only[World.frozen?,hnew];rw[Bool.and_eq_false_iff];left;simp;omega
 rw[Nat.zero_add,cell_of_row _ _ _ _ _ _ hnew];have hj:j<(an s.data.toList).length:=(List.getElem?_eq_some_iff.1 hx).1;rw[bE]at hj;unfold Lib.bytesCells;rw[Array.getElem?_append_left (by rw[Array.size_map];simpa using hj),<-hx,<-Array.getElem?_toList,Array.toList_map];rfl
end
section
variable {F:Fence} {n:Nat} {P:Program}
theorem gE(w:World){ops:Array Oper}{rest:List Oper}{o:Oper}{a:Act}{Q:Exit->Act->World->Prop}(hgd:o.guard=none)(s x:Operand)(t tn:TypeId)
 (ho:o.op=.call { callee:=.builtin .append,args:=#[s,x],argTypes:=#[t,tn] }) (vs vx:Value) (hs:a.eval s=vs) (hx:a.eval x=vx)
 (v':Value) (w':World) (hr:(Builtin.append_ #[t,tn] o.type #[vs,vx]).run P w=.ok v' w') (h:wpListIn F n P ops Q rest (a.put o.dst v') w'):wpListIn F n P ops Q (o::rest) a w:=by
 refine wpListIn_plain hgd fun K hK'=>?_
 unfold Oper.wpIn;refine⟨?_,?_⟩
 ·simp[Oper.about,ho,resolve,Target.leads,Sem.run_pure]
 rw[Oper.semAt_plain F _ _ (by rw[ho];intro c hc';cases hc')];simp[execOp,ho,resolve,invoke,builtin,hs,hx,hr,Result.andThen];exact hK' _ _ h
theorem sO(w:World){ops:Array Oper}{rest:List Oper}{o:Oper}{a:Act}{Q:Exit->Act->World->Prop}(hgd:o.guard=none)(t u:TypeId)(x:Operand)
 (ho:o.op=.convert t u x) (vx:Value) (hx:a.eval x=vx)
 (v':Value) (w':World) (hr:(convert t u vx).run P w=.ok v' w') (h:wpListIn F n P ops Q rest (a.put o.dst v') w'):wpListIn F n P ops Q (o::rest) a w:=by
 refine wpListIn_plain hgd fun K hK'=>?_
 unfold Oper.wpIn;refine⟨?_,?_⟩
 ·simp[Oper.about,ho]
 rw[Oper.semAt_plain F _ _ (by rw[ho];intro c hc';cases hc')];simp[execOp,ho,hx,hr,Result.andThen];exact hK' _ _ h
theorem nN{ops:Array Oper}{rest:List Oper}{o:Oper}{a:Act}{w:World}{Q:Exit->Act->World->Prop}(hgd:o.guard=none)(ty:TypeId)(x y:Operand)(ho:o.op=.store ty x y)
 (g:Nat) (cells:Array Value) (hx:a.eval x=.pointer (some ⟨g,0,none⟩)) (hy:a.eval y=.agg cells)
 (t:TypeId) (old:Array Value) (hg:w.heap[g]?=some (.cells old t (0,0))) (hi:(P.info? ty).map (·.size)=some cells.size)
 (hold:old.size=cells.size) (h1:cells.all (·.oneCell')=true)
 (h:wpListIn F n P ops Q rest (a.put o.dst undef) (w.setRow g cells)):wpListIn F n P ops Q (o::rest) a w:=by
 refine wpListIn_plain hgd fun K hK'=>?_
 unfold Oper.wpIn;refine⟨?_,?_⟩
 ·simp[Oper.about,ho]
 rw[Oper.semAt_plain F _ _ (by rw[ho];intro c hc';cases hc')];simp only[execOp,ho,hx,hy,Instr.storeAt,Instr.sureAddr,Sem.run_bind,Sem.run_pure,Result.andThen_ok,run_storeVar_row w g t ty old cells hg hi hold h1];exact hK' _ _ h
theorem uI{ops:Array Oper}{rest:List Oper}{o:Oper}{a:Act}{w:World}{Q:Exit->Act->World->Prop}(hgd:o.guard=none)(ty:TypeId)(x y:Operand)(ho:o.op=.store ty x y)
 (old cells:Array Value) (hx:a.eval x=.pointer (some ⟨w.heap.size,0,none⟩)) (hy:a.eval y=.agg cells)
 (hi:(P.info? ty).map (·.size)=some cells.size) (hold:old.size=cells.size) (h1:cells.all (·.oneCell')=true)
 (h:wpListIn F n P ops Q rest (a.put o.dst undef) (w.alloc (.cells cells ty))):wpListIn F n P ops Q (o::rest) a (w.alloc (.cells old ty)):=
 nN hgd ty x y ho w.heap.size cells hx hy ty old bw hi hold h1 (by rw[World.setRow_alloc_new];exact h)
theorem oo{ops:Array Oper}{rest:List Oper}{o:Oper}{a:Act}{w:World}{Q:Exit->Act->World->Prop}(hgd:o.guard=none)(ty:TypeId)(x:Operand)(ho:o.op=.load ty x)
 (g:Nat) (hx:a.eval x=.pointer (some ⟨g,0,none⟩)) (t:TypeId) (cs:Array Value) (fr:Nat×Nat) (d:TypeDesc) (hg:w.heap[g]?=some (.cells cs t fr))
 (hu:P.underlying ty=some d) (hd:(match d with|.struct _|.array _ _=>true|_=>false)=true) (hi:(P.info? ty).map (·.size)=some cs.size)
 (h:wpListIn F n P ops Q rest (a.put o.dst (.agg cs)) w):wpListIn F n P ops Q (o::rest) a w:=by
 refine wpListIn_plain hgd fun K hK'=>?_
 unfold Oper.wpIn;refine⟨?_,?_⟩
 ·simp[Oper.about,ho]
 rw[Oper.semAt_plain F _ _ (by rw[ho];intro c hc';cases hc')];simp only[execOp,ho,hx,Instr.loadAt,Instr.sureAddr,Sem.run_bind,Sem.run_pure,Result.andThen_ok,run_loadVar_row w g t ty cs fr d hg hu hd hi];exact hK' _ _ h
end
end Go.Proofs.YthlkgmdkabelpaaGreat
