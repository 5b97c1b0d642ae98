/-
  Packed by program (tools/pack.py) out of the texts UP2 UP3 USI UI4 UL1. No condition.
-/
import Derived.Test.YthlkgmdkabelpaaGreatNN
import Derived.Test.YthlkgmdkabelpaaGreatNO
import Derived.Shelf.SlGeneric
import Derived.Shelf.SlLaysM
import Derived.Ground.SlgmProg
import Derived.Ground.NamesProg
import Derived.Test.YthlkgmdkabelpaaGreatProg
import Derived.Test.YthlkgmdkabelpaaGreatNK
import Derived.Shelf.SortM.Plain
import Derived.Shelf.SortM.SortNone
set_option linter.all false
open Nat(reduceAdd reduceMul reduceSub)
namespace Go.Proofs.YthlkgmdkabelpaaGreat.X
open Go Go.RowKit Go.Proofs.YthlkgmdkabelpaaGreat.St
noncomputable def xK(es:cX)(o:Option (List aC)):Md:=if(eh o).2=0 then uD es else .rd
open Classical in
noncomputable def Bh:PP cX:=fun xs es=>if h:∃c:EL,xs=[jP c.o]then some (qI (Classical.choose h).o,j4 es (Classical.choose h).o,xK es (Classical.choose h).o)else none
theorem Q8{es:cX}(c:EL):Bh [jP c.o] es=some (qI c.o,j4 es c.o,xK es c.o):=by
 have hx:∃d:EL,[jP c.o]=[jP d.o]:=⟨c,rfl⟩;have e:Bh [jP c.o] es=some (qI (Classical.choose hx).o,j4 es (Classical.choose hx).o,xK es (Classical.choose hx).o):=dif_pos hx;have hq:c.o=(Classical.choose hx).o:=by have:=ZQ hx;injection this with this _;exact uY this
 rw[e,<-hq]
theorem MI(o:Option (List aC)):dG (qI o):=by
 unfold qI;split
 ·exact fp (aw (fK (dn _)) (aw (aG 1 rfl) aQ))
 exact fp (aw (fK (dn _)) (aw (aG 1 rfl) aQ))
theorem YC(hS:ph Tryz.prog 71):bD Tryz.prog 17 (ic eN Bh):=by
 have inv:∀{xs es v es' md},Bh xs es=some (v,es',md)->∃c:EL,xs=[jP c.o]/\v=qI c.o/\es'=j4 es c.o/\md=xK es c.o:=fun{xs es v es' md} h=>by
  unfold Bh at h;split at h
  ·rename_i hx;have:=ZQ hx;cases h;exact⟨_,this,rfl,rfl,rfl⟩
  cases h
 refine uO (enters_of (by kernel_rfl)) (fun xs a v a' md h=>?_) (fun xs a v a' md h=>?_)
 ·obtain⟨c,rfl,rfl,_,_⟩:=inv h;exact⟨aw (fK (aw (aB aW _) aQ)) aQ,MI _⟩
 obtain⟨c,rfl,rfl,rfl,rfl⟩:=inv h;refine aN.mono (Py hS a c) fun e W' ⟨h1,h2,h3⟩=>⟨h1,?_⟩
 by_cases hck:(eh c.o).2=0
 ·have hne:j4 a c.o≠[]:=by unfold j4;rw[if_pos hck];exact oJ _ _
  obtain⟨s,hs⟩:=qr hne;rw[show xK a c.o=uD a from if_pos hck];cases a with
  |nil=>exact⟨1,Nat.le_refl _,h2,s,hs,h3 s hs⟩
  |cons x l=>exact⟨h2,fun o ho=>⟨fun e=>(by cases e),h3 o ho⟩⟩
 rw[show xK a c.o=.rd from if_neg hck];rw[show j4 a c.o=a from if_neg hck]at h2 h3;exact⟨h2,h3⟩
def GG:Value:=.pointer none
theorem xI{x y:Operand}:eJ Tryz.prog .eql 26 x y (some (.pointer none)) (some (.pointer none))=some (.val (some (.bool true))):=by kernel_rfl
structure RN where
 o:List UInt8
 h:o.length<=140737488351232
def yz(p:RN):List Value:=[GG,.string (str p.o)]
theorem IJ(p:RN):aN Tryz.prog 10 (yz p) (wd [] 0 [] 0) fun e W'=>e=.ret (eG (eI p.o)):=by
 obtain⟨o,ho⟩:=p;have hln:(aF (bW o)).length=32:=by rw[bK,dJ]
 have hsl:(bW o).length=32:=dJ o;show aN _ _ [.pointer none,.string (str o)] _ _;refine be eQ Tryz.func10 rfl (Nat.le_of_ble_eq_true rfl) ?_;simp only[aY.eq_1,aY.eq_2,bf,Tryz.ntmps10,reduceAdd];refine ae (ac (e:=?e1) (s':=?s1) eQ ?h1 ?q1)
 case h1=>simp(disch:=decide) only[go_sem];all_goals rfl
 refine ae (ac (e:=?e2) (s':=?s2) eQ ?h2 ?q2)
 case h2=>simp(disch:=decide) only[T2,uP ho,Z5,Z9,go_sem];all_goals rfl
 refine ae ?_;refine ae (ac (e:=?e3) (s':=?s3) eQ ?h3 ?q3)
 case h3=>simp(disch:=decide) only[xI,go_sem];all_goals rfl
 refine aZ (by simp(disch:=decide) only[go_sem]<;>with_reducible rfl) ?_;refine ae (ac eQ (by simp(disch:=first|decide|omega|(simp only[List.length_cons,List.length_nil,ZM,bK,ZR,ZV];omega)) only[hln,Z5,Z9,go_sem]<;>with_reducible rfl) ?_);refine bh ?_;refine⟨_,?e6,?W6,rfl,?h6,?q6⟩
 case h6=>simp(disch:=decide) only[Tryz.results10,hln,Z5,go_sem];all_goals rfl
 rfl
theorem RS:bD Tryz.prog 10 (bu (cN yz fun p=>eG (eI p.o))):=fa (enters_of (by kernel_rfl)) (fun p=>aw (aG 1 rfl) (aw (aG 8 rfl) aQ)) (fun p=>fK (dn _)) IJ
theorem QI{o:List UInt8}{W:XW}(ho:o.length<=140737488351232):bu (cN yz fun p=>eG (eI p.o)) [.pointer none,.string (str o)] W=some (.ret (.agg (aF (bW o)).toArray),W):=eu (enc:=yz) (a:=⟨o,ho⟩) fun q h=>by
 unfold yz at h;injection h with _ h;injection h with h _;rw[wc h]
def CM(k:HB):List Value:=[GG,eG k]
theorem IU(k:HB):aN Tryz.prog 12 (CM k) (wd [] 0 [] 0) fun e W'=>e=.ret (.tuple #[.string (str []),.bool false]):=by
 have hln:(aF k.1).length=32:=by rw[bK,k.2]
 show aN _ _ [.pointer none,.agg (aF k.1).toArray] _ _;refine be av Tryz.func12 rfl (Nat.le_of_ble_eq_true rfl) ?_;simp only[aY.eq_1,aY.eq_2,bf,Tryz.ntmps12,reduceAdd];refine ae (ac (e:=?e7) (s':=?s7) av ?h7 ?q7)
 case h7=>simp(disch:=decide) only[hln,go_sem];all_goals rfl
 refine ae ?_;refine ae (ac (e:=?e8) (s':=?s8) av ?h8 ?q8)
 case h8=>simp(disch:=decide) only[xI,go_sem];all_goals rfl
 refine aZ ?h9 ?q9
 case h9=>simp(disch:=decide) only[go_sem];all_goals rfl
 refine ae (ac (e:=?e10) (s':=?s10) av ?h10 ?q10)
 case h10=>simp(disch:=decide) only[go_sem];all_goals rfl
 refine bh ?_;refine⟨_,?e11,?W11,rfl,?h11,?q11⟩
 case h11=>simp(disch:=decide) only[Tryz.results12,go_sem];all_goals rfl
 rfl
theorem TG:bD Tryz.prog 12 (bu (cN CM fun _=>.tuple #[.string (str []),.bool false])):=fa (enters_of (by kernel_rfl)) (fun k=>aw (aG 1 rfl) (aw (mK _) aQ)) (fun k=>fp (aw (aG 8 rfl) (aw (aG 1 rfl) aQ))) IU
theorem OA{k:HB}{W:XW}:bu (cN CM fun _=>Value.tuple #[.string (str []),.bool false]) [.pointer none,eG k] W=some (.ret (.tuple #[.string (str []),.bool false]),W):=eu (enc:=CM) (a:=k) fun q h=>rfl
def CD(_:Unit):List Value:=[GG]
theorem J5(u:Unit):aN Tryz.prog 26 (CD u) (wd [] 0 [] 0) fun e W'=>e=.ret (.slice none 0 0):=by
 show aN _ _ [.pointer none] _ _;refine be av Tryz.func26 rfl (Nat.le_of_ble_eq_true rfl) ?_;simp only[aY.eq_1,aY.eq_2,bf,Tryz.ntmps26,reduceAdd];refine ae (ac (e:=?e12) (s':=?s12) av ?h12 ?q12)
 case h12=>simp(disch:=decide) only[go_sem];all_goals rfl
 refine ae ?_;refine ae (ac (e:=?e13) (s':=?s13) av ?h13 ?q13)
 case h13=>simp(disch:=decide) only[xI,go_sem];all_goals rfl
 refine aZ ?h14 ?q14
 case h14=>simp(disch:=decide) only[go_sem];all_goals rfl
 refine ae (ac (e:=?e15) (s':=?s15) av ?h15 ?q15)
 case h15=>simp(disch:=decide) only[go_sem];all_goals rfl
 refine bh ?_;refine⟨_,?e16,?W16,rfl,?h16,?q16⟩
 case h16=>simp(disch:=decide) only[Tryz.results26,go_sem];all_goals rfl
 rfl
theorem Ua:bD Tryz.prog 26 (bu (cN CD fun _=>.slice none 0 0)):=fa (enters_of (by kernel_rfl)) (fun k=>aw (aG 1 rfl) aQ) (fun k=>aG 1 rfl) J5
theorem QB{W:XW}:bu (cN CD fun _=>Value.slice none 0 0) [.pointer none] W=some (.ret (.slice none 0 0),W):=eu (enc:=CD) (a:=()) fun q h=>rfl
def C3(o:Option (List aC)):List Value:=[GG,jP o]
theorem KY(o:Option (List aC)):aN Tryz.prog 17 (C3 o) (wd [] 0 [] 0) fun e W'=>e=.ret (.tuple #[.agg (aF (List.replicate 32 0)).toArray,.int .i64 1]):=by
 have hoo:bk (al an o)=true:=bL _;show aN _ _ [.pointer none,.agg #[al an o]] _ _;refine be av Tryz.func17 rfl (Nat.le_of_ble_eq_true rfl) ?_;simp only[aY.eq_1,aY.eq_2,bf,Tryz.ntmps17,reduceAdd];refine ae (ac (e:=?e17) (s':=?s17) av ?h17 ?q17)
 case h17=>simp(disch:=decide) only[hoo,go_sem];all_goals rfl
 refine ae ?_;refine ae (ac (e:=?e18) (s':=?s18) av ?h18 ?q18)
 case h18=>simp(disch:=decide) only[xI,go_sem];all_goals rfl
 refine aZ ?h19 ?q19
 case h19=>simp(disch:=decide) only[go_sem];all_goals rfl
 refine ae (ac (e:=?e20) (s':=?s20) av ?h20 ?q20)
 case h20=>simp(disch:=decide) only[hoo,go_sem];all_goals rfl
 refine bh ?_;refine⟨_,?e21,?W21,rfl,?h21,?q21⟩
 case h21=>simp(disch:=decide) only[Tryz.results17,go_sem];all_goals rfl
 rfl
theorem Wu:bD Tryz.prog 17 (bu (cN C3 fun _=>.tuple #[.agg (aF (List.replicate 32 0)).toArray,.int .i64 1])):=fa (enters_of (by kernel_rfl)) (fun k=>aw (aG 1 rfl) (aw (fK (aw (aB aW _) aQ)) aQ)) (fun k=>fp (aw (fK (dn _)) (aw (aG 1 rfl) aQ))) KY
theorem RV{o:Option (List aC)}{W:XW}:bu (cN C3 fun _=>Value.tuple #[.agg (aF (List.replicate 32 0)).toArray,.int .i64 1]) [.pointer none,.agg #[al an o]] W=some (.ret (.tuple #[.agg (aF (List.replicate 32 0)).toArray,.int .i64 1]),W):=eu (enc:=C3) (a:=o) fun q h=>rfl
noncomputable def G5:HF:=i8 (fun _:Unit=>[]) fun _=>some (fun b=>.pointer (some ⟨b,0,none⟩),some (aJ [] 0))
theorem W9:bD Tryz.prog 8 G5:=xP (enters_of (by kernel_rfl)) (fun _=>aQ) (fun a v h=>by cases h) (fun a v o h=>by
 cases h;refine⟨bc (aw (aG 1 rfl) aQ),fun b n θ h=>ay h,?_⟩;refine be av Tryz.func8 rfl (Nat.le_of_ble_eq_true rfl) ?_;simp only[aY.eq_1,aY.eq_2,bf,Tryz.ntmps8,reduceAdd];refine ae (ac (e:=?e22) (s':=?s22) av ?h22 ?q22)
 case h22=>simp(disch:=decide) only[go_sem];all_goals rfl
 refine ae (ac (e:=?e23) (s':=?s23) av ?h23 ?q23)
 case h23=>simp(disch:=decide) only[go_sem];all_goals rfl
 refine bh ?_;refine⟨_,?e24,?W24,rfl,?h24,?q24⟩
 case h24=>simp(disch:=decide) only[Tryz.results8,go_sem];all_goals rfl
 refine⟨0,rfl,?_⟩;simp(disch:=decide) only[aJ,Xh,go_sem])
theorem UW{W:XW}:G5 [] W=some (.ret (.pointer (some ⟨W.next,0,none⟩)),W.push (aJ [] 0)):=tz (enc:=fun _:Unit=>[]) (f:=fun _=>some (fun b=>.pointer (some ⟨b,0,none⟩),some (aJ [] 0))) (a:=()) (fun b h=>rfl) rfl
def Lb:List Value->Bool
 |[.agg ⟨[.slice none 0 0]⟩,.int .i64 n]=>decide (n=50)
 |_=>false
def Nh:Option XO->Bool
 |some (.fin (.ret (.tuple cs)) _)=>Lb cs.toList
 |_=>false
theorem Oz{l:List Value}(h:Lb l=true):l=[.agg #[.slice none 0 0],.int .i64 50]:=by
 unfold Lb at h;split at h
 ·have:=of_decide_eq_true h;subst this;rfl
 cases h
theorem Qr{r:Option XO}(h:Nh r=true):∃W',r=some (.fin (.ret (.tuple #[.agg #[.slice none 0 0],.int .i64 50])) W'):=by
 unfold Nh at h;split at h
 ·rename_i cs W';obtain⟨l⟩:=cs;have:=Oz h;have:l=[.agg #[.slice none 0 0],.int .i64 50]:=this;subst this;exact⟨W',rfl⟩
 cases h
def Nj:List Value->Bool
 |[.slice none 0 0,.int .i64 n]=>decide (n=50)
 |_=>false
def KX:Option XO->Bool
 |some (.fin (.ret (.tuple cs)) _)=>Nj cs.toList
 |_=>false
theorem Ou{l:List Value}(h:Nj l=true):l=[.slice none 0 0,.int .i64 50]:=by
 unfold Nj at h;split at h
 ·have:=of_decide_eq_true h;subst this;rfl
 cases h
theorem Q6{r:Option XO}(h:KX r=true):∃W',r=some (.fin (.ret (.tuple #[.slice none 0 0,.int .i64 50])) W'):=by
 unfold KX at h;split at h
 ·rename_i cs W';obtain⟨l⟩:=cs;have:=Ou h;have:l=[.slice none 0 0,.int .i64 50]:=this;subst this;exact⟨W',rfl⟩
 cases h
set_option maxRecDepth 100000 in
theorem PB(a0 a1 a2 a3 a4 a5 a6 a7 a8 a9 b0 b1 b2 b3 b4 b5 b6 b7 b8 b9 c0 c1 c2 c3 c4 c5 c6 c7 c8 c9 d0 d1:UInt8):Nh (eP Tryz.prog (u9 20000) 20000 (.call 19 [.pointer none,.agg #[bv a0,bv a1,bv a2,bv a3,bv a4,bv a5,bv a6,bv a7,bv a8,bv a9,bv b0,bv b1,bv b2,bv b3,bv b4,bv b5,bv b6,bv b7,bv b8,bv b9,bv c0,bv c1,bv c2,bv c3,bv c4,bv c5,bv c6,bv c7,bv c8,bv c9,bv d0,bv d1]] (wd [] 0 [] 0)))=true:=by kernel_rfl
set_option maxRecDepth 100000 in
theorem Ox(a0 a1 a2 a3 a4 a5 a6 a7 a8 a9 b0 b1 b2 b3 b4 b5 b6 b7 b8 b9 c0 c1 c2 c3 c4 c5 c6 c7 c8 c9 d0 d1:UInt8):KX (eP Tryz.prog (u9 20000) 20000 (.call 21 [.pointer none,.agg #[bv a0,bv a1,bv a2,bv a3,bv a4,bv a5,bv a6,bv a7,bv a8,bv a9,bv b0,bv b1,bv b2,bv b3,bv b4,bv b5,bv b6,bv b7,bv b8,bv b9,bv c0,bv c1,bv c2,bv c3,bv c4,bv c5,bv c6,bv c7,bv c8,bv c9,bv d0,bv d1]] (wd [] 0 [] 0)))=true:=by kernel_rfl
theorem Es(k:HB):∃a0 a1 a2 a3 a4 a5 a6 a7 a8 a9 b0 b1 b2 b3 b4 b5 b6 b7 b8 b9 c0 c1 c2 c3 c4 c5 c6 c7 c8 c9 d0 d1:UInt8,k.1=[a0,a1,a2,a3,a4,a5,a6,a7,a8,a9,b0,b1,b2,b3,b4,b5,b6,b7,b8,b9,c0,c1,c2,c3,c4,c5,c6,c7,c8,c9,d0,d1]:=by
 obtain⟨l,hl⟩:=k
 match l,hl with
 |[a0,a1,a2,a3,a4,a5,a6,a7,a8,a9,b0,b1,b2,b3,b4,b5,b6,b7,b8,b9,c0,c1,c2,c3,c4,c5,c6,c7,c8,c9,d0,d1],_=>exact⟨a0,a1,a2,a3,a4,a5,a6,a7,a8,a9,b0,b1,b2,b3,b4,b5,b6,b7,b8,b9,c0,c1,c2,c3,c4,c5,c6,c7,c8,c9,d0,d1,rfl⟩
def tC(k:HB):List Value:=[.pointer none,eG k]
theorem Ni(k:HB):aN Tryz.prog 19 (tC k) (wd [] 0 [] 0) fun e W'=>e=.ret (.tuple #[.agg #[.slice none 0 0],.int .i64 50]):=by
 obtain⟨a0,a1,a2,a3,a4,a5,a6,a7,a8,a9,b0,b1,b2,b3,b4,b5,b6,b7,b8,b9,c0,c1,c2,c3,c4,c5,c6,c7,c8,c9,d0,d1,hk⟩:=Es k;obtain⟨W',h⟩:=Qr (PB a0 a1 a2 a3 a4 a5 a6 a7 a8 a9 b0 b1 b2 b3 b4 b5 b6 b7 b8 b9 c0 c1 c2 c3 c4 c5 c6 c7 c8 c9 d0 d1);have:=pM (By 20000) 20000 h;unfold tC eG;rw[hk];exact aN.mono this fun e W2 ⟨q,_⟩=>q
theorem MF(k:HB):aN Tryz.prog 21 (tC k) (wd [] 0 [] 0) fun e W'=>e=.ret (.tuple #[.slice none 0 0,.int .i64 50]):=by
 obtain⟨a0,a1,a2,a3,a4,a5,a6,a7,a8,a9,b0,b1,b2,b3,b4,b5,b6,b7,b8,b9,c0,c1,c2,c3,c4,c5,c6,c7,c8,c9,d0,d1,hk⟩:=Es k;obtain⟨W',h⟩:=Q6 (Ox a0 a1 a2 a3 a4 a5 a6 a7 a8 a9 b0 b1 b2 b3 b4 b5 b6 b7 b8 b9 c0 c1 c2 c3 c4 c5 c6 c7 c8 c9 d0 d1);have:=pM (By 20000) 20000 h;unfold tC eG;rw[hk];exact aN.mono this fun e W2 ⟨q,_⟩=>q
end Go.Proofs.YthlkgmdkabelpaaGreat.X
namespace Go.Proofs
open Go.Shelf
def Tryz.sortInt_ren:Go.Shelf.Ren:=⟨fun|5=>71|8=>109|7=>108|19=>129|20=>130|10=>120|11=>121|12=>122|13=>123|14=>124|15=>125|16=>126|17=>127|18=>128|30=>143|31=>144|32=>145|33=>146|34=>147|35=>118|40=>153|n=>n,fun|23=>35|25=>3|3=>3|32=>123|22=>35|0=>0|44=>117|46=>121|4=>4|36=>201|35=>200|41=>132|5=>5|9=>9|53=>218|57=>222|63=>226|64=>227|n=>n,fun|n=>n⟩
theorem Tryz.sortInt:Go.Proofs.SlLaysM.n5 Tryz.prog Tryz.sortInt_ren:={
 mixed:=by kernel_rfl
 f5:=⟨Tryz.f71.name,by decide,Tryz.func71.trans (congrArg some (by kernel_rfl))⟩
 f7:=⟨Tryz.f108.name,by decide,Tryz.func108.trans (congrArg some (by kernel_rfl))⟩
 f8:=Tryz.func109.trans (congrArg some (by kernel_rfl))
 f10:=⟨Tryz.f120.name,by decide,Tryz.func120.trans (congrArg some (by kernel_rfl))⟩
 f11:=⟨Tryz.f121.name,by decide,Tryz.func121.trans (congrArg some (by kernel_rfl))⟩
 f12:=⟨Tryz.f122.name,by decide,Tryz.func122.trans (congrArg some (by kernel_rfl))⟩
 f13:=⟨Tryz.f123.name,by decide,Tryz.func123.trans (congrArg some (by kernel_rfl))⟩
 f14:=⟨Tryz.f124.name,by decide,Tryz.func124.trans (congrArg some (by kernel_rfl))⟩
 f15:=⟨Tryz.f125.name,by decide,Tryz.func125.trans (congrArg some (by kernel_rfl))⟩
 f16:=⟨Tryz.f126.name,by decide,Tryz.func126.trans (congrArg some (by kernel_rfl))⟩
 f17:=⟨Tryz.f127.name,by decide,Tryz.func127.trans (congrArg some (by kernel_rfl))⟩
 f18:=⟨Tryz.f128.name,by decide,Tryz.func128.trans (congrArg some (by kernel_rfl))⟩
 f19:=Tryz.func129.trans (congrArg some (by kernel_rfl))
 f20:=Tryz.func130.trans (congrArg some (by kernel_rfl))
 f30:=⟨Tryz.f143.name,by decide,Tryz.func143.trans (congrArg some (by kernel_rfl))⟩
 f31:=Tryz.func144.trans (congrArg some (by kernel_rfl))
 f32:=Tryz.func145.trans (congrArg some (by kernel_rfl))
 f33:=⟨Tryz.f146.name,by decide,Tryz.func146.trans (congrArg some (by kernel_rfl))⟩
 f34:=⟨Tryz.f147.name,by decide,Tryz.func147.trans (congrArg some (by kernel_rfl))⟩
 f35:=⟨Tryz.f118.name,by decide,Tryz.func118.trans (congrArg some (by kernel_rfl))⟩
 f40:=⟨Tryz.f153.name,by decide,Tryz.func153.trans (congrArg some (by kernel_rfl))⟩
 t0:=Tryz.underlying0
 a0:=Tryz.isAgg0
 z0:=Tryz.sizeOf0
 v0:=Tryz.zeroValue0
 t3:=Tryz.underlying3
 a3:=Tryz.isAgg3
 z3:=Tryz.sizeOf3
 v3:=Tryz.zeroValue3
 t4:=Tryz.underlying4
 a4:=Tryz.isAgg4
 z4:=Tryz.sizeOf4
 v4:=Tryz.zeroValue4
 t5:=Tryz.underlying5
 a5:=Tryz.isAgg5
 z5:=Tryz.sizeOf5
 v5:=Tryz.zeroValue5
 t9:=Tryz.underlying9
 a9:=Tryz.isAgg9
 z9:=Tryz.sizeOf9
 v9:=Tryz.zeroValue9
 t22:=Tryz.underlying35
 a22:=Tryz.isAgg35
 z22:=Tryz.sizeOf35
 v22:=Tryz.zeroValue35
 t23:=Tryz.underlying35
 a23:=Tryz.isAgg35
 z23:=Tryz.sizeOf35
 v23:=Tryz.zeroValue35
 t25:=Tryz.underlying3
 a25:=Tryz.isAgg3
 z25:=Tryz.sizeOf3
 v25:=Tryz.zeroValue3
 t32:=Tryz.underlying123
 a32:=Tryz.isAgg123
 z32:=Tryz.sizeOf123
 v32:=Tryz.zeroValue123
 t35:=Tryz.underlying200
 a35:=Tryz.isAgg200
 z35:=Tryz.sizeOf200
 v35:=Tryz.zeroValue200
 t36:=Tryz.underlying201
 a36:=Tryz.isAgg201
 z36:=Tryz.sizeOf201
 v36:=Tryz.zeroValue201
 t41:=Tryz.underlying132
 a41:=Tryz.isAgg132
 z41:=Tryz.sizeOf132
 v41:=Tryz.zeroValue132
 t44:=Tryz.underlying117
 a44:=Tryz.isAgg117
 z44:=Tryz.sizeOf117
 v44:=Tryz.zeroValue117
 t46:=Tryz.underlying121
 a46:=Tryz.isAgg121
 z46:=Tryz.sizeOf121
 v46:=Tryz.zeroValue121
 t53:=Tryz.underlying218
 a53:=Tryz.isAgg218
 z53:=Tryz.sizeOf218
 v53:=Tryz.zeroValue218
 t57:=Tryz.underlying222
 a57:=Tryz.isAgg222
 z57:=Tryz.sizeOf222
 v57:=Tryz.zeroValue222
 t63:=Tryz.underlying226
 a63:=Tryz.isAgg226
 z63:=Tryz.sizeOf226
 v63:=Tryz.zeroValue226
 t64:=Tryz.underlying227
 a64:=Tryz.isAgg227
 z64:=Tryz.sizeOf227
 v64:=Tryz.zeroValue227 }
end Go.Proofs
namespace Go.Proofs.YthlkgmdkabelpaaGreat.X
open Go Go.RowKit Go.Shelf Go.Sort
theorem KZ:ph Tryz.prog 71:=
 ⟨fun ek off cap zs w hH hb hs=>AnyM.slices_Sort_int Tryz.sortInt ek off cap zs w hH hb hs,fun p cap w=>AnyM.slices_Sort_int_none Tryz.sortInt p cap w⟩
open Go.Proofs.YthlkgmdkabelpaaGreat.St
theorem zm{P:Program}{T:RT}{R:List (Nat×Option Nat)}{n m:Nat}{L L':List (Nat×Option bb)}{o:Option bb}(h:o=none)(hs:kx P T R n L L'):kx P T R n L ((m,o)::L'):=⟨fun u e=>(by rw[h]at e;cases e),hs⟩
theorem Sh{fr:XF}{k:IntKind}:ev fr (.const (.int k 50))=some (.int k ((50:Nat):Int)):=rfl
noncomputable def ze:HF:=ju (ic eN iN) (bu (cN yz fun p=>eG (eI p.o)))
noncomputable def KT:HF:=ju (ic eN zg) (bu (cN CM fun _=>.tuple #[.string (str []),.bool false]))
noncomputable def yp:HF:=ju (ic eN uM) (bu (cN CD fun _=>.slice none 0 0))
noncomputable def Fx:HF:=ju (ic eN Bh) (bu (cN C3 fun _=>.tuple #[.agg (aF (List.replicate 32 0)).toArray,.int .i64 1]))
noncomputable def NJ:HF:=bu (cN tC fun _=>.tuple #[.agg #[.slice none 0 0],.int .i64 50])
noncomputable def NT:HF:=bu (cN tC fun _=>.tuple #[.slice none 0 0,.int .i64 50])
theorem V1:bD Tryz.prog 19 NJ:=fa (enters_of (by kernel_rfl)) (fun k=>aw (aG 1 rfl) (aw (mK _) aQ)) (fun k=>fp (aw (fK (aw (aG 1 rfl) aQ)) (aw (aG 1 rfl) aQ))) Ni
theorem Wz:bD Tryz.prog 21 NT:=fa (enters_of (by kernel_rfl)) (fun k=>aw (aG 1 rfl) (aw (mK _) aQ)) (fun k=>fp (aw (aG 1 rfl) (aw (aG 1 rfl) aQ))) MF
noncomputable def TL:List (FuncId×HF):=[(7,bu MW),(10,ze),(12,KT),(17,Fx),(19,NJ),(21,NT),(27,rm),(26,yp),(8,G5),(24,bu CS)]
theorem hZ:dv Tryz.prog (cE TL []):=⟨mixed,bU (.cons _ _ _ Wh (.cons _ _ _ (o6 Of RS) (.cons _ _ _ (o6 WB TG) (.cons _ _ _ (o6 (YC KZ) Wu) (.cons _ _ _ V1 (.cons _ _ _ Wz (.cons _ _ _ Iw (.cons _ _ _ (o6 (WV P0) Ua) (.cons _ _ _ W9 (.cons _ _ _ YB .nil)))))))))) .nil⟩
theorem Th{k:HB}{W:XW}:NJ [.pointer none,eG k] W=some (.ret (.tuple #[.agg #[.slice none 0 0],.int .i64 50]),W):=eu (enc:=tC) (a:=k) fun q h=>rfl
theorem TY{k:HB}{W:XW}:NT [.pointer none,eG k] W=some (.ret (.tuple #[.slice none 0 0,.int .i64 50]),W):=eu (enc:=tC) (a:=k) fun q h=>rfl
theorem qp{L:List (Nat×Option bb)}{n nl w b:Nat}{lg:List Nat}{es:cX}(hw:w<n)(hb:b<n)(hn2:n<=16383)(hwb:w≠b)(h0:lk L w=some (aJ es b))(h1:lk L b=bG es):mu eN (wd L n lg nl) w b es:=
 ⟨by rw[bO hw (by omega),h0];rfl,fun o h=>⟨by rw[bO hb (by omega),h1];exact h,hwb⟩⟩
theorem oI{L:List (Nat×Option bb)}{n nl w b:Nat}{lg:List Nat}(hw:w<n)(hn2:n<=16383)(h0:lk L w=some (aJ [] b)):mu eN (wd L n lg nl) w b []:=
 ⟨by rw[bO hw (by omega),h0];rfl,fun o h=>by cases h⟩
theorem HA{p:PP cX}{xs:List Value}{W:XW}{w b:Nat}{a a':cX}{v:Value}{o:bb}(h:mu eN W w b a)(hp:p xs a=some (v,a',.pl))(hs:bG a'=some o)(hsa:a≠[]):ic eN p (.pointer (some ⟨w,0,none⟩)::xs) W=some (.ret v,(W.put b (some o)).put w (some (aJ a' b))):=by
 have hsa:eN.sat a≠none:=by cases a with|nil=>exact absurd rfl hsa|cons x l=>exact fun e=>by cases e
 rw[qk h (fun v a' e _=>hsa),hp];unfold oT;simp only[show eN.sat a'=some o from hs];rfl
theorem ox{p:PP cX}{xs:List Value}{W:XW}{w b:Nat}{a a':cX}{v:Value}(h:mu eN W w b a)(hp:p xs a=some (v,a',.rd)):ic eN p (.pointer (some ⟨w,0,none⟩)::xs) W=some (.ret v,W):=by
 rw[qk h (fun v a' e=>by rw[hp]at e;cases e),hp];rfl
theorem wU{p:PP cX}{xs:List Value}{W:XW}{w b:Nat}{a':cX}{v:Value}{o:bb}(h:mu eN W w b [])(hp:p xs []=some (v,a',.mv))(hs:bG a'=some o):ic eN p (.pointer (some ⟨w,0,none⟩)::xs) W=some (.ret v,(W.push o).put w (some (aJ a' W.next))):=by
 rw[qk h (fun v a' e=>by rw[hp]at e;cases e),hp];unfold oT;simp only[show eN.sat a'=some o from hs,show eN.sat ([]:cX)=none from rfl];rfl
theorem wk(es:cX)(o:List UInt8):(gK es o).length<=es.length+1:=by
 unfold gK;split
 ·omega
 simp
theorem z7(rs:fj):∀(ks:List Int) (es:cX),(l9 rs ks es).length<=es.length+ks.length
 |[],es=>Nat.le_refl _
 |k::ks,es=>by
  have h1:=z7 rs ks (gK es (Af rs k));have h2:=wk es (Af rs k);rw[List.length_cons];show(l9 rs ks (gK es (Af rs k))).length<=_;omega
theorem LF(o:Option (List aC)):(j4 [] o).length<=5000:=by
 unfold j4;split
 ·rename_i h;have h1:=wk (l9 (i9 (ao (dC o))) (lc o) []) (uS (i9 (ao (dC o))) (lc o));have h2:=z7 (i9 (ao (dC o))) (lc o) [];have h3:=(Bl h).len;have h4:=(yx (ao (dC o))).len;have h5:(lc o).length=(i9 (ao (dC o))).length:=by unfold lc;rw[oH];exact aaq ..
  simp only[List.length_nil]at h2;omega
 exact Z3 _
theorem Vp{cs:List aC}(h:NZ cs):∃c:EL,c.o=oO cs:=by
 refine⟨⟨oO cs,?_,fun x hx=>?_,fun x hx=>?_⟩,rfl⟩
 ·show(ao (oO cs)).length<=ql;rw[iz];exact Nat.le_trans h.len (by decide)
 ·rw[iz]at hx;exact Nat.le_trans (h.few x hx) (by decide)
 have hm:∃y∈cs,y.id=x.id:=by
  unfold dC l4 at hx;cases hc:oO cs with
  |none=>rw[hc]at hx;cases hx
  |some q=>
   rw[hc]at hx;have hq:q=cs:=by have:=iz cs;rw[hc]at this;exact this
   subst hq;obtain⟨y,hy,rfl⟩:=List.mem_map.1 (show x∈(cg bi q).map EQ from hx);have hp:=ud.1 hy;exact⟨y,hp,rfl⟩
 obtain⟨y,hy,he⟩:=hm;have:=(h.id y hy).2;rw[<-he];omega
set_option maxHeartbeats 8000000 in
theorem Mf(o:List UInt8)(a:OL)(ho:o.length<=140737488351232):aN Tryz.prog 6 [.string (str o),al au a] (wd [] 0 [] 0) fun e W'=>e=.ret (.bool true):=by
 have hoa:bk (al au a)=true:=bL _;have hgS:∀W,bu MW [] W=some (.ret (.bool true),W):=fun W=>rfl
 have hsl:(bW o).length=32:=dJ o;have hbl:(aF (bW o)).length=32:=by rw[bK,hsl]
 have hgP:∀W,ze [.pointer none,.string (str o)] W=some (.ret (.agg (aF (bW o)).toArray),W):=fun W=>pj rfl (QI ho)
 have hgG:∀W,KT [.pointer none,.agg (aF (bW o)).toArray] W=some (.ret (.tuple #[.string (str []),.bool false]),W):=fun W=>pj rfl (OA (k:=eI o))
 have hgX:∀W,NJ [.pointer none,.agg (aF (bW o)).toArray] W=some (.ret (.tuple #[.agg #[.slice none 0 0],.int .i64 50]),W):=fun W=>Th (k:=eI o)
 have hgB:∀W,NT [.pointer none,.agg (aF (bW o)).toArray] W=some (.ret (.tuple #[.slice none 0 0,.int .i64 50]),W):=fun W=>TY (k:=eI o)
 have hgA:∀W,yp [.pointer none] W=some (.ret (.slice none 0 0),W):=fun W=>pj rfl QB
 have hgU:∀W,rm [.string (str o)] W=some (.ret (.agg (aF (bW o)).toArray),W):=fun W=>uP ho
 have h50:((50:Int) !=((50:Nat):Int))=false:=by decide
 have h51:((1:Int) !=((1:Nat):Int))=false:=by decide
 have hnq:∀x y,eJ Tryz.prog .neq 24 x y (some (.agg (aF (bW o)).toArray)) (some (.agg (aF (bW o)).toArray))=some (.val (some (.bool false))):=fun x y=>by rw[(rI gB hsl hsl).2];simp
 have heq:∀x y,eJ Tryz.prog .eql 24 x y (some (.agg (aF (bW o)).toArray)) (some (.agg (aF (bW o)).toArray))=some (.val (some (.bool true))):=fun x y=>by rw[(rI gB hsl hsl).1];simp
 refine be hZ Tryz.func6 rfl (Nat.le_of_ble_eq_true rfl) ?_;simp only[aY.eq_1,aY.eq_2,bf,Tryz.ntmps6,reduceAdd];refine ae (ac hZ (by simp(disch:=first|decide|omega) only[hoa,go_sem]<;>with_reducible rfl) ?_);refine ae (ac hZ (by simp(disch:=first|decide|omega) only[TL,hgS,hoa,go_sem]<;>with_reducible rfl) ?_);refine ae (cI ?_);refine aP hZ 1 (s1:=?sA) ?hA (fT (f:=16) (args:=[al au a]) (S:=fun e W'=>∃cs:List aC,NZ cs/\e=.ret (.agg #[al an (oO cs)])/\W'.next<=40) (enters_of (by kernel_rfl)) rfl ?hxA ?hlA ?qA)
 case hA=>simp(disch:=first|decide|omega) only[hoa,go_sem]<;>with_reducible rfl
 case hxA=>simp(disch:=first|decide|omega) only[go_sem]
 case hlA=>exact LT a
 intro e W' ⟨cs,hcx,he,hn⟩;refine⟨_,_,he,dQ (by decide),?_⟩;refine ec (iF (L:=[]) (n':=40) (lg:=[]) (nl:=0) hn fun n o e=>(by cases e)) ?_;obtain⟨c,hco⟩:=Vp hcx;obtain⟨oc,hoc⟩:∃oc,oc=oO cs:=⟨_,rfl⟩;rw[<-hoc]at hco;rw[<-hoc];clear hoc hcx he hn;clear hoa;have hoo:bk (al an oc)=true:=bL _;have hgC:∀W,Fx [.pointer none,.agg #[al an oc]] W=some (.ret (.tuple #[.agg (aF (List.replicate 32 0)).toArray,.int .i64 1]),W):=fun W=>pj rfl RV
 refine aP hZ 1 (s1:=?sB) ?hB (aP hZ 1 (s1:=?sC) ?hC (cY ?qB))
 case hB=>simp(disch:=first|decide|omega) only[hoo,go_sem]<;>with_reducible rfl
 case hC=>simp(disch:=first|decide|omega) only[hoo,go_sem]<;>with_reducible rfl
 show bA _ _ _ _ _ _;refine aU (s':=⟨aI [(0,some (.string (str o))),(5,some (.bool true)),(6,some (.pointer (some ⟨0,0,none⟩)))],wd [(0,some (.cells [al an oc] 40 (0,0)))] 1 [] 0,[]⟩) (aV [(40,some 0)] [(0,some 40)] (by decide) (by decide) (by decide) (af (v:=.string (str o)) (by decide) (by simp(disch:=first|decide|omega) only[ab,aa]<;>rfl) (ar 8 rfl) (af (v:=.bool true) (by decide) (by simp(disch:=first|decide|omega) only[ab,aa]<;>rfl) (ar 1 rfl) (af (v:=.pointer (some ⟨40,0,none⟩)) (by decide) (by simp(disch:=first|decide|omega) only[ab,aa]<;>rfl) (ay (by simp(disch:=first|decide|omega) only[ab,aa])) aR))) (aj (o:=.cells [al an oc] 40 (0,0)) 40 (by simp(disch:=first|decide|omega) only[ab,aa]) (by decide) (by decide) (by simp(disch:=first|decide|omega) only[ab,aa]<;>rfl) (aq ah (bc (aw (aB aW _) aQ))) bj) .nil) ?_;refine ae (ac hZ (by simp(disch:=first|decide|omega) only[go_sem]<;>with_reducible rfl) ?_);refine ae (ac hZ (by simp(disch:=first|decide|omega) only[TL,hgP,hbl,hsl,go_sem]<;>with_reducible rfl) ?_);refine ae (ac hZ (by simp(disch:=first|decide|omega) only[TL,hgG,hbl,hsl,go_sem]<;>with_reducible rfl) ?_);refine ae (ac hZ (by simp(disch:=first|decide|omega) only[TL,hgC,hoo,go_sem]<;>with_reducible rfl) ?_);refine ae (ac hZ (by simp(disch:=first|decide|omega) only[TL,hgX,hbl,hsl,go_sem]<;>with_reducible rfl) ?_);refine ae (ac hZ (by simp(disch:=first|decide|omega) only[TL,hgB,hbl,hsl,go_sem]<;>with_reducible rfl) ?_);refine ae ?_;refine bl hZ ⟨aI [(0,some (.string (str o))),(5,some (.bool true)),(6,some (.pointer (some ⟨0,0,none⟩))),(8,some (.pointer (some ⟨1,0,none⟩))),(79,some (.bool false))],wd [(0,some (.cells [al an oc] 40 (0,0))),(1,some (.cells (aF (bW o)) 24 (0,0)))] 2 [] 0,[]⟩ ?hd9 ?qd9
 case hd9=>
  refine⟨?rs9,?sx9,?hx9,?kx9,?lx9⟩
  case hx9=>simp(disch:=first|decide|omega) only[aE.eq_1,aE.eq_2,cm.eq_1,bd.eq_1,bd.eq_2,TL,hgU,hgA,hnq,hbl,hsl,Sh,h50,h51,go_sem]<;>with_reducible rfl
  case kx9=>kernel_rfl
  exact aV [(0,some 0),(1,some 1)] [(0,some 0),(1,some 1)] (by decide) (by decide) (by decide) (af (v:=.string (str o)) (by decide) (by simp(disch:=first|decide|omega) only[ab,aa]<;>rfl) (ar 8 rfl) (af (v:=.bool true) (by decide) (by simp(disch:=first|decide|omega) only[ab,aa]<;>rfl) (ar 1 rfl) (af (v:=.pointer (some ⟨0,0,none⟩)) (by decide) (by simp(disch:=first|decide|omega) only[ab,aa]<;>rfl) (ay (by simp(disch:=first|decide|omega) only[ab,aa])) (af (v:=.pointer (some ⟨1,0,none⟩)) (by decide) (by simp(disch:=first|decide|omega) only[ab,aa]<;>rfl) (ay (by simp(disch:=first|decide|omega) only[ab,aa])) (af (v:=.bool false) (by decide) (by simp(disch:=first|decide|omega) only[ab,aa]<;>rfl) (ar 1 rfl) aR))))) (aj (o:=.cells [al an oc] 40 (0,0)) 0 (by simp(disch:=first|decide|omega) only[ab,aa]) (by decide) (by decide) (by simp(disch:=first|decide|omega) only[ab,aa]<;>rfl) (aq ah (bc (aw (aB aW _) aQ))) (aj (o:=.cells (aF (bW o)) 24 (0,0)) 1 (by simp(disch:=first|decide|omega) only[ab,aa]) (by decide) (by decide) (by simp(disch:=first|decide|omega) only[ab,aa]<;>rfl) (aq ah (bc (dn _))) bj)) .nil
 refine aO (by simp(disch:=first|decide|omega) only[go_sem]<;>with_reducible rfl) ?_;refine aH ?_;show bA _ _ _ _ _ _;have hgN:∀W,G5 [] W=some (.ret (.pointer (some ⟨W.next,0,none⟩)),W.push (aJ [] 0)):=fun W=>UW
 refine ae (ac hZ (by simp(disch:=first|decide|omega) only[TL,hgN,go_sem]<;>with_reducible rfl) ?_);refine aU (s':=⟨aI [(0,some (.string (str o))),(5,some (.bool true)),(6,some (.pointer (some ⟨0,0,none⟩))),(8,some (.pointer (some ⟨1,0,none⟩))),(17,some (.pointer (some ⟨2,0,none⟩))),(18,some (.pointer (some ⟨3,0,none⟩)))],wd [(0,some (.cells [al an oc] 40 (0,0))),(1,some (.cells (aF (bW o)) 24 (0,0))),(2,some (aJ [] 4)),(3,some (aJ [] 5))] 4 [] 0,[]⟩) (aV [(0,some 0),(1,some 1),(2,some 2),(3,some 3)] [(0,some 0),(1,some 1),(2,some 2),(3,some 3)] (by decide) (by decide) (by decide) (af (v:=.string (str o)) (by decide) rfl (ar 8 rfl) (af (v:=.bool true) (by decide) rfl (ar 1 rfl) (af (v:=.pointer (some ⟨0,0,none⟩)) (by decide) rfl (ay rfl) (af (v:=.pointer (some ⟨1,0,none⟩)) (by decide) rfl (ay rfl) (af (v:=.pointer (some ⟨2,0,none⟩)) (by decide) rfl (ay rfl) (af (v:=.pointer (some ⟨3,0,none⟩)) (by decide) rfl (ay rfl) aR)))))) (aj (o:=.cells [al an oc] 40 (0,0)) 0 rfl (by decide) (by decide) rfl (aq ah (bc (aw (aB aW _) aQ))) (aj (o:=.cells (aF (bW o)) 24 (0,0)) 1 rfl (by decide) (by decide) rfl (aq ah (bc (dn _))) (aj (o:=aJ [] 4) 2 rfl (by decide) (by decide) rfl (bJ (ax (ar 1 rfl) aX)) (aj (o:=aJ [] 5) 3 rfl (by decide) (by decide) rfl (bJ (ax (ar 1 rfl) aX)) bj)))) .nil) ?_;have hgZ:KT [.pointer (some ⟨2,0,none⟩),.agg (aF (bW o)).toArray] (wd [(0,some (.cells [al an oc] 40 (0,0))),(1,some (.cells (aF (bW o)) 24 (0,0))),(2,some (aJ [] 4)),(3,some (aJ [] 5))] 4 [] 0)=some (.ret (.tuple #[.string (str []),.bool false]),(wd [(0,some (.cells [al an oc] 40 (0,0))),(1,some (.cells (aF (bW o)) 24 (0,0))),(2,some (aJ [] 4)),(3,some (aJ [] 5))] 4 [] 0)):=iH (ox (w:=2) (b:=4) (xs:=[eG (eI o)]) (a':=[]) (oI (by decide) (by decide) (by simp(disch:=first|decide|omega) only[ab,aa])) (PO (es:=[]) (k:=eI o)));refine ae (ac hZ (by simp(disch:=first|decide|omega) only[TL,hgZ,hbl,hsl,go_sem]<;>with_reducible rfl) ?_);obtain⟨es1,he1⟩:∃e,e=j4 [] oc:=⟨_,rfl⟩;have hel:es1.length<=5000:=by rw[he1];exact LF oc
 obtain⟨hx,cv,hxl,hpv⟩:∃(h:List UInt8) (v:Int),h.length=32/\qI oc=.tuple #[.agg (aF h).toArray,.int .i64 v]:=by
  unfold qI;split
  ·exact⟨_,_,dJ _,rfl⟩
  exact⟨_,_,rfl,rfl⟩
 have hxb:(aF hx).length=32:=by rw[bK,hxl]
 have hpp:Bh [.agg #[al an oc]] []=some (.tuple #[.agg (aF hx).toArray,.int .i64 cv],es1,xK [] oc):=by have:=Q8 (es:=[]) c;rw[hco]at this;rw[he1,<-hpv];exact this
 have hcs:(xK [] oc=.mv/\∃s1,bG es1=some s1/\es1≠[])\/(xK [] oc=.rd/\es1=[]):=by
  by_cases hck:(eh oc).2=0
  ·refine .inl ⟨if_pos hck,?_⟩;have hne:es1≠[]:=by rw[he1];unfold j4;rw[if_pos hck];exact oJ _ _
   obtain⟨s,hs⟩:=qr hne;exact⟨s,hs,hne⟩
  exact .inr ⟨if_neg hck,by rw[he1];unfold j4;rw[if_neg hck]⟩
 refine cP hZ ⟨aI [(0,some (.string (str o))),(5,some (.bool true)),(6,some (.pointer (some ⟨0,0,none⟩))),(8,some (.pointer (some ⟨1,0,none⟩))),(17,some (.pointer (some ⟨2,0,none⟩))),(18,some (.pointer (some ⟨3,0,none⟩))),(20,some (.bool false)),(21,some (.pointer (some ⟨6,0,none⟩))),(22,some (.int .i64 cv))],wd [(0,some (.cells [al an oc] 40 (0,0))),(1,some (.cells (aF (bW o)) 24 (0,0))),(2,some (aJ es1 4)),(3,some (aJ [] 5)),(4,bG es1),(6,some (.cells (aF hx) 24 (0,0)))] 8 [] 0,[]⟩ ?hd13 ?qd13
 case hd13=>
  rcases hcs with⟨hm,s1,hs1,_⟩|⟨hm,h1⟩
  ·rw[hm]at hpp;have hgq:Fx [.pointer (some ⟨2,0,none⟩),.agg #[al an oc]] (wd [(0,some (.cells [al an oc] 40 (0,0))),(1,some (.cells (aF (bW o)) 24 (0,0))),(2,some (aJ [] 4)),(3,some (aJ [] 5))] 4 [] 0)=some (.ret (.tuple #[.agg (aF hx).toArray,.int .i64 cv]),wd ((2,some (aJ es1 4))::(4,some s1)::[(0,some (.cells [al an oc] 40 (0,0))),(1,some (.cells (aF (bW o)) 24 (0,0))),(2,some (aJ [] 4)),(3,some (aJ [] 5))]) 5 [2] 1):=iH ((wU (w:=2) (b:=4) (xs:=[.agg #[al an oc]]) (oI (by decide) (by decide) rfl) hpp hs1).trans (by simp only[di,gR,bf]));refine⟨?s13a,?h13a,?l13a⟩
   case h13a=>simp(disch:=decide) only[TL,hgq,hoo,hxb,hxl,go_sem]<;>with_reducible rfl
   rw[hs1];exact aV [(0,some 0),(1,some 1),(2,some 2),(3,some 3),(4,some 4),(5,some 6)] [(0,some 0),(1,some 1),(2,some 2),(3,some 3),(4,some 4),(6,some 5)] (by decide) (by decide) (by decide) (af (by decide) rfl (ar 8 rfl) (af (by decide) rfl (ar 1 rfl) (af (by decide) rfl (ay rfl) (af (by decide) rfl (ay rfl) (af (by decide) rfl (ay rfl) (af (by decide) rfl (ay rfl) (af (by decide) rfl (ar 1 rfl) (af (by decide) rfl (ay rfl) (af (by decide) rfl (ar 1 rfl) aR))))))))) (aj 0 rfl (by decide) (by decide) rfl (aq ah (bc (aw (aB aW _) aQ))) (aj 1 rfl (by decide) (by decide) rfl (aq ah (bc (dn _))) (aj 2 rfl (by decide) (by decide) rfl (iT rfl) (aj 3 rfl (by decide) (by decide) rfl (bJ (ax (ar 1 rfl) aX)) (aj 4 rfl (by decide) (by decide) rfl (eN.bare es1 _ hs1 _ ah) (aj 5 rfl (by decide) (by decide) rfl (aq ah (bc (dn _))) bj)))))) .nil
  rw[hm]at hpp;rw[h1]at hpp ⊢;have hgq:Fx [.pointer (some ⟨2,0,none⟩),.agg #[al an oc]] (wd [(0,some (.cells [al an oc] 40 (0,0))),(1,some (.cells (aF (bW o)) 24 (0,0))),(2,some (aJ [] 4)),(3,some (aJ [] 5))] 4 [] 0)=some (.ret (.tuple #[.agg (aF hx).toArray,.int .i64 cv]),(wd [(0,some (.cells [al an oc] 40 (0,0))),(1,some (.cells (aF (bW o)) 24 (0,0))),(2,some (aJ [] 4)),(3,some (aJ [] 5))] 4 [] 0)):=iH (ox (w:=2) (b:=4) (xs:=[.agg #[al an oc]]) (oI (by decide) (by decide) rfl) hpp);refine⟨?s13b,?h13b,?l13b⟩
  case h13b=>simp(disch:=decide) only[TL,hgq,hoo,hxb,hxl,go_sem]<;>with_reducible rfl
  exact aV [(0,some 0),(1,some 1),(2,some 2),(3,some 3),(4,some 6)] [(0,some 0),(1,some 1),(2,some 2),(3,some 3),(6,some 4)] (by decide) (by decide) (by decide) (af (by decide) rfl (ar 8 rfl) (af (by decide) rfl (ar 1 rfl) (af (by decide) rfl (ay rfl) (af (by decide) rfl (ay rfl) (af (by decide) rfl (ay rfl) (af (by decide) rfl (ay rfl) (af (by decide) rfl (ar 1 rfl) (af (by decide) rfl (ay rfl) (af (by decide) rfl (ar 1 rfl) aR))))))))) (aj 0 rfl (by decide) (by decide) rfl (aq ah (bc (aw (aB aW _) aQ))) (aj 1 rfl (by decide) (by decide) rfl (aq ah (bc (dn _))) (aj 2 rfl (by decide) (by decide) rfl (bJ (ax (ar 1 rfl) aX)) (aj 3 rfl (by decide) (by decide) rfl (bJ (ax (ar 1 rfl) aX)) (zm rfl (aj 4 rfl (by decide) (by decide) rfl (aq ah (bc (dn _))) bj)))))) .nil
 refine cP hZ ⟨aI [(0,some (.string (str o))),(5,some (.bool true)),(8,some (.pointer (some ⟨1,0,none⟩))),(17,some (.pointer (some ⟨2,0,none⟩))),(18,some (.pointer (some ⟨3,0,none⟩))),(20,some (.bool false)),(21,some (.pointer (some ⟨6,0,none⟩))),(22,some (.int .i64 cv)),(23,some (.pointer (some ⟨7,0,none⟩))),(24,some (.int .i64 cv))],wd [(1,some (.cells (aF (bW o)) 24 (0,0))),(2,some (aJ es1 4)),(3,some (aJ es1 5)),(4,bG es1),(5,bG es1),(6,some (.cells (aF hx) 24 (0,0))),(7,some (.cells (aF hx) 24 (0,0)))] 8 [] 0,[]⟩ ?hd14 ?qd14
 case hd14=>
  rcases hcs with⟨hm,s1,hs1,_⟩|⟨hm,h1⟩
  ·rw[hm]at hpp;have hgq:Fx [.pointer (some ⟨3,0,none⟩),.agg #[al an oc]] (wd [(0,some (.cells [al an oc] 40 (0,0))),(1,some (.cells (aF (bW o)) 24 (0,0))),(2,some (aJ es1 4)),(3,some (aJ [] 5)),(4,bG es1),(6,some (.cells (aF hx) 24 (0,0)))] 8 [] 0)=some (.ret (.tuple #[.agg (aF hx).toArray,.int .i64 cv]),wd ((3,some (aJ es1 8))::(8,some s1)::[(0,some (.cells [al an oc] 40 (0,0))),(1,some (.cells (aF (bW o)) 24 (0,0))),(2,some (aJ es1 4)),(3,some (aJ [] 5)),(4,bG es1),(6,some (.cells (aF hx) 24 (0,0)))]) 9 [3] 1):=iH ((wU (w:=3) (b:=5) (xs:=[.agg #[al an oc]]) (oI (by decide) (by decide) rfl) hpp hs1).trans (by simp only[di,gR,bf]));refine⟨?s14a,?h14a,?l14a⟩
   case h14a=>simp(disch:=first|decide|omega) only[TL,hgq,hoo,hxb,hxl,go_sem]<;>with_reducible rfl
   rw[hs1];exact aV [(1,some 1),(2,some 2),(3,some 3),(4,some 4),(8,some 5),(6,some 6),(9,some 7)] [(1,some 1),(2,some 2),(3,some 3),(4,some 4),(5,some 8),(6,some 6),(7,some 9)] (by decide) (by decide) (by decide) (af (v:=.string (str o)) (by decide) (by simp(disch:=first|decide|omega) only[ab,aa]<;>rfl) (ar 8 rfl) (af (v:=.bool true) (by decide) (by simp(disch:=first|decide|omega) only[ab,aa]<;>rfl) (ar 1 rfl) (af (v:=.pointer (some ⟨1,0,none⟩)) (by decide) (by simp(disch:=first|decide|omega) only[ab,aa]<;>rfl) (ay (by simp(disch:=first|decide|omega) only[ab,aa])) (af (v:=.pointer (some ⟨2,0,none⟩)) (by decide) (by simp(disch:=first|decide|omega) only[ab,aa]<;>rfl) (ay (by simp(disch:=first|decide|omega) only[ab,aa])) (af (v:=.pointer (some ⟨3,0,none⟩)) (by decide) (by simp(disch:=first|decide|omega) only[ab,aa]<;>rfl) (ay (by simp(disch:=first|decide|omega) only[ab,aa])) (af (v:=.bool false) (by decide) (by simp(disch:=first|decide|omega) only[ab,aa]<;>rfl) (ar 1 rfl) (af (v:=.pointer (some ⟨6,0,none⟩)) (by decide) (by simp(disch:=first|decide|omega) only[ab,aa]<;>rfl) (ay (by simp(disch:=first|decide|omega) only[ab,aa])) (af (v:=.int .i64 cv) (by decide) (by simp(disch:=first|decide|omega) only[ab,aa]<;>rfl) (ar 1 rfl) (af (v:=.pointer (some ⟨9,0,none⟩)) (by decide) (by simp(disch:=first|decide|omega) only[ab,aa]<;>rfl) (ay (by simp(disch:=first|decide|omega) only[ab,aa])) (af (v:=.int .i64 cv) (by decide) (by simp(disch:=first|decide|omega) only[ab,aa]<;>rfl) (ar 1 rfl) aR)))))))))) (aj (o:=.cells (aF (bW o)) 24 (0,0)) 1 (by simp(disch:=first|decide|omega) only[ab,aa]) (by decide) (by decide) (by simp(disch:=first|decide|omega) only[ab,aa]<;>rfl) (aq ah (bc (dn _))) (aj (o:=aJ es1 4) 2 (by simp(disch:=first|decide|omega) only[ab,aa]) (by decide) (by decide) (by simp(disch:=first|decide|omega) only[ab,aa]<;>rfl) (iT (by simp(disch:=first|decide|omega) only[ab,aa])) (aj (o:=aJ es1 8) 3 (by simp(disch:=first|decide|omega) only[ab,aa]) (by decide) (by decide) (by simp(disch:=first|decide|omega) only[ab,aa]<;>rfl) (iT (by simp(disch:=first|decide|omega) only[ab,aa])) (aj (o:=s1) 4 (by simp(disch:=first|decide|omega) only[ab,aa]) (by decide) (by decide) (by simp(disch:=first|decide|omega) only[ab,aa]<;>rfl) (eN.bare es1 _ hs1 _ ah) (aj (o:=s1) 8 (by simp(disch:=first|decide|omega) only[ab,aa]) (by decide) (by decide) (by simp(disch:=first|decide|omega) only[ab,aa]<;>rfl) (eN.bare es1 _ hs1 _ ah) (aj (o:=.cells (aF hx) 24 (0,0)) 6 (by simp(disch:=first|decide|omega) only[ab,aa]) (by decide) (by decide) (by simp(disch:=first|decide|omega) only[ab,aa]<;>rfl) (aq ah (bc (dn _))) (aj (o:=.cells (aF hx) 24 (0,0)) 9 (by simp(disch:=first|decide|omega) only[ab,aa]) (by decide) (by decide) (by simp(disch:=first|decide|omega) only[ab,aa]<;>rfl) (aq ah (bc (dn _))) bj))))))) .nil
  rw[hm]at hpp;rw[h1]at hpp ⊢;have hgq:Fx [.pointer (some ⟨3,0,none⟩),.agg #[al an oc]] (wd [(0,some (.cells [al an oc] 40 (0,0))),(1,some (.cells (aF (bW o)) 24 (0,0))),(2,some (aJ [] 4)),(3,some (aJ [] 5)),(4,bG []),(6,some (.cells (aF hx) 24 (0,0)))] 8 [] 0)=some (.ret (.tuple #[.agg (aF hx).toArray,.int .i64 cv]),wd [(0,some (.cells [al an oc] 40 (0,0))),(1,some (.cells (aF (bW o)) 24 (0,0))),(2,some (aJ [] 4)),(3,some (aJ [] 5)),(4,bG []),(6,some (.cells (aF hx) 24 (0,0)))] 8 [] 0):=iH (ox (w:=3) (b:=5) (xs:=[.agg #[al an oc]]) (oI (by decide) (by decide) (by simp(disch:=first|decide|omega) only[ab,aa])) hpp);refine⟨?s14b,?h14b,?l14b⟩
  case h14b=>simp(disch:=first|decide|omega) only[TL,hgq,hoo,hxb,hxl,go_sem]<;>with_reducible rfl
  exact aV [(1,some 1),(2,some 2),(3,some 3),(6,some 6),(8,some 7)] [(1,some 1),(2,some 2),(3,some 3),(6,some 6),(7,some 8)] (by decide) (by decide) (by decide) (af (v:=.string (str o)) (by decide) (by simp(disch:=first|decide|omega) only[ab,aa]<;>rfl) (ar 8 rfl) (af (v:=.bool true) (by decide) (by simp(disch:=first|decide|omega) only[ab,aa]<;>rfl) (ar 1 rfl) (af (v:=.pointer (some ⟨1,0,none⟩)) (by decide) (by simp(disch:=first|decide|omega) only[ab,aa]<;>rfl) (ay (by simp(disch:=first|decide|omega) only[ab,aa])) (af (v:=.pointer (some ⟨2,0,none⟩)) (by decide) (by simp(disch:=first|decide|omega) only[ab,aa]<;>rfl) (ay (by simp(disch:=first|decide|omega) only[ab,aa])) (af (v:=.pointer (some ⟨3,0,none⟩)) (by decide) (by simp(disch:=first|decide|omega) only[ab,aa]<;>rfl) (ay (by simp(disch:=first|decide|omega) only[ab,aa])) (af (v:=.bool false) (by decide) (by simp(disch:=first|decide|omega) only[ab,aa]<;>rfl) (ar 1 rfl) (af (v:=.pointer (some ⟨6,0,none⟩)) (by decide) (by simp(disch:=first|decide|omega) only[ab,aa]<;>rfl) (ay (by simp(disch:=first|decide|omega) only[ab,aa])) (af (v:=.int .i64 cv) (by decide) (by simp(disch:=first|decide|omega) only[ab,aa]<;>rfl) (ar 1 rfl) (af (v:=.pointer (some ⟨8,0,none⟩)) (by decide) (by simp(disch:=first|decide|omega) only[ab,aa]<;>rfl) (ay (by simp(disch:=first|decide|omega) only[ab,aa])) (af (v:=.int .i64 cv) (by decide) (by simp(disch:=first|decide|omega) only[ab,aa]<;>rfl) (ar 1 rfl) aR)))))))))) (aj (o:=.cells (aF (bW o)) 24 (0,0)) 1 (by simp(disch:=first|decide|omega) only[ab,aa]) (by decide) (by decide) (by simp(disch:=first|decide|omega) only[ab,aa]<;>rfl) (aq ah (bc (dn _))) (aj (o:=aJ [] 4) 2 (by simp(disch:=first|decide|omega) only[ab,aa]) (by decide) (by decide) (by simp(disch:=first|decide|omega) only[ab,aa]<;>rfl) (bJ (ax (ar 1 rfl) aX)) (aj (o:=aJ [] 5) 3 (by simp(disch:=first|decide|omega) only[ab,aa]) (by decide) (by decide) (by simp(disch:=first|decide|omega) only[ab,aa]<;>rfl) (bJ (ax (ar 1 rfl) aX)) (zm rfl (zm rfl (aj (o:=.cells (aF hx) 24 (0,0)) 6 (by simp(disch:=first|decide|omega) only[ab,aa]) (by decide) (by decide) (by simp(disch:=first|decide|omega) only[ab,aa]<;>rfl) (aq ah (bc (dn _))) (aj (o:=.cells (aF hx) 24 (0,0)) 8 (by simp(disch:=first|decide|omega) only[ab,aa]) (by decide) (by decide) (by simp(disch:=first|decide|omega) only[ab,aa]<;>rfl) (aq ah (bc (dn _))) bj))))))) .nil
 clear hpp hpv he1 hco hgC hgN hgZ hgS hgP hgG hgX hgB hgA hgU hnq hoo;have hcc:(cv==cv)=true:=AL rfl;have hxq:∀x y,eJ Tryz.prog .eql 24 x y (some (.agg (aF hx).toArray)) (some (.agg (aF hx).toArray))=some (.val (some (.bool true))):=fun x y=>by rw[(rI gB hxl hxl).1];simp
 obtain⟨es2,he2⟩:∃e,e=gK es1 o:=⟨_,rfl⟩;have hel2:es2.length<=1000000:=by rw[he2];have:=wk es1 o;omega
 have hne2:es2≠[]:=by rw[he2];exact oJ _ _
 obtain⟨s2,hs2⟩:=qr hne2;obtain⟨V,hV⟩:∃v,v=jk (dY (fF es2)):=⟨_,rfl⟩;have hV1:bk V=true:=by rw[hV];exact qQ _
 have hpA:uM [] es2=some (V,es2,.rd):=by rw[hV];exact LB hel2
 have hgh:∀W,bu CS [V,V] W=some (.ret (.bool true),W):=fun W=>by
  have hl:(dY (fF es2)).length<=1000000:=by rw[oS];unfold fF;rw[aaq];exact hel2
  have:=Sf (a:=dY (fF es2)) (b:=dY (fF es2)) hl;rw[decide_eq_true rfl,<-hV]at this;rw[A5,this];rfl
 refine bl hZ ⟨aI [(4,some (.bool true))],wd [] 0 [] 0,[]⟩ ?hd15 ?qd15
 case hd15=>
  rcases hcs with⟨_,_,_,hne1⟩|⟨_,h1⟩
  ·have hp1:iN [.string (str o)] es1=some (.agg (aF (bW o)).toArray,es2,.pl):=by rw[oo ho,<-he2,vS hne1];rfl
   have hg1:ze [.pointer (some ⟨2,0,none⟩),.string (str o)] (wd [(1,some (.cells (aF (bW o)) 24 (0,0))),(2,some (aJ es1 4)),(3,some (aJ es1 5)),(4,bG es1),(5,bG es1),(6,some (.cells (aF hx) 24 (0,0))),(7,some (.cells (aF hx) 24 (0,0)))] 8 [] 0)=some (.ret (.agg (aF (bW o)).toArray),wd ((2,some (aJ es2 4))::(4,some s2)::[(1,some (.cells (aF (bW o)) 24 (0,0))),(2,some (aJ es1 4)),(3,some (aJ es1 5)),(4,bG es1),(5,bG es1),(6,some (.cells (aF hx) 24 (0,0))),(7,some (.cells (aF hx) 24 (0,0)))]) 8 [2,4] 2):=iH ((HA (w:=2) (b:=4) (xs:=[.string (str o)]) (qp (by decide) (by decide) (by decide) (by decide) (by simp(disch:=first|decide|omega) only[ab,aa]) (by simp(disch:=first|decide|omega) only[ab,aa])) hp1 hs2 hne1).trans (by simp only[di,gR,bf]));have hg2:ze [.pointer (some ⟨3,0,none⟩),.string (str o)] (wd ((2,some (aJ es2 4))::(4,some s2)::[(1,some (.cells (aF (bW o)) 24 (0,0))),(2,some (aJ es1 4)),(3,some (aJ es1 5)),(4,bG es1),(5,bG es1),(6,some (.cells (aF hx) 24 (0,0))),(7,some (.cells (aF hx) 24 (0,0)))]) 8 [2,4] 2)=some (.ret (.agg (aF (bW o)).toArray),wd ((3,some (aJ es2 5))::(5,some s2)::(2,some (aJ es2 4))::(4,some s2)::[(1,some (.cells (aF (bW o)) 24 (0,0))),(2,some (aJ es1 4)),(3,some (aJ es1 5)),(4,bG es1),(5,bG es1),(6,some (.cells (aF hx) 24 (0,0))),(7,some (.cells (aF hx) 24 (0,0)))]) 8 [3,5,2,4] 4):=iH ((HA (w:=3) (b:=5) (xs:=[.string (str o)]) (qp (by decide) (by decide) (by decide) (by decide) (by simp(disch:=first|decide|omega) only[ab,aa]) (by simp(disch:=first|decide|omega) only[ab,aa])) hp1 hs2 hne1).trans (by simp only[di,gR,bf]));have hga:yp [.pointer (some ⟨2,0,none⟩)] (wd ((3,some (aJ es2 5))::(5,some s2)::(2,some (aJ es2 4))::(4,some s2)::[(1,some (.cells (aF (bW o)) 24 (0,0))),(2,some (aJ es1 4)),(3,some (aJ es1 5)),(4,bG es1),(5,bG es1),(6,some (.cells (aF hx) 24 (0,0))),(7,some (.cells (aF hx) 24 (0,0)))]) 8 [3,5,2,4] 4)=some (.ret V,wd ((3,some (aJ es2 5))::(5,some s2)::(2,some (aJ es2 4))::(4,some s2)::[(1,some (.cells (aF (bW o)) 24 (0,0))),(2,some (aJ es1 4)),(3,some (aJ es1 5)),(4,bG es1),(5,bG es1),(6,some (.cells (aF hx) 24 (0,0))),(7,some (.cells (aF hx) 24 (0,0)))]) 8 [3,5,2,4] 4):=iH (ox (w:=2) (b:=4) (xs:=[]) (qp (by decide) (by decide) (by decide) (by decide) (by simp(disch:=first|decide|omega) only[ab,aa]) (by simp(disch:=first|decide|omega) only[ab,aa];exact hs2.symm)) hpA);have hgb:yp [.pointer (some ⟨3,0,none⟩)] (wd ((3,some (aJ es2 5))::(5,some s2)::(2,some (aJ es2 4))::(4,some s2)::[(1,some (.cells (aF (bW o)) 24 (0,0))),(2,some (aJ es1 4)),(3,some (aJ es1 5)),(4,bG es1),(5,bG es1),(6,some (.cells (aF hx) 24 (0,0))),(7,some (.cells (aF hx) 24 (0,0)))]) 8 [3,5,2,4] 4)=some (.ret V,wd ((3,some (aJ es2 5))::(5,some s2)::(2,some (aJ es2 4))::(4,some s2)::[(1,some (.cells (aF (bW o)) 24 (0,0))),(2,some (aJ es1 4)),(3,some (aJ es1 5)),(4,bG es1),(5,bG es1),(6,some (.cells (aF hx) 24 (0,0))),(7,some (.cells (aF hx) 24 (0,0)))]) 8 [3,5,2,4] 4):=iH (ox (w:=3) (b:=5) (xs:=[]) (qp (by decide) (by decide) (by decide) (by decide) (by simp(disch:=first|decide|omega) only[ab,aa]) (by simp(disch:=first|decide|omega) only[ab,aa];exact hs2.symm)) hpA);refine⟨?rs15a,?sx15a,?hx15a,?kx15a,?lx15a⟩
   case hx15a=>simp(disch:=first|decide|omega) only[aE.eq_1,aE.eq_2,cm.eq_1,bd.eq_1,bd.eq_2,TL,hg1,hg2,hga,hgb,hgh,hV1,hcc,hxq,heq,hbl,hsl,hxb,hxl,go_sem]<;>with_reducible rfl
   case kx15a=>
    refine eK (by kernel_rfl) (by kernel_rfl) ?_
    repeat (refine cH (by kernel_rfl) ?_)
    rfl
   exact aV [] [] (by decide) (by decide) (by decide) (af (v:=.bool true) (by decide) (by simp(disch:=first|decide|omega) only[ab,aa]<;>rfl) (ar 1 rfl) aR) bj .nil
  rw[h1]at he2 ⊢;have hp1:iN [.string (str o)] []=some (.agg (aF (bW o)).toArray,es2,.mv):=by rw[oo ho,<-he2];rfl
  have hg1:ze [.pointer (some ⟨2,0,none⟩),.string (str o)] (wd [(1,some (.cells (aF (bW o)) 24 (0,0))),(2,some (aJ [] 4)),(3,some (aJ [] 5)),(4,bG []),(5,bG []),(6,some (.cells (aF hx) 24 (0,0))),(7,some (.cells (aF hx) 24 (0,0)))] 8 [] 0)=some (.ret (.agg (aF (bW o)).toArray),wd ((2,some (aJ es2 8))::(8,some s2)::[(1,some (.cells (aF (bW o)) 24 (0,0))),(2,some (aJ [] 4)),(3,some (aJ [] 5)),(4,bG []),(5,bG []),(6,some (.cells (aF hx) 24 (0,0))),(7,some (.cells (aF hx) 24 (0,0)))]) 9 [2] 1):=iH ((wU (w:=2) (b:=4) (xs:=[.string (str o)]) (oI (by decide) (by decide) (by simp(disch:=first|decide|omega) only[ab,aa])) hp1 hs2).trans (by simp only[di,gR,bf]));have hg2:ze [.pointer (some ⟨3,0,none⟩),.string (str o)] (wd ((2,some (aJ es2 8))::(8,some s2)::[(1,some (.cells (aF (bW o)) 24 (0,0))),(2,some (aJ [] 4)),(3,some (aJ [] 5)),(4,bG []),(5,bG []),(6,some (.cells (aF hx) 24 (0,0))),(7,some (.cells (aF hx) 24 (0,0)))]) 9 [2] 1)=some (.ret (.agg (aF (bW o)).toArray),wd ((3,some (aJ es2 9))::(9,some s2)::(2,some (aJ es2 8))::(8,some s2)::[(1,some (.cells (aF (bW o)) 24 (0,0))),(2,some (aJ [] 4)),(3,some (aJ [] 5)),(4,bG []),(5,bG []),(6,some (.cells (aF hx) 24 (0,0))),(7,some (.cells (aF hx) 24 (0,0)))]) 10 [3,2] 2):=iH ((wU (w:=3) (b:=5) (xs:=[.string (str o)]) (oI (by decide) (by decide) (by simp(disch:=first|decide|omega) only[ab,aa])) hp1 hs2).trans (by simp only[di,gR,bf]));have hga:yp [.pointer (some ⟨2,0,none⟩)] (wd ((3,some (aJ es2 9))::(9,some s2)::(2,some (aJ es2 8))::(8,some s2)::[(1,some (.cells (aF (bW o)) 24 (0,0))),(2,some (aJ [] 4)),(3,some (aJ [] 5)),(4,bG []),(5,bG []),(6,some (.cells (aF hx) 24 (0,0))),(7,some (.cells (aF hx) 24 (0,0)))]) 10 [3,2] 2)=some (.ret V,wd ((3,some (aJ es2 9))::(9,some s2)::(2,some (aJ es2 8))::(8,some s2)::[(1,some (.cells (aF (bW o)) 24 (0,0))),(2,some (aJ [] 4)),(3,some (aJ [] 5)),(4,bG []),(5,bG []),(6,some (.cells (aF hx) 24 (0,0))),(7,some (.cells (aF hx) 24 (0,0)))]) 10 [3,2] 2):=iH (ox (w:=2) (b:=8) (xs:=[]) (qp (by decide) (by decide) (by decide) (by decide) (by simp(disch:=first|decide|omega) only[ab,aa]) (by simp(disch:=first|decide|omega) only[ab,aa];exact hs2.symm)) hpA);have hgb:yp [.pointer (some ⟨3,0,none⟩)] (wd ((3,some (aJ es2 9))::(9,some s2)::(2,some (aJ es2 8))::(8,some s2)::[(1,some (.cells (aF (bW o)) 24 (0,0))),(2,some (aJ [] 4)),(3,some (aJ [] 5)),(4,bG []),(5,bG []),(6,some (.cells (aF hx) 24 (0,0))),(7,some (.cells (aF hx) 24 (0,0)))]) 10 [3,2] 2)=some (.ret V,wd ((3,some (aJ es2 9))::(9,some s2)::(2,some (aJ es2 8))::(8,some s2)::[(1,some (.cells (aF (bW o)) 24 (0,0))),(2,some (aJ [] 4)),(3,some (aJ [] 5)),(4,bG []),(5,bG []),(6,some (.cells (aF hx) 24 (0,0))),(7,some (.cells (aF hx) 24 (0,0)))]) 10 [3,2] 2):=iH (ox (w:=3) (b:=9) (xs:=[]) (qp (by decide) (by decide) (by decide) (by decide) (by simp(disch:=first|decide|omega) only[ab,aa]) (by simp(disch:=first|decide|omega) only[ab,aa];exact hs2.symm)) hpA);refine⟨?rs15b,?sx15b,?hx15b,?kx15b,?lx15b⟩
  case hx15b=>simp(disch:=first|decide|omega) only[aE.eq_1,aE.eq_2,cm.eq_1,bd.eq_1,bd.eq_2,TL,hg1,hg2,hga,hgb,hgh,hV1,hcc,hxq,heq,hbl,hsl,hxb,hxl,go_sem]<;>with_reducible rfl
  case kx15b=>
   refine eK (by kernel_rfl) (by kernel_rfl) ?_
   repeat (refine cH (by kernel_rfl) ?_)
   rfl
  exact aV [] [] (by decide) (by decide) (by decide) (af (v:=.bool true) (by decide) rfl (ar 1 rfl) aR) bj .nil
 refine bh ?_;refine⟨_,?e12,?W12,rfl,?h12,?q12⟩
 case h12=>simp(disch:=decide) only[Tryz.results6,go_sem]<;>with_reducible rfl
 rfl
end Go.Proofs.YthlkgmdkabelpaaGreat.X
