/-
  Packed by program (tools/pack.py) out of the texts MP MK MI MT MU MF. No condition.
-/
import Derived.Test.YthlkgmdkabelpaaGreatZH
import Derived.Test.YthlkgmdkabelpaaGreatZ4
set_option linter.all false
namespace Go.Proofs.YthlkgmdkabelpaaGreat.X
open Go Go.RowKit Go.Proofs.YthlkgmdkabelpaaGreat.St
theorem JQ{x y:Sd}{o:List Sd}:mT x (y::o)=if y.1<=x.1 then y::mT x o else x::y::o:=by
 unfold mT;rw[mc];split
 ·rw[List.take_succ_cons,List.drop_succ_cons,List.cons_append]
 rfl
theorem CN{x:Sd}:∀{o:List Sd},bV aC o->bV aC (mT x o)/\(∀z∈mT x o,z=x\/z∈o)/\∀k,fk aC k (mT x o)=fk aC k o++fk aC k [x]
 |[],_=>⟨⟨fun z h=>(by cases h),trivial⟩,fun z h=>.inl (by simpa[mT,mc]using h),fun k=>rfl⟩
 |y::o,h=>by
  rw[JQ];split
  ·rename_i hy;obtain⟨h1,h2,h3⟩:=CN (x:=x) h.2;refine⟨⟨fun z hz=>?_,h1⟩,fun z hz=>?_,fun k=>?_⟩
   ·rcases h2 z hz with rfl|q
    ·exact hy
    exact h.1 z q
   ·rcases List.mem_cons.1 hz with rfl|q
    ·exact .inr ab4
    exact(h2 z q).imp id (aca _)
   rw[dc (x:=y) (l:=mT x o),h3,dc (x:=y) (l:=o)];split<;>rfl
  rename_i hy;refine⟨⟨fun z hz=>?_,h⟩,fun z hz=>?_,fun k=>?_⟩
  ·rcases List.mem_cons.1 hz with rfl|q
   ·show x.1<=z.1;omega
   have:=h.1 z q;show x.1<=z.1;have:y.1<=z.1:=this;omega
  ·rcases List.mem_cons.1 hz with rfl|q
   ·exact .inl rfl
   exact .inr q
  rw[dc,dc (l:=[])];split
  ·rename_i hk;have:fk aC k (y::o)=[]:=uP fun z hz e=>by
    have hx:x.1=k:=hk;have hz':z.1=k:=e;rcases List.mem_cons.1 hz with rfl|q
    ·omega
    have:y.1<=z.1:=h.1 z q;omega
   rw[this];rfl
  rw[xV,List.append_nil]
theorem Cw:∀{l o:List Sd},bV aC o->bV aC (fF l o)/\∀k,fk aC k (fF l o)=fk aC k o++fk aC k l
 |[],o,h=>⟨h,fun k=>(List.append_nil _).symm⟩
 |x::l,o,h=>by
  obtain⟨h1,_,h3⟩:=CN (x:=x) h;obtain⟨g1,g2⟩:=Cw (l:=l) h1;refine⟨g1,fun k=>?_⟩;rw[fF,g2,h3,acg,<-jZ];rfl
theorem Kc{l:List Sd}:fF l []=bO aC l:=by
 obtain⟨h1,h2⟩:=Cw (l:=l) (o:=[]) trivial;exact vK.eq ⟨h1,fun k=>by rw[h2];rfl⟩
theorem z7:∀(n:Nat) (a b:List Ce),a.length+b.length<=n->bV au a->bV au b->bV au (iA a b)/\∀k,fk au k (iA a b)=fk au k a++fk au k b
 |n,[],b,_,_,hb=>by rw[iA];exact⟨hb,fun k=>rfl⟩
 |n,x::a,[],_,ha,_=>by rw[iA];exact⟨ha,fun k=>by rw[xV,List.append_nil]⟩
 |0,x::a,y::b,h,_,_=>by simp at h
 |n+1,x::a,y::b,hl,ha,hb=>by
  rw[iA];simp only[List.length_cons]at hl;split
  ·rename_i hyx;obtain⟨h1,h2⟩:=z7 n (x::a) b (by simp only[List.length_cons];omega) ha hb.2;refine⟨⟨fun z hz=>?_,h1⟩,fun k=>?_⟩
   ·show y.id<=z.id;rcases ri _ _ _ (Nat.le_refl _) z hz with q|q
    ·rcases List.mem_cons.1 q with rfl|q
     ·omega
     have:x.id<=z.id:=ha.1 z q;omega
    exact hb.1 z q
   rw[dc (x:=y) (l:=iA (x::a) b),h2];split
   ·rename_i hk;have:fk au k (x::a)=[]:=uP fun z hz e=>by
     have hy:y.id=k:=hk;have hz':z.id=k:=e;rcases List.mem_cons.1 hz with rfl|q
     ·omega
     have:x.id<=z.id:=ha.1 z q;omega
    rw[this,List.nil_append,List.nil_append,dc,if_pos hk]
   rename_i hk;rw[dc (x:=y),if_neg hk]
  rename_i hyx;obtain⟨h1,h2⟩:=z7 n a (y::b) (by simp only[List.length_cons];omega) ha.2 hb;refine⟨⟨fun z hz=>?_,h1⟩,fun k=>?_⟩
  ·show x.id<=z.id;rcases ri _ _ _ (Nat.le_refl _) z hz with q|q
   ·exact ha.1 z q
   rcases List.mem_cons.1 q with rfl|q
   ·omega
   have:y.id<=z.id:=hb.1 z q;omega
  rw[dc (x:=x) (l:=iA a (y::b)),h2,dc (x:=x) (l:=a)];split<;>rfl
def EH(c:Ce):Ce:=⟨c.id,c.dim,fF c.sd []⟩
theorem ED{f:Ce->Ce}(hf:∀c,au (f c)=au c){k:Int}:∀{l:List Ce},fk au k (l.map f)=(fk au k l).map f
 |[]=>rfl
 |c::l=>by
  rw[ack,dc,dc,hf,ED hf];split<;>rfl
theorem Hc{f:Ce->Ce}(hf:∀c,au (f c)=au c):∀{l:List Ce},bV au l->bV au (l.map f)
 |[],_=>trivial
 |c::l,h=>⟨fun z hz=>by
  obtain⟨y,hy,rfl⟩:=List.mem_map.1 hz;rw[hf,hf];exact h.1 y hy,Hc hf h.2⟩
theorem to:∀(n:Nat) (l:List Ce),l.length<=n->bV au (iU n l)/\∀k,fk au k (iU n l)=(fk au k l).map EH
 |0,l,h=>by rw[ace (l:=l) (by omega)];exact⟨trivial,fun k=>rfl⟩
 |n+1,l,h=>by
  rw[iU];split
  ·rw[ace (l:=l) (by omega)];exact⟨trivial,fun k=>rfl⟩
  split
  ·rename_i h1
   match l,h1 with
   |[x],_=>
    refine⟨⟨fun z h=>(by cases h),trivial⟩,fun k=>?_⟩;show fk au k ([x].map EH)=_;exact ED (f:=EH) fun c=>rfl
  rename_i h0 h1;obtain⟨a1,a2⟩:=to n (l.take (l.length/2)) (by rw[abR];omega);obtain⟨b1,b2⟩:=to n (l.drop (l.length/2)) (by rw[abT];omega);obtain⟨c1,c2⟩:=z7 _ _ _ (Nat.le_refl _) a1 b1;refine⟨c1,fun k=>?_⟩;rw[c2,a2,b2,<-acn,<-jZ,adh]
theorem AK{l:List Ce}:(bO au l).map EH=aM l:=by
 obtain⟨h1,h2⟩:=to _ l (Nat.le_refl _);refine pj (key:=au) (Hc (f:=EH) (fun c=>rfl) gi) h1 fun k=>?_
 rw[show fk au k (aM l)=_ from h2 k,ED (f:=EH) (fun c=>rfl),mN]
theorem sw{l:List Ce}:bV au (aM l):=(to _ l (Nat.le_refl _)).1
def Lb(c:Ce):Ce:=⟨c.id,c.dim,bO aC c.sd⟩
def kD(s:List Ce):Nat->List Ce
 |0=>s
 |i+1=>(kD s i).set i (Lb ((kD s i).getD i default))
theorem rE{s:List Ce}:∀i,(kD s i).length=s.length
 |0=>rfl
 |i+1=>by rw[kD,abX,rE i]
theorem Ge{s:List Ce}:∀i,i<=s.length->kD s i=(s.take i).map Lb++s.drop i
 |0,_=>by simp[kD]
 |i+1,h=>by
  have hl:((s.take i).map Lb).length=i:=by rw[ab1,abR];omega
  rw[kD,Ge i (by omega),adg _ _ (by omega),hl,Nat.sub_self,abV,act (by omega),hl,Nat.sub_self,acF (by omega),List.set_cons_zero,List.getElem?_cons_zero,List.take_add_one,abS (by omega),acn,acg];rfl
theorem Nw{l:List Ce}:kD (bO au l) (bO au l).length=aM l:=by
 rw[Ge _ (Nat.le_refl _),List.take_length,List.drop_length,List.append_nil,<-AK];refine List.map_congr_left fun c _=>?_
 unfold Lb EH;rw[Kc]
theorem Ei{s:List Ce}(i:Nat)(h:∀c∈s,c.sd.length<=1000000):∀j,j<=s.length->∀c∈kD s j,c.sd.length<=1000000
 |0,_,c,hc=>h c hc
 |j+1,hj,c,hc=>by
  have ih:=Ei i h j (by omega);rw[kD]at hc;rcases List.mem_or_eq_of_mem_set hc with q|q
  ·exact ih c q
  rw[q];show(bO aC _).length<=_;rw[b8];exact ih _ (bj (by rw[rE];omega))
theorem xy(l:List Ce)(hl:l.length<=1000000)(hs:∀c∈l,c.sd.length<=1000000):Fn Tryz.prog 33 [gw l] (.ret (gw (aM l))):=by
 have hall:=Nw (l:=l);have hsl:(bO au l).length=l.length:=b8;have hm:=Ei 0 (s:=bO au l) (fun c hc=>hs c (Ax.1 hc));refine fY Tryz.func33 Tryz.results33 (h:=?_);refine rs ?_;refine rc (bh (xJ (SJ l hl))) ?_;generalize bO au l=s at hall hsl hm ⊢;refine rS ?_;refine fr (fun i:Nat=>⟨ao [(2,some (.pointer (some ⟨1,0,none⟩))),(3,some (gs 2 aq s)),(9,some (.int .i64 (s.length:Nat))),(10,some (.int .i64 (i:Nat)))],wd [(1,some (.cells [.slice none 0 0] 40 (0,0))),(2,some (ro 58 (kD s i)))] 3 [] 0,[]⟩) (fun i=>i<=s.length) (fun i=>s.length-i) 0 (abW _) (fun i hv h=>?_) (fun i hv h=>?_)
 ·have hlen:=rE (s:=s) i;have hsd:=hm i (by omega) _ (bj (l:=kD s i) (i:=i) (by omega));have e:kD s (i+1)=(kD s i).set i (Lb ((kD s i).getD i default)):=rfl;generalize kD s i=r at hlen hsd e ⊢;refine bs (rs ?_);refine qb (b1 (QW (r.getD i default).sd hsd)) ?_;refine rl ?_;refine nx (i+1) (by omega) (by omega) ?_;rw[e];exact bL
 have hlen:=rE (s:=s) i;rw[show i=s.length by omega,hall]at hlen ⊢;refine cv [(2,some (.pointer (some ⟨1,0,none⟩))),(3,some (gs 2 aq (aM l)))] [(1,some (.cells [.slice none 0 0] 40 (0,0))),(2,some (ro 58 (aM l)))] 3 ?_;refine cv [(2,some (.pointer (some ⟨1,0,none⟩))),(3,some (sl (aM l)))] [(1,some (.cells [.slice none 0 0] 40 (0,0)))] 3 ?_ (hl:=fz 2);refine rs ?_;refine rt ?_;rfl
abbrev kV(k:Int):Value:=.int .i64 k
section
variable {P:Program} {T:TypeId} {γ:Type}
def aF(f:Nat->γ->Value):List (Int×γ)->Nat->List MapEntry
 |[],_=>[]
 |x::l,i=>{ key:=kV x.1,val:=f i x.2,born:=i }::aF f l (i+1)
def du(k:Int):List (Int×γ)->Nat->Option (Nat×γ)
 |[],_=>none
 |x::l,i=>if k=x.1 then some (i,x.2)else du k l (i+1)
def ax(k:Int):List (Int×γ)->Option γ
 |[]=>none
 |x::l=>if k=x.1 then some x.2 else ax k l
def bn(k:Int)(b:γ):List (Int×γ)->List (Int×γ)
 |[]=>[(k,b)]
 |x::l=>if k=x.1 then(k,b)::l else x::bn k b l
theorem iO(k:Int):∀(l:List (Int×γ)) (i:Nat),(du k l i).map (·.2)=ax k l
 |[],_=>rfl
 |x::l,i=>by
  unfold du ax;split
  ·rfl
  exact iO k l (i+1)
theorem gU{k:Int}{l:List (Int×γ)}{i:Nat}:du k l i=none↔ax k l=none:=by
 rw[<-iO k l i];cases du k l i<;>simp
theorem uQ(hu:P.underlying T=some (.int .i64))(k:Int)(em:Bool):gD P T (kV k) em=true:=by
 have h:ay P (Instr.checkKey em 10000 T (kV k))=some ():=by rw[show(10000:Nat)=9999+1 from rfl,Instr.checkKey,aH,eG hu];rfl
 unfold gD;rw[h];rfl
theorem AF{f:Nat->γ->Value}:∀(l:List (Int×γ)) (j:Nat),(aF f l j).all (fun e=>cy e.key)=true
 |[],_=>rfl
 |x::l,j=>by
  unfold aF;rw[List.all_cons,AF l (j+1)];rfl
theorem AT{f:Nat->γ->Value}(k:Int):∀(l:List (Int×γ)) (j:Nat),Instr.findNow (.int .i64) (kV k) (aF f l j) j=some ((du k l j).map fun x=>(x.1,f x.1 x.2))
 |[],_=>rfl
 |x::l,j=>by
  show(match(some (k==x.1):Option Bool)with|some true=>some (some (j,f j x.2))|some false=>Instr.findNow (.int .i64) (kV k) (aF f l (j+1)) (j+1)|none=>none)=_;unfold du;by_cases h:k=x.1
  ·rw[if_pos h,PK h];rfl
  rw[if_neg h,Ph h];exact AT k l (j+1)
theorem u3(hu:P.underlying T=some (.int .i64)){f:Nat->γ->Value}(k:Int)(l:List (Int×γ)):gb P T (kV k) (aF f l 0)=some ((du k l 0).map fun x=>(x.1,f x.1 x.2)):=by
 unfold gb;rw[AF,cond_true];unfold Instr.findKey;rw[aH,eG hu];simp only[Option.bind_some];rw[AT];rfl
theorem jd{f:Nat->γ->Value}:∀(l:List (Int×γ)) (j:Nat),(aF f l j).length=l.length
 |[],_=>rfl
 |x::l,j=>by unfold aF;rw[List.length_cons,jd l,List.length_cons]
theorem tG{f:Nat->γ->Value}(k:Int)(b:γ):∀(l:List (Int×γ)) (j:Nat),aF f l j++[⟨kV k,f (j+l.length) b,j+l.length⟩]=aF f (l++[(k,b)]) j
 |[],j=>rfl
 |x::l,j=>by
  show _::(aF f l (j+1)++_)=_::aF f (l++[(k,b)]) (j+1);rw[<-tG k b l (j+1),List.length_cons,adb j 1,acy 1]
theorem jU{k:Int}{b:γ}:∀{l:List (Int×γ)},ax k l=none->bn k b l=l++[(k,b)]
 |[],_=>rfl
 |x::l,h=>by
  unfold ax at h;split at h
  ·cases h
  rename_i hk;unfold bn;rw[if_neg hk,jU h];rfl
theorem lj{k k':Int}{b:γ}:∀{l:List (Int×γ)},ax k' (bn k b l)=if k'=k then some b else ax k' l
 |[]=>by
  show(if k'=k then some b else none)=_;rfl
 |x::l=>by
  unfold bn;by_cases h:k=x.1
  ·rw[if_pos h];show(if k'=k then some b else ax k' l)=if k'=k then some b else(if k'=x.1 then some x.2 else ax k' l)
   by_cases h2:k'=k
   ·rw[if_pos h2,if_pos h2]
   rw[if_neg h2,if_neg h2,if_neg (by rw[<-h];exact h2)]
  rw[if_neg h];show(if k'=x.1 then some x.2 else ax k' (bn k b l))=if k'=k then some b else(if k'=x.1 then some x.2 else ax k' l)
  rw[lj];by_cases h2:k'=x.1
  ·rw[if_pos h2,if_pos h2,if_neg (by rw[h2];exact fun e=>h e.symm)]
  rw[if_neg h2,if_neg h2]
theorem fG{k:Int}:∀{l:List (Int×γ)} {j i:Nat} {b:γ},du k l j=some (i,b)->j<=i/\i<j+l.length/\l[i-j]?=some (k,b)
 |[],_,_,_,h=>by cases h
 |x::l,j,i,b,h=>by
  unfold du at h;split at h
  ·rename_i hk;cases h;refine⟨Nat.le_refl _,by rw[List.length_cons];omega,?_⟩;rw[Nat.sub_self];show some x=_;rw[hk]
  obtain⟨h1,h2,h3⟩:=fG h;refine⟨by omega,by rw[List.length_cons];omega,?_⟩;rw[show i-j=(i-(j+1))+1 by omega];exact h3
theorem py{f:Nat->γ->Value}:∀{l:List (Int×γ)} {j i:Nat} {k:Int} {b:γ},l[i]?=some (k,b)->(aF f l j)[i]?=some ⟨kV k,f (j+i) b,j+i⟩
 |[],_,_,_,_,h=>by simp at h
 |x::l,j,0,k,b,h=>by
  simp at h;subst h;rfl
 |x::l,j,i+1,k,b,h=>by
  show(aF f l (j+1))[i]?=_;rw[py (l:=l) (j:=j+1) (i:=i) (by simpa using h)];rw[show j+1+i=j+(i+1) by omega]
theorem CT{f:Nat->γ->Value}{k:Int}{b:γ}:∀{l:List (Int×γ)} {j i:Nat} {b0:γ},du k l j=some (i,b0)->(aF f l j).set (i-j) ⟨kV k,f i b,i⟩=aF f (bn k b l) j
 |[],_,_,_,h=>by cases h
 |x::l,j,i,b0,h=>by
  have hs:=fG h;unfold du at h;unfold bn;split at h
  ·rename_i hk;cases h;rw[if_pos hk,Nat.sub_self];rfl
  rename_i hk;rw[if_neg hk];have hs2:=fG h;rw[show i-j=(i-(j+1))+1 by omega];show _::(aF f l (j+1)).set (i-(j+1)) _=_::aF f (bn k b l) (j+1);rw[CT h]
theorem kG{k:Int}{b:γ}:∀{l:List (Int×γ)},(bn k b l).length=if(ax k l).isSome then l.length else l.length+1
 |[]=>rfl
 |x::l=>by
  unfold bn ax;by_cases h:k=x.1
  ·rw[if_pos h,if_pos h];rfl
  rw[if_neg h,if_neg h,List.length_cons,kG];split<;>simp_all
theorem x4(k:Int):fU (kV k) (kV k)=true:=by
 unfold fU;rw[abZ];refine⟨rfl,?_⟩;rw[show(10000:Nat)=9999+1 from rfl,Instr.sameBits];simp
theorem Px(hu:P.underlying T=some (.int .i64)){f:Nat->γ->Value}(k:Int)(l:List (Int×γ)){c:Nat}{z:Value}{ok:Bool}:mY P T (kV k) ok (some (aF f l 0,c)) (some z)=some (.val (some (om ok (((du k l 0).map fun x=>f x.1 x.2).getD z) (ax k l).isSome))):=by
 show(bif gD P T (kV k) (aF f l 0).isEmpty then y8 ok z (gb P T (kV k) (aF f l 0))else none)=_;rw[uQ hu,cond_true,u3 hu,<-iO k l 0];cases du k l 0<;>rfl
theorem L5(hu:P.underlying T=some (.int .i64)){f:Nat->γ->Value}{k:Int}{l:List (Int×γ)}{b:γ}{W:XW}{r:Nat}{v:Value}(hk:ax k l=none)(hv:v=f l.length b) :
 m5 P W r T (kV k) v (some (.map (aF f l 0) l.length))=some (.mod undef (W.put r (some (.map (aF f (bn k b l) 0) (bn k b l).length)))):=by
 show(bif gD P T (kV k) false then sj W r (aF f l 0) l.length (kV k) v (gb P T (kV k) (aF f l 0))else none)=_;rw[uQ hu,cond_true,u3 hu,(gU (i:=0)).2 hk,jU hk,hv];have:=tG (f:=f) k b l 0;rw[Nat.zero_add]at this;show some (XR.mod undef (W.put r (some (.map (aF f l 0++[⟨kV k,f l.length b,l.length⟩]) (l.length+1)))))=_;rw[this,abP];rfl
theorem J5(hu:P.underlying T=some (.int .i64)){f:Nat->γ->Value}{k:Int}{l:List (Int×γ)}{b b0:γ}{W:XW}{r i:Nat}{v:Value}(hk:du k l 0=some (i,b0))(hv:v=f i b) :
 m5 P W r T (kV k) v (some (.map (aF f l 0) l.length))=some (.mod undef (W.put r (some (.map (aF f (bn k b l) 0) (bn k b l).length)))):=by
 have hs:=fG hk;have hg:ax k l=some b0:=by rw[<-iO k l 0,hk];rfl
 show(bif gD P T (kV k) false then sj W r (aF f l 0) l.length (kV k) v (gb P T (kV k) (aF f l 0))else none)=_;rw[uQ hu,cond_true,u3 hu,hk,hv];show wT W r (aF f l 0) l.length i (kV k) (f i b) (aF f l 0)[i]?=_;rw[py (by rw[<-ac0 i];exact hs.2.2),Nat.zero_add];show(bif fU (kV k) (kV k)then some (XR.mod undef (W.put r (some (.map ((aF f l 0).set i ⟨kV k,f i b,i⟩) l.length))))else none)=_;have hset:=CT (f:=f) (b:=b) hk;rw[ac0]at hset;rw[x4,cond_true,hset,kG,hg];rfl
theorem xg(hu:P.underlying T=some (.int .i64)){f:γ->Value}(k:Int)(l:List (Int×γ)){c:Nat}{z:Value}{ok:Bool}:mY P T (kV k) ok (some (aF (fun _=>f) l 0,c)) (some z)=some (.val (some (om ok (((ax k l).map f).getD z) (ax k l).isSome))):=by
 rw[Px hu,<-iO k l 0];cases du k l 0<;>rfl
theorem Ix(hu:P.underlying T=some (.int .i64)){f:γ->Value}{k:Int}{l:List (Int×γ)}(b:γ){W:XW}{r:Nat} :
 m5 P W r T (kV k) (f b) (some (.map (aF (fun _=>f) l 0) l.length))=some (.mod undef (W.put r (some (.map (aF (fun _=>f) (bn k b l) 0) (bn k b l).length)))):=by
 cases h:du k l 0 with
 |none=>exact L5 hu (gU.1 h) rfl
 |some x=>exact J5 hu (b0:=x.2) (i:=x.1) h rfl
theorem nP{f:Nat->γ->Value}(hb:∀i b,d8 (f i b)):∀(l:List (Int×γ)) (j:Nat),∀x∈aF f l j,d8 x.key/\d8 x.val
 |[],_,x,h=>by cases h
 |y::l,j,x,h=>by
  rcases List.mem_cons.1 h with rfl|h
  ·exact⟨dz 1 rfl,hb _ _⟩
  exact nP hb l (j+1) x h
end
def ie(u:List Ce):List (Int×Ce):=u.map fun c=>(c.id,c)
abbrev ft(u:List Ce):ah:=.map (aF (fun _=>jA) (ie u) 0) (ie u).length
abbrev gm(b:Nat)(v:Value):ah:=.cells [.map (some b),v] 178 (0,0)
instance {u:List Ce}:jO Tryz.prog (ft u):=⟨fun T hT=>iy (kN.bare hT (nP (fun _ b=>(inferInstance:Br (jA b)).h) (ie u) 0))⟩
theorem Q0{u:List Ce}{c:Ce}:ie (u++[c])=ie u++[(c.id,c)]:=acn
theorem AZ{k:Int}{c:Ce}{u:List Ce}:ax k (ie (c::u))=if k=c.id then some c else ax k (ie u):=rfl
theorem nB{k:Int}:∀{u:List Ce},ax k (ie u)=none↔∀c∈u,c.id≠k
 |[]=>⟨fun _ c h=>(by cases h),fun _=>rfl⟩
 |c::u=>by
  rw[AZ,List.forall_mem_cons];split
  ·rename_i e;exact⟨fun h=>(by cases h),fun h=>absurd e.symm h.1⟩
  rename_i e;rw[nB];exact⟨fun h=>⟨fun q=>e q.symm,h⟩,fun h=>h.2⟩
theorem A8{k:Int}{c:Ce}:∀{u:List Ce},ax k (ie u)=some c->c∈u/\c.id=k
 |[],h=>by cases h
 |d::u,h=>by
  rw[AZ]at h;split at h
  ·rename_i e;cases h;exact⟨ab4,e.symm⟩
  obtain⟨h1,h2⟩:=A8 h;exact⟨aca _ h1,h2⟩
theorem vg{o:List Ce}:∀i,i<=o.length->∀c∈dQ o i,c∈o.take i
 |0,_,c,h=>by cases h
 |i+1,hi,c,h=>by
  rw[List.take_add_one,abS (by omega)];unfold dQ at h;split at h
  ·rcases List.mem_append.1 h with q|q
   ·exact ac4 _ (vg i (by omega) c q)
   rw[List.mem_singleton.1 q,abV,abS (by omega)];exact ac3 _ ab4
  exact ac4 _ (vg i (by omega) c h)
theorem FN{o:List Ce}:∀i,0<i->∃c∈dQ o i,c.id=(o.getD (i-1) default).id
 |i+1,_=>by
  unfold dQ;split
  ·exact⟨_,ac3 _ ab4,rfl⟩
  rename_i h;obtain⟨c,h1,h2⟩:=FN (o:=o) i (by omega);exact⟨c,h1,by rw[h2];exact(Decidable.not_not.1 fun q=>h (.inr q)).symm⟩
theorem pu{o:List Ce}(hs:bV au o){i j:Nat}(hij:i<j)(hj:j<o.length):(o.getD i default).id<=(o.getD j default).id:=by
 induction o generalizing i j with
 |nil=>simp at hj
 |cons c o ih=>
  obtain⟨j,rfl⟩:∃k,j=k+1:=⟨j-1,by omega⟩;simp only[List.length_cons]at hj;rw[List.getD_cons_succ];cases i with
  |zero=>exact hs.1 _ (bj (by omega))
  |succ i=>rw[List.getD_cons_succ];exact ih hs.2 (by omega) (by omega)
theorem Cs{o:List Ce}{c:Ce}{i:Nat}(hi:i<=o.length)(h:c∈o.take i):∃j,j<i/\o.getD j default=c:=by
 obtain⟨j,hj,rfl⟩:=acp h;rw[abR]at hj;exact⟨j,by omega,by rw[List.getElem_take,abV,abS (by omega)];rfl⟩
theorem Ds{o:List Ce}(hs:bV au o){i:Nat}(hi:i<o.length):ax (o.getD i default).id (ie (dQ o i))=none↔(i=0\/(o.getD i default).id≠(o.getD (i-1) default).id):=by
 rw[nB];constructor
 ·intro h;by_cases e:i=0
  ·exact .inl e
  obtain⟨c,h1,h2⟩:=FN (o:=o) i (by omega);exact .inr fun q=>h c h1 (by rw[h2,q])
 intro h c hc;rcases h with e|e
 ·subst e;cases hc
 obtain⟨j,h1,h2⟩:=Cs (by omega) (vg i (by omega) c hc);have h3:c.id<=(o.getD (i-1) default).id:=by
  rw[<-h2];by_cases q:j=i-1
  ·rw[q];omega
  exact pu hs (by omega) (by omega)
 by_cases hz:i=0
 ·omega
 have:=pu hs (i:=i-1) (j:=i) (by omega) hi;omega
theorem UP{u:List Ce}{k:Int}{c:Nat}{z:Value}{ok:Bool}:mY Tryz.prog 3 (.int .i64 k) ok (some (aF (fun _=>jA) (ie u) 0,c)) (some z)=some (.val (some (om ok (((ax k (ie u)).map jA).getD z) (ax k (ie u)).isSome))):=xg Tryz.underlying3 k _
theorem VZ{u:List Ce}{x:Ce}{W:XW}{r:Nat}(h:ax x.id (ie u)=none):m5 Tryz.prog W r 3 (.int .i64 x.id) (.agg #[.int .i64 x.id,.int .i64 x.dim,sl x.sd]) (some (.map (aF (fun _=>jA) (ie u) 0) (ie u).length))=some (.mod undef (W.put r (some (ft (u++[x]))))):=by
 have:=Ix (P:=Tryz.prog) Tryz.underlying3 (f:=jA) (k:=x.id) (l:=ie u) x (W:=W) (r:=r);rw[jU h,<-Q0]at this;exact this
attribute [go_sem high] UP
attribute [go_sem] acA ach Option.getD_none acP Option.isSome_none Option.isSome_some
abbrev eC(u:List Ce):List Int:=u.map (·.id)
def OfP(u:List Ce)(e:aW)(W:XW):Prop:=∃a b,e=.ret (.pointer (some ⟨a,0,none⟩))/\a≠b/\W.get a=some (gm b (sl (eC u)))/\W.get b=some (ft u)
set_option maxHeartbeats 1000000 in
theorem Z6(l:List Ce)(hl:l.length<=1000000)(hs:∀c∈l,c.sd.length<=1000000):bg Tryz.prog 62 [gw l] (wd [] 0 [] 0) (OfP (my l)):=by
 have ho:=fl _ l (Nat.le_refl _);have hc:=xy l hl hs;have hsrt:=sw (l:=l);unfold my;generalize aM l=o at ho hc hsrt ⊢;refine lor Tryz.func62 Tryz.results62 (h:=?_);refine rs ?_;refine rs ?_;refine TQ (b1 hc) ?_;refine cv [(3,some (.pointer (some ⟨2,0,none⟩))),(13,some (sl o)),(14,some (.int .i64 (o.length:Nat))),(15,some (.int .i64 ((0:Nat):Int)))] [(1,some (ft [])),(2,some (gm 1 (.slice none 0 0))),(3,some (ro 3 (eC [])))] 4 ?_;refine cv [(3,some (.pointer (some ⟨2,0,none⟩))),(13,some (sl o)),(14,some (.int .i64 (o.length:Nat))),(15,some (.int .i64 ((0:Nat):Int)))] [(1,some (ft (dQ o 0))),(2,some (gm 1 (gs 3 aq (eC (dQ o 0))))),(3,some (ro 3 (eC (dQ o 0))))] 4 ?_ (hl:=uG [(1,1),(2,2),(3,3)]);refine fr (fun i:Nat=>⟨ao [(3,some (.pointer (some ⟨2,0,none⟩))),(13,some (sl o)),(14,some (.int .i64 (o.length:Nat))),(15,some (.int .i64 (i:Nat)))],wd [(1,some (ft (dQ o i))),(2,some (gm 1 (gs 3 aq (eC (dQ o i))))),(3,some (ro 3 (eC (dQ o i))))] 4 [] 0,[]⟩) (fun i=>i<=o.length) (fun i=>o.length-i) 0 (abW _) (fun i hv h=>?_) (fun i hv h=>?_)
 ·have hq:=oS o i;have hid:(eC (dQ o i)).length=(dQ o i).length:=ab1 _;have hk:=Ds hsrt (i:=i) (by omega);refine bs (rs ?_);by_cases h1:i=0\/(o.getD i default).id≠(o.getD (i-1) default).id
  ·have e:dQ o (i+1)=dQ o i++[o.getD i default]:=if_pos h1;have hk:=hk.2 h1;generalize dQ o i=u at hk e hq hid ⊢;generalize o.getD i default=x at hk e ⊢;have hup:=fun W=>VZ (W:=W) (r:=1) hk
   refine tu hk ?_;refine rs ?_;refine ct ?_;refine tu hup ?_;refine xA ?_;refine rl ?_;refine nx (i+1) (by omega) (by omega) ?_;rw[e,show eC (u++[x])=eC u++[x.id]from acn];exact uG [(1,1),(2,2),(7,3)]
  have e:dQ o (i+1)=dQ o i:=if_neg h1;obtain⟨y,hy⟩:∃y,ax (o.getD i default).id (ie (dQ o i))=some y:=by
   cases q:ax (o.getD i default).id (ie (dQ o i))with
   |none=>exact absurd (hk.1 q) h1
   |some y=>exact⟨y,rfl⟩
  generalize dQ o i=u at hy e hq hid ⊢;generalize o.getD i default=x at hy e ⊢;refine tu hy ?_;refine rs ?_;refine cf ?_;refine ap (rl ?_);refine nx (i+1) (by omega) (by omega) ?_;rw[e];exact uG [(1,1),(2,2),(3,3)]
 rw[show i=o.length by omega];have hq:=oS o o.length;have hid:(eC (dQ o o.length)).length=(dQ o o.length).length:=ab1 _;refine cv [(3,some (.pointer (some ⟨2,0,none⟩)))] [(1,some (ft (dQ o o.length))),(2,some (gm 1 (sl (eC (dQ o o.length)))))] 4 ?_ (hl:=fz 3);refine rs ?_;refine rt ?_;exact⟨2,1,rfl,by decide,by simp(disch:=decide) only[ae,ab,aa],by simp(disch:=decide) only[ae,ab,aa]⟩
theorem LR{P:Program}{f:FuncId}{args:List Value}{W:XW}{S:aW->XW->Prop}{o1:Nat->ah}{o2:ah}(hargs:cZ args)(hcall:bg P f args (wd [] 0 [] 0) S)
 (hout:∀e' W',S e' W'->∃a b,e'=.ret (.pointer (some ⟨a,0,none⟩))/\a≠b/\W'.get a=some (o1 b)/\W'.get b=some o2) (ho1:∀b n θ,θ b=some n->TO P (aP θ) (o1 b) (o1 n)) (ho2:gX P o2) :
 mV P f args W (.ret (.pointer (some ⟨W.next,0,none⟩))) ((W.push (o1 (W.next+1))).push o2):=
 iP (k:=0) (fun _=>0) (fun _=>none) rfl (fun m _ h=>by omega) (fun m h=>by omega) (fun n m h=>by cases h) (fun m oL h=>by rw[XW.get_ge (abW _)]at h;cases h) (hargs _ aj) hcall
  fun eL WL' hS=>by
   obtain⟨a,b,rfl,hab,ha,hb⟩:=hout _ _ hS;have ta:(fun m=>if m=a then some W.next else if m=b then some (W.next+1)else none) a=some W.next:=if_pos rfl;have tb:(fun m=>if m=a then some W.next else if m=b then some (W.next+1)else none) b=some (W.next+1):=by show(if b=a then some W.next else if b=b then some (W.next+1)else none)=_;rw[if_neg (fun e=>hab e.symm),if_pos rfl]
   have hnx:((W.push (o1 (W.next+1))).push o2).next=W.next+1+1:=rfl;refine⟨fun m=>if m=a then some W.next else if m=b then some (W.next+1)else none,fun m x h=>?_,fun m m' x h h'=>?_,fun x o' h=>?_,bI ta,by rw[hnx];omega⟩
   ·rw[hnx];by_cases hm:m=a
    ·rw[if_pos hm]at h;cases h;exact .inr ⟨abW _,Nat.le_refl _,by omega⟩
    rw[if_neg hm]at h;by_cases hm2:m=b
    ·rw[if_pos hm2]at h;cases h;exact .inr ⟨abW _,by omega,by omega⟩
    rw[if_neg hm2]at h;cases h
   ·by_cases hm:m=a
    ·rw[if_pos hm]at h;by_cases hm':m'=a
     ·omega
     rw[if_neg hm']at h';by_cases hm2:m'=b
     ·rw[if_pos hm2]at h';injection h with h;injection h' with h';omega
     rw[if_neg hm2]at h';cases h'
    rw[if_neg hm]at h;by_cases hmb:m=b
    ·rw[if_pos hmb]at h;by_cases hm':m'=a
     ·rw[if_pos hm']at h';injection h with h;injection h' with h';omega
     rw[if_neg hm']at h';by_cases hm2:m'=b
     ·omega
     rw[if_neg hm2]at h';cases h'
    rw[if_neg hmb]at h;cases h
   rcases XW.get_push h with⟨rfl,rfl⟩|⟨q1,q2⟩
   ·exact .inl ⟨b,_,tb,hb,ho2 _ aj⟩
   rcases XW.get_push q2 with⟨rfl,rfl⟩|⟨q3,q4⟩
   ·exact .inl ⟨a,_,ta,ha,ho1 _ _ _ tb⟩
   exact .inr ⟨q4,aL q4,fun m hm=>by omega⟩
open Classical in
noncomputable def hk2(args:List Value)(o1:Nat->ah)(o2:ah):HF:=fun a W=>if a=args then some (.ret (.pointer (some ⟨W.next,0,none⟩)),(W.push (o1 (W.next+1))).push o2)else none
theorem V5{args:List Value}{o1:Nat->ah}{o2:ah}{W:XW}:hk2 args o1 o2 args W=some (.ret (.pointer (some ⟨W.next,0,none⟩)),(W.push (o1 (W.next+1))).push o2):=if_pos rfl
theorem XH{P:Program}{f:FuncId}{args:List Value}{o1:Nat->ah}{o2:ah}{S:aW->XW->Prop}(he:cS P f)(ha:cZ args)(h:bg P f args (wd [] 0 [] 0) S)
 (hout:∀e' W',S e' W'->∃a b,e'=.ret (.pointer (some ⟨a,0,none⟩))/\a≠b/\W'.get a=some (o1 b)/\W'.get b=some o2) (ho1:∀b n θ,θ b=some n->TO P (aP θ) (o1 b) (o1 n)) (ho2:gX P o2):bS P f (hk2 args o1 o2):=by
 have key:∀a W e' W',hk2 args o1 o2 a W=some (e',W')->a=args/\e'=.ret (.pointer (some ⟨W.next,0,none⟩))/\W'=(W.push (o1 (W.next+1))).push o2:=fun a W e' W' q=>by
  unfold hk2 at q;split at q
  ·cases q;exact⟨by assumption,rfl,rfl⟩
  cases q
 refine⟨he,fun a W e' W' q=>?_,fun a W e' W' q=>?_⟩
 ·obtain⟨_,_,rfl⟩:=key _ _ _ _ q;exact(bC.push _ _).trans (bC.push _ _)
 obtain⟨rfl,rfl,rfl⟩:=key _ _ _ _ q;exact LR ha h hout ho1 ho2
theorem Ru{x y:Ce}(h:jA x=jA y):x=y:=by
 obtain⟨a,b,c⟩:=x;obtain⟨a',b',c'⟩:=y;injection h with h;have h:=congrArg Array.toList h;simp only[List.cons.injEq,Value.int.injEq,true_and,and_true]at h;obtain⟨h1,h2,h3⟩:=h;have key:∀{l m:List Sd},l.flatMap El.enc=m.flatMap El.enc->l=m:=by
  intro l
  induction l with
  |nil=>intro m h;cases m with
   |nil=>rfl
   |cons z m=>exact absurd (congrArg List.length h) (by simp[El.enc])
  |cons z l ih=>intro m h;cases m with
   |nil=>exact absurd (congrArg List.length h) (by simp[El.enc])
   |cons w m=>
    obtain⟨p,q⟩:=z;obtain⟨p',q'⟩:=w;rw[ab7,ab7]at h;injection h with g1 h;injection h with g2 h;injection g1 with _ g1;injection g2 with _ g2;have g1:p=p':=g1;have g2:q=q':=g2;rw[ih h,g1,g2]
 rw[h1,h2,key (Um h3).1]
theorem GB:∀{l m:List Ce} {i j:Nat},aF (fun _=>jA) (ie l) i=aF (fun _=>jA) (ie m) j->l=m
 |[],[],_,_,_=>rfl
 |[],_::_,_,_,h=>by simp[aF,ie]at h
 |_::_,[],_,_,h=>by simp[aF,ie]at h
 |x::l,y::m,i,j,h=>by
  injection h with h1 h2;injection h1 with _ h4 _;have h5:x=y:=Ru h4;rw[h5,GB (l:=l) (m:=m) h2]
def Yn:ah->Option Nat
 |.cells [.map (some b),_] _ _=>some b
 |_=>none
noncomputable def tbE:oF Tryz.prog (List Ce) where
 main u _ b:=gm b (sl (eC u))
 sat u:=some (ft u)
 hnd:=Yn
 hnd_eq u w b:=rfl
 inj a a' w b h hs:=by have hs:=Option.some.inj hs;injection hs with hs;exact GB hs
 free a w b b' h:=by cases h
 ren a w w' b b' θ hw hb:=cm (av (cI (hb (by simp))) (av ((inferInstance:Br (sl (eC a))).h _ aj) aR))
 bare a o h:=by cases h;exact(inferInstance:jO Tryz.prog (ft a)).h
structure Ft(f:FuncId)(xs:List Value)(u:List Ce)(v:Value):Prop where
 en:cS Tryz.prog f
 ba:cZ xs
 bv:d8 v
 lo:bg Tryz.prog f (.pointer (some ⟨0,0,none⟩)::xs) (wd [(0,some (gm 1 (sl (eC u)))),(1,some (ft u))] 2 [] 0) fun e' W'=>e'=.ret v/\W'.get 0=some (gm 1 (sl (eC u)))/\W'.get 1=some (ft u)
theorem ftr{f:FuncId}{xs:List Value}{u:List Ce}{v:Value}{fn:Func}{c:Code}{F:List (Nat×Option Value)}{N:Nat}{R:Array ResultVar}(hf:Tryz.prog.funcs[f]?=some fn)(hR:fn.results=R)(hc:fn.body=some c:=by rfl)(hN:fn.ntmps=N:=by rfl)(hn:fh fn=true:=by rfl)(hl:(Value.pointer (some ⟨0,0,none⟩)::xs).length<=fn.ntmps:=by exact Nat.le_of_ble_eq_true rfl)
 (hF:bk 0 (Value.pointer (some ⟨0,0,none⟩)::xs) []=F:=by simp only[bk.eq_1,bk.eq_2,Nat.reduceAdd]<;>with_reducible rfl) [ha:b7 xs] [hv:Br v] (h:ar Tryz.prog N 2 c ⟨ao F,wd [(0,some (gm 1 (sl (eC u)))),(1,some (ft u))] 2 [] 0,[]⟩ (qL Tryz.prog R.toList fun e' W'=>e'=.ret v/\W'.get 0=some (gm 1 (sl (eC u)))/\W'.get 1=some (ft u))):Ft f xs u v:=
 ⟨lV hf hc hn,ha.h,hv.h,by subst hN hF hR;exact cH b0 hf hc hl (fu (fun ex s ⟨p,e',W',h1,h2,h3⟩=>⟨p,e',W',h1,by rw[<-lB];exact h2,h3⟩) h)⟩
open Classical in
noncomputable def Pk(xs:List Value)(v:Value)(u:List Ce):PP (List Ce):=fun xs' u'=>if xs'=xs/\u'=u then some (v,u,.rd)else none
noncomputable def F6(xs:List Value)(v:Value)(u:List Ce):HF:=qh tbE (Pk xs v u)
theorem JJ{w b:Nat}{W:XW}{xs:List Value}{v:Value}{u:List Ce}(h0:W.get w=some (gm b (sl (eC u))))(h1:W.get b=some (ft u))(hwb:w≠b):F6 xs v u (.pointer (some ⟨w,0,none⟩)::xs) W=some (.ret v,W):=by
 have h:tA tbE W w b u:=⟨h0,fun o ho=>by cases ho;exact⟨h1,hwb⟩⟩;have hp:Pk xs v u xs u=some (v,u,.rd):=if_pos ⟨rfl,rfl⟩;unfold F6;rw[KU h (by rw[hp];intro v a' e;cases e),hp];rfl
theorem MP{f:FuncId}{xs:List Value}{v:Value}{u:List Ce}(h:Ft f xs u v):bS Tryz.prog f (F6 xs v u):=by
 have key:∀xs' a v' a' md,Pk xs v u xs' a=some (v',a',md)->xs'=xs/\a=u/\v'=v/\a'=u/\md=.rd:=fun xs' a v' a' md q=>by
  unfold Pk at q;split at q
  ·rename_i hh;cases q;exact⟨hh.1,hh.2,rfl,rfl,rfl⟩
  cases q
 refine H9 h.en (fun xs' a v' a' md q=>?_) (fun xs' a v' a' md q=>?_)
 ·obtain⟨rfl,rfl,rfl,rfl,rfl⟩:=key _ _ _ _ _ q;exact⟨h.ba,h.bv⟩
 obtain⟨rfl,rfl,rfl,rfl,rfl⟩:=key _ _ _ _ _ q;exact h.lo.mono fun e W' ⟨k1,k2,k3⟩=>⟨k1,k2,fun o ho=>by cases ho;exact k3⟩
theorem Zq(l:List Ce)(hl:l.length<=1000000)(hs:∀c∈l,c.sd.length<=1000000):bS Tryz.prog 62 (hk2 [gw l] (fun b=>gm b (sl (eC (my l)))) (ft (my l))):=
 XH (enters_of (by kernel_rfl)) (inferInstance:b7 [gw l]).h (Z6 l hl hs) (fun e' W' h=>h) (fun b n θ h=>cm (av (cI h) (av ((inferInstance:Br (sl (eC (my l)))).h _ aj) aR))) (inferInstance:jO Tryz.prog (ft (my l))).h
attribute [go_sem] V5
theorem wy{u:List Ce}{id:Int}(hu:bV au u):∀(d lo hi:Nat),hi-lo<=d->lo<=hi->hi<=u.length->(∀j,j<lo->(u.getD j default).id<id)->(∀j,hi<=j->j<u.length->id<=(u.getD j default).id) ->
 (∀j,j<nI u id lo hi->(u.getD j default).id<id)/\(∀j,nI u id lo hi<=j->j<u.length->id<=(u.getD j default).id)
 |d,lo,hi,hd,h1,h2,a,b=>by
  rw[nI];split
  ·rename_i hlt;obtain⟨d,rfl⟩:∃k,d=k+1:=⟨d-1,by omega⟩;split
   ·rename_i hm;refine wy hu d _ _ (by omega) (by omega) h2 (fun j hj=>?_) b;by_cases e:j=(lo+hi)/2
    ·rw[e];exact hm
    have:=pu hu (i:=j) (j:=(lo+hi)/2) (by omega) (by omega);omega
   rename_i hm;refine wy hu d _ _ (by omega) (by omega) (by omega) a fun j hj hjl=>?_
   by_cases e:j=(lo+hi)/2
   ·rw[e];omega
   have:=pu hu (i:=(lo+hi)/2) (j:=j) (by omega) hjl;omega
  rename_i hlt;have e:lo=hi:=by omega
  subst e;exact⟨a,b⟩
theorem Ud{u:List Ce}{id:Int}(hn:∀i j,i<u.length->j<u.length->(u.getD i default).id=(u.getD j default).id->i=j){m:Nat}(hm:m<u.length)(h:(u.getD m default).id=id):ax id (ie u)=some (u.getD m default):=by
 cases e:ax id (ie u)with
 |none=>exact absurd h (nB.1 e _ (bj hm))
 |some c=>
  obtain⟨h1,h2⟩:=A8 e;obtain⟨j,hj,rfl⟩:=acp h1;have hjd:u.getD j default=u[j]:=by rw[abV,abS hj];rfl
  have:=hn j m hj hm (by rw[hjd,h2,h]);subst this;rw[hjd]
theorem zu{u:List Ce}(hu:bV au u)(hn:∀i j,i<u.length->j<u.length->(u.getD i default).id=(u.getD j default).id->i=j)(id:Int) :
 (nE u id=-1/\ax id (ie u)=none)\/∃m:Nat,m<u.length/\nE u id=m/\ax id (ie u)=some (u.getD m default):=by
 obtain⟨h1,h2⟩:=wy (id:=id) hu _ 0 u.length (Nat.le_refl _) (abW _) (Nat.le_refl _) (fun j h=>absurd h (acm j)) (fun j h1 h2=>by omega);unfold nE;split
 ·rename_i h;exact .inr ⟨_,h.1,rfl,Ud hn h.1 h.2⟩
 rename_i h;refine .inl ⟨rfl,nB.2 fun c hc e=>?_⟩;obtain⟨j,hj,rfl⟩:=acp hc;have hjd:u.getD j default=u[j]:=by rw[abV,abS hj];rfl
 rw[<-hjd]at e;have h3:nI u id 0 u.length<=j:=by
  rcases ab8 j (nI u id 0 u.length)with q|q
  ·have:=h1 j q;omega
  exact q
 have h4:=h2 (nI u id 0 u.length) (Nat.le_refl _) (by omega);refine h ⟨by omega,?_⟩;by_cases q:nI u id 0 u.length=j
 ·rw[q];exact e
 have:=pu hu (i:=nI u id 0 u.length) (j:=j) (by omega) hj;omega
structure Uq(u:List Ce):Prop where
 srt:bV au u
 inj:∀i j,i<u.length->j<u.length->(u.getD i default).id=(u.getD j default).id->i=j
abbrev ll(x:Ce):ah:=.cells [.int .i64 x.id,.int .i64 x.dim,sl x.sd] 58 (0,0)
abbrev MI(u:List Ce)(r:List (Nat×Option ah)):List (Nat×Option ah):=(0,some (gm 1 (sl (eC u))))::(1,some (ft u))::r
attribute [go_sem] MI ll
def B2(x:Ce):Nat->Int
 |0=>0
 |i+1=>B2 x i+(x.sd.getD i default).2
theorem KQ{x:Ce}:∀i,(∀j,j<i->¬iK x j)->-(i:Int)<=B2 x i/\B2 x i<=i
 |0,_=>⟨Int.le_refl _,Int.le_refl _⟩
 |i+1,h=>by
  have:=KQ i fun j hj=>h j (by omega)
  have h2:=h i (by omega);unfold iK at h2;rw[B2];omega
set_option maxHeartbeats 4000000 in
theorem Tl(u:List Ce)(x:Ce)(hu:Uq u)(hx:x.sd.length<=1000000):Ft 63 [jA x] u (.int .i64 (dI u x)):=by
 refine ftr Tryz.func63 Tryz.results63 (h:=?_);refine rs ?_;refine rs ?_;by_cases hd:x.dim<0\/8<x.dim
 ·refine bs ?_;by_cases h1:x.dim<0<;>(
   refine rs ?_;refine ct ?_;refine rs ?_;refine rt ?_;rw[dI,if_pos hd];exact⟨rfl,by simp(disch:=decide) only[ae,ab,aa],by simp(disch:=decide) only[ae,ab,aa]⟩)
 by_cases hs:wb x
 ·have hs':=hs;unfold wb at hs;refine bs ?_;refine rs ?_;refine cf ?_;by_cases a:x.dim=0<;>by_cases b:x.dim=1<;>by_cases c:x.sd.length<2<;>first|(exfalso;omega)|(
   refine rs ?_;refine ct ?_;refine rs ?_;refine rt ?_;rw[dI,if_neg hd,if_pos hs'];exact⟨rfl,by simp(disch:=decide) only[ae,ab,aa],by simp(disch:=decide) only[ae,ab,aa]⟩)
 have hs':=hs;unfold wb at hs;refine Ll ?_ ?_
 ·refine bl ?_;refine rs ?_;refine cf ?_;by_cases a:x.dim=0<;>by_cases b:x.dim=1<;>first|(exfalso;omega)|(
   refine rs ?_;refine cf ?_;exact ap bL)
 refine rS ?_;refine fr (fun i:Nat=>⟨ao [(0,some (.pointer (some ⟨0,0,none⟩))),(3,some (.pointer (some ⟨2,0,none⟩))),(56,some (sl x.sd)),(57,some (.int .i64 (x.sd.length:Nat))),(58,some (.int .i64 (i:Nat)))],wd (MI u [(2,some (ll x))]) 3 [] 0,[]⟩) (fun i=>i<=x.sd.length/\∀j,j<i->¬mL u x j) (fun i=>x.sd.length-i) 0 ⟨abW _,fun j h=>absurd h (acm j)⟩ (fun i hv h=>?_) (fun i hv h=>?_)
 ·refine bs (rs ?_);by_cases hb:mL u x i
  ·have hb':=hb;unfold mL at hb;have e:dI u x=22:=by rw[dI,if_neg hd,if_neg hs',if_pos ⟨i,by omega,hb'⟩]
   rcases zu hu.srt hu.inj (x.sd.getD i default).1 with⟨hz,hk⟩|⟨m,hm,hz,hk⟩
   ·refine tu hk ?_;refine rd ?_;refine ct ?_;refine rs ?_;refine rt ?_;rw[e];exact⟨rfl,by simp(disch:=decide) only[ae,ab,aa],by simp(disch:=decide) only[ae,ab,aa]⟩
   rw[hz,ab2]at hb;refine tu hk ?_;by_cases h1:(u.getD m default).dim≠x.dim-1
   ·refine rd ?_;refine ct ?_;refine rs ?_;refine rt ?_;rw[e];exact⟨rfl,by simp(disch:=decide) only[ae,ab,aa],by simp(disch:=decide) only[ae,ab,aa]⟩
   have h2:0<i:=by omega
   have h3:(x.sd.getD (i-1) default).1=(x.sd.getD i default).1:=by omega
   refine rd ?_;refine ct ?_;refine rs ?_;refine rt ?_;rw[e];exact⟨rfl,by simp(disch:=decide) only[ae,ab,aa],by simp(disch:=decide) only[ae,ab,aa]⟩
  have hb':=hb;unfold mL at hb;rcases zu hu.srt hu.inj (x.sd.getD i default).1 with⟨hz,hk⟩|⟨m,hm,hz,hk⟩
  ·exfalso;omega
  rw[hz,ab2]at hb;refine tu hk ?_;by_cases h2:0<i<;>(
   refine rd ?_;refine cf ?_;refine ap (rl ?_);exact nx (i+1) ⟨by omega,fun j hj=>by
    by_cases e:j=i
    ·subst e;exact hb'
    exact hv.2 j (by omega)⟩ (by omega) (uG [(0,0),(1,1),(2,2)]))
 have h1:¬∃i,i<x.sd.length/\mL u x i:=fun⟨j,q1,q2⟩=>hv.2 j (by omega) q2
 refine rs ?_;refine rS ?_;refine fr (fun i:Nat=>⟨ao [(3,some (.pointer (some ⟨2,0,none⟩))),(10,some (.int .i64 (B2 x i))),(101,some (sl x.sd)),(102,some (.int .i64 (x.sd.length:Nat))),(103,some (.int .i64 (i:Nat)))],wd (MI u [(2,some (ll x))]) 3 [] 0,[]⟩) (fun i=>i<=x.sd.length/\∀j,j<i->¬iK x j) (fun i=>x.sd.length-i) 0 ⟨abW _,fun j h=>absurd h (acm j)⟩ (fun i hv h=>?_) (fun i hv h=>?_)
 ·refine bs (rs ?_);have hsg:=KQ i hv.2;by_cases hb:iK x i
  ·have hb':=hb;unfold iK at hb;have e:dI u x=23:=by rw[dI,if_neg hd,if_neg hs',if_neg h1,if_pos ⟨i,by omega,hb'⟩]
   refine rS ?_;refine ct ?_;refine rs ?_;refine rt ?_;rw[e];exact⟨rfl,by simp(disch:=decide) only[ae,ab,aa],by simp(disch:=decide) only[ae,ab,aa]⟩
  have hb':=hb;unfold iK at hb;have hv':∀j,j<i+1->¬iK x j:=fun j hj=>by
   by_cases e:j=i
   ·subst e;exact hb'
   exact hv.2 j (by omega)
  by_cases h2:(x.sd.getD i default).2=1<;>(
   refine rS ?_;refine cf ?_;refine sk (rl ?_);refine rl ?_;exact nx (i+1) ⟨by omega,hv'⟩ (by omega) (uG [(0,0),(1,1),(2,2)]))
 have h2:¬∃i,i<x.sd.length/\iK x i:=fun⟨j,q1,q2⟩=>hv.2 j (by omega) q2
 rw[show i=x.sd.length by omega];by_cases h3:x.dim=1
 ·have h4:x.sd.length=2:=by omega
  have hg:∀j,j<2->¬iK x j:=fun j hj=>hv.2 j (by omega)
  have hg0:=hg 0 (by omega);have hg1:=hg 1 (by omega);unfold iK at hg0 hg1;have e5:B2 x x.sd.length=(x.sd.getD 0 default).2+(x.sd.getD 1 default).2:=by rw[h4];simp only[B2,Int.zero_add]
  rw[e5];by_cases h5:(x.sd.getD 0 default).2=(x.sd.getD 1 default).2
  ·refine rS ?_;refine ct ?_;refine rs ?_;refine rt ?_;rw[dI,if_neg hd,if_neg hs',if_neg h1,if_neg h2,if_pos ⟨h3,h5⟩];exact⟨rfl,by simp(disch:=decide) only[ae,ab,aa],by simp(disch:=decide) only[ae,ab,aa]⟩
  refine rS ?_;refine cf ?_;refine sk (rs ?_);refine rt ?_;rw[dI,if_neg hd,if_neg hs',if_neg h1,if_neg h2,if_neg (fun q=>h5 q.2)];exact⟨rfl,by simp(disch:=decide) only[ae,ab,aa],by simp(disch:=decide) only[ae,ab,aa]⟩
 refine rS ?_;refine cf ?_;refine sk (rs ?_);refine rt ?_;rw[dI,if_neg hd,if_neg hs',if_neg h1,if_neg h2,if_neg (fun q=>h3 q.1)];exact⟨rfl,by simp(disch:=decide) only[ae,ab,aa],by simp(disch:=decide) only[ae,ab,aa]⟩
end Go.Proofs.YthlkgmdkabelpaaGreat.X
