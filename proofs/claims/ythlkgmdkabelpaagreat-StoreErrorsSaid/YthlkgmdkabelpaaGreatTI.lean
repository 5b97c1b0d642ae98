/-
  Packed by program (tools/pack.py) out of the texts MP MK MI MT MU MF. No condition.
-/
import Derived.Test.YthlkgmdkabelpaaGreatTH
import Derived.Test.YthlkgmdkabelpaaGreatTV
set_option linter.all false
namespace Go.Proofs.YthlkgmdkabelpaaGreat.X
open Go Go.RowKit Go.Proofs.YthlkgmdkabelpaaGreat.St
theorem Hl{x y:Sd}{o:List Sd}:gP x (y::o)=if y.1<=x.1 then y::gP x o else x::y::o:=by
 unfold gP;rw[im];split
 ·rw[List.take_succ_cons,List.drop_succ_cons,List.cons_append]
 rfl
theorem B2{x:Sd}:∀{o:List Sd},bG az o->bG az (gP x o)/\(∀z∈gP x o,z=x\/z∈o)/\∀k,fk az k (gP x o)=fk az k o++fk az k [x]
 |[],_=>⟨⟨fun z h=>(by cases h),trivial⟩,fun z h=>.inl (by simpa[gP,im]using h),fun k=>rfl⟩
 |y::o,h=>by
  rw[Hl];split
  ·rename_i hy;obtain⟨h1,h2,h3⟩:=B2 (x:=x) h.2;refine⟨⟨fun z hz=>?_,h1⟩,fun z hz=>?_,fun k=>?_⟩
   ·rcases h2 z hz with rfl|q
    ·exact hy
    exact h.1 z q
   ·rcases List.mem_cons.1 hz with rfl|q
    ·exact .inr Yw
    exact(h2 z q).imp id (YH _)
   rw[cS (x:=y) (l:=gP x o),h3,cS (x:=y) (l:=o)];split<;>rfl
  rename_i hy;refine⟨⟨fun z hz=>?_,h⟩,fun z hz=>?_,fun k=>?_⟩
  ·rcases List.mem_cons.1 hz with rfl|q
   ·show x.1<=z.1;omega
   have:=h.1 z q;show x.1<=z.1;have:y.1<=z.1:=this;omega
  ·rcases List.mem_cons.1 hz with rfl|q
   ·exact .inl rfl
   exact .inr q
  rw[cS,cS (l:=[])];split
  ·rename_i hk;have:fk az k (y::o)=[]:=tt fun z hz e=>by
    have hx:x.1=k:=hk;have hz':z.1=k:=e;rcases List.mem_cons.1 hz with rfl|q
    ·omega
    have:y.1<=z.1:=h.1 z q;omega
   rw[this];rfl
  rw[wi,List.append_nil]
theorem Bq:∀{l o:List Sd},bG az o->bG az (cL l o)/\∀k,fk az k (cL l o)=fk az k o++fk az k l
 |[],o,h=>⟨h,fun k=>(List.append_nil _).symm⟩
 |x::l,o,h=>by
  obtain⟨h1,_,h3⟩:=B2 (x:=x) h;obtain⟨g1,g2⟩:=Bq (l:=l) h1;refine⟨g1,fun k=>?_⟩;rw[cL,g2,h3,YF,<-jg];rfl
theorem GS{l:List Sd}:cL l []=bB az l:=by
 obtain⟨h1,h2⟩:=Bq (l:=l) (o:=[]) trivial;exact uk.eq ⟨h1,fun k=>by rw[h2];rfl⟩
theorem xS:∀(n:Nat) (a b:List Ce),a.length+b.length<=n->bG ar a->bG ar b->bG ar (gS a b)/\∀k,fk ar k (gS a b)=fk ar k a++fk ar k b
 |n,[],b,_,_,hb=>by rw[gS];exact⟨hb,fun k=>rfl⟩
 |n,x::a,[],_,ha,_=>by rw[gS];exact⟨ha,fun k=>by rw[wi,List.append_nil]⟩
 |0,x::a,y::b,h,_,_=>by simp at h
 |n+1,x::a,y::b,hl,ha,hb=>by
  rw[gS];simp only[List.length_cons]at hl;split
  ·rename_i hyx;obtain⟨h1,h2⟩:=xS n (x::a) b (by simp only[List.length_cons];omega) ha hb.2;refine⟨⟨fun z hz=>?_,h1⟩,fun k=>?_⟩
   ·show y.id<=z.id;rcases pu _ _ _ (Nat.le_refl _) z hz with q|q
    ·rcases List.mem_cons.1 q with rfl|q
     ·omega
     have:x.id<=z.id:=ha.1 z q;omega
    exact hb.1 z q
   rw[cS (x:=y) (l:=gS (x::a) b),h2];split
   ·rename_i hk;have:fk ar k (x::a)=[]:=tt fun z hz e=>by
     have hy:y.id=k:=hk;have hz':z.id=k:=e;rcases List.mem_cons.1 hz with rfl|q
     ·omega
     have:x.id<=z.id:=ha.1 z q;omega
    rw[this,List.nil_append,List.nil_append,cS,if_pos hk]
   rename_i hk;rw[cS (x:=y),if_neg hk]
  rename_i hyx;obtain⟨h1,h2⟩:=xS n a (y::b) (by simp only[List.length_cons];omega) ha.2 hb;refine⟨⟨fun z hz=>?_,h1⟩,fun k=>?_⟩
  ·show x.id<=z.id;rcases pu _ _ _ (Nat.le_refl _) z hz with q|q
   ·exact ha.1 z q
   rcases List.mem_cons.1 q with rfl|q
   ·omega
   have:y.id<=z.id:=hb.1 z q;omega
  rw[cS (x:=x) (l:=gS a (y::b)),h2,cS (x:=x) (l:=a)];split<;>rfl
def BA(c:Ce):Ce:=⟨c.id,c.dim,cL c.sd []⟩
theorem Cy{f:Ce->Ce}(hf:∀c,ar (f c)=ar c){k:Int}:∀{l:List Ce},fk ar k (l.map f)=(fk ar k l).map f
 |[]=>rfl
 |c::l=>by
  rw[YM,cS,cS,hf,Cy hf];split<;>rfl
theorem Dw{f:Ce->Ce}(hf:∀c,ar (f c)=ar c):∀{l:List Ce},bG ar l->bG ar (l.map f)
 |[],_=>trivial
 |c::l,h=>⟨fun z hz=>by
  obtain⟨y,hy,rfl⟩:=List.mem_map.1 hz;rw[hf,hf];exact h.1 y hy,Dw hf h.2⟩
theorem pZ:∀(n:Nat) (l:List Ce),l.length<=n->bG ar (ic n l)/\∀k,fk ar k (ic n l)=(fk ar k l).map BA
 |0,l,h=>by rw[Yx (l:=l) (by omega)];exact⟨trivial,fun k=>rfl⟩
 |n+1,l,h=>by
  rw[ic];split
  ·rw[Yx (l:=l) (by omega)];exact⟨trivial,fun k=>rfl⟩
  split
  ·rename_i h1
   match l,h1 with
   |[x],_=>
    refine⟨⟨fun z h=>(by cases h),trivial⟩,fun k=>?_⟩;show fk ar k ([x].map BA)=_;exact Cy (f:=BA) fun c=>rfl
  rename_i h0 h1;obtain⟨a1,a2⟩:=pZ n (l.take (l.length/2)) (by rw[Yk];omega);obtain⟨b1,b2⟩:=pZ n (l.drop (l.length/2)) (by rw[Ym];omega);obtain⟨c1,c2⟩:=xS _ _ _ (Nat.le_refl _) a1 b1;refine⟨c1,fun k=>?_⟩;rw[c2,a2,b2,<-YW,<-jg,ZF]
theorem y7{l:List Ce}:(bB ar l).map BA=aK l:=by
 obtain⟨h1,h2⟩:=pZ _ l (Nat.le_refl _);refine oq (key:=ar) (Dw (f:=BA) (fun c=>rfl) fu) h1 fun k=>?_
 rw[show fk ar k (aK l)=_ from h2 k,Cy (f:=BA) (fun c=>rfl),lJ]
theorem qj{l:List Ce}:bG ar (aK l):=(pZ _ l (Nat.le_refl _)).1
def Js(c:Ce):Ce:=⟨c.id,c.dim,bB az c.sd⟩
def jM(s:List Ce):Nat->List Ce
 |0=>s
 |i+1=>(jM s i).set i (Js ((jM s i).getD i default))
theorem pJ{s:List Ce}:∀i,(jM s i).length=s.length
 |0=>rfl
 |i+1=>by rw[jM,Yo,pJ i]
theorem DG{s:List Ce}:∀i,i<=s.length->jM s i=(s.take i).map Js++s.drop i
 |0,_=>by simp[jM]
 |i+1,h=>by
  have hl:((s.take i).map Js).length=i:=by rw[Yv,Yk];omega
  rw[jM,DG i (by omega),Zr _ _ (by omega),hl,Nat.sub_self,Yn,YQ (by omega),hl,Nat.sub_self,Zv (by omega),List.set_cons_zero,List.getElem?_cons_zero,List.take_add_one,Yl (by omega),YW,YF];rfl
theorem Kb{l:List Ce}:jM (bB ar l) (bB ar l).length=aK l:=by
 rw[DG _ (Nat.le_refl _),List.take_length,List.drop_length,List.append_nil,<-y7];refine List.map_congr_left fun c _=>?_
 unfold Js BA;rw[GS]
theorem AX{s:List Ce}(i:Nat)(h:∀c∈s,c.sd.length<=1000000):∀j,j<=s.length->∀c∈jM s j,c.sd.length<=1000000
 |0,_,c,hc=>h c hc
 |j+1,hj,c,hc=>by
  have ih:=AX i h j (by omega);rw[jM]at hc;rcases List.mem_or_eq_of_mem_set hc with q|q
  ·exact ih c q
  rw[q];show(bB az _).length<=_;rw[bO];exact ih _ (bn (by rw[pJ];omega))
theorem Bl(l:List Ce)(hl:l.length<=1000000)(hs:∀c∈l,c.sd.length<=1000000):Fn Tryz.prog 33 [kF l] (.ret (kF (aK l))):=by
 have hall:=Kb (l:=l);have hsl:(bB ar l).length=l.length:=bO;have hm:=AX 0 (s:=bB ar l) (fun c hc=>hs c (y4.1 hc));refine ir Tryz.func33 Tryz.results33 (h:=?_);refine rs ?_;refine rc (bh (rI (O7 l hl))) ?_;generalize bB ar l=s at hall hsl hm ⊢;refine rS ?_;refine fr (fun i:Nat=>⟨an [(2,some (.pointer (some ⟨1,0,none⟩))),(3,some (gs 2 aq s)),(9,some (.int .i64 (s.length:Nat))),(10,some (.int .i64 (i:Nat)))],wd [(1,some (.cells [.slice none 0 0] 40 (0,0))),(2,some (ro 58 (jM s i)))] 3 [] 0,[]⟩) (fun i=>i<=s.length) (fun i=>s.length-i) 0 (Yq _) (fun i hv h=>?_) (fun i hv h=>?_)
 ·have hlen:=pJ (s:=s) i;have hsd:=hm i (by omega) _ (bn (l:=jM s i) (i:=i) (by omega));have e:jM s (i+1)=(jM s i).set i (Js ((jM s i).getD i default)):=rfl;generalize jM s i=r at hlen hsd e ⊢;refine bs (rs ?_);refine oQ (b1 (Ox (r.getD i default).sd hsd)) ?_;refine rl ?_;refine nx (i+1) (by omega) (by omega) ?_;rw[e];exact bg
 have hlen:=pJ (s:=s) i;rw[show i=s.length by omega,hall]at hlen ⊢;refine cv [(2,some (.pointer (some ⟨1,0,none⟩))),(3,some (gs 2 aq (aK l)))] [(1,some (.cells [.slice none 0 0] 40 (0,0))),(2,some (ro 58 (aK l)))] 3 ?_;refine cv [(2,some (.pointer (some ⟨1,0,none⟩))),(3,some (sl (aK l)))] [(1,some (.cells [.slice none 0 0] 40 (0,0)))] 3 ?_ (hl:=fz 2);refine rs ?_;refine rt ?_;rfl
abbrev kV(k:Int):Value:=.int .i64 k
section
variable {P:Program} {T:TypeId} {γ:Type}
def aA(f:Nat->γ->Value):List (Int×γ)->Nat->List MapEntry
 |[],_=>[]
 |x::l,i=>{ key:=kV x.1,val:=f i x.2,born:=i }::aA f l (i+1)
def dg(k:Int):List (Int×γ)->Nat->Option (Nat×γ)
 |[],_=>none
 |x::l,i=>if k=x.1 then some (i,x.2)else dg k l (i+1)
def av(k:Int):List (Int×γ)->Option γ
 |[]=>none
 |x::l=>if k=x.1 then some x.2 else av k l
def bb(k:Int)(b:γ):List (Int×γ)->List (Int×γ)
 |[]=>[(k,b)]
 |x::l=>if k=x.1 then(k,b)::l else x::bb k b l
theorem ij(k:Int):∀(l:List (Int×γ)) (i:Nat),(dg k l i).map (·.2)=av k l
 |[],_=>rfl
 |x::l,i=>by
  unfold dg av;split
  ·rfl
  exact ij k l (i+1)
theorem gm{k:Int}{l:List (Int×γ)}{i:Nat}:dg k l i=none↔av k l=none:=by
 rw[<-ij k l i];cases dg k l i<;>simp
theorem sU(hu:P.underlying T=some (.int .i64))(k:Int)(em:Bool):fQ P T (kV k) em=true:=by
 have h:aD P (Instr.checkKey em 10000 T (kV k))=some ():=by rw[show(10000:Nat)=9999+1 from rfl,Instr.checkKey,aV,eW hu];rfl
 unfold fQ;rw[h];rfl
theorem yU{f:Nat->γ->Value}:∀(l:List (Int×γ)) (j:Nat),(aA f l j).all (fun e=>bZ e.key)=true
 |[],_=>rfl
 |x::l,j=>by
  unfold aA;rw[List.all_cons,yU l (j+1)];rfl
theorem yO{f:Nat->γ->Value}(k:Int):∀(l:List (Int×γ)) (j:Nat),Instr.findNow (.int .i64) (kV k) (aA f l j) j=some ((dg k l j).map fun x=>(x.1,f x.1 x.2))
 |[],_=>rfl
 |x::l,j=>by
  show(match(some (k==x.1):Option Bool)with|some true=>some (some (j,f j x.2))|some false=>Instr.findNow (.int .i64) (kV k) (aA f l (j+1)) (j+1)|none=>none)=_;unfold dg;by_cases h:k=x.1
  ·rw[if_pos h,Mh h];rfl
  rw[if_neg h,Ms h];exact yO k l (j+1)
theorem tH(hu:P.underlying T=some (.int .i64)){f:Nat->γ->Value}(k:Int)(l:List (Int×γ)):fl P T (kV k) (aA f l 0)=some ((dg k l 0).map fun x=>(x.1,f x.1 x.2)):=by
 unfold fl;rw[yU,cond_true];unfold Instr.findKey;rw[aV,eW hu];simp only[Option.bind_some];rw[yO];rfl
theorem iE{f:Nat->γ->Value}:∀(l:List (Int×γ)) (j:Nat),(aA f l j).length=l.length
 |[],_=>rfl
 |x::l,j=>by unfold aA;rw[List.length_cons,iE l,List.length_cons]
theorem rW{f:Nat->γ->Value}(k:Int)(b:γ):∀(l:List (Int×γ)) (j:Nat),aA f l j++[⟨kV k,f (j+l.length) b,j+l.length⟩]=aA f (l++[(k,b)]) j
 |[],j=>rfl
 |x::l,j=>by
  show _::(aA f l (j+1)++_)=_::aA f (l++[(k,b)]) (j+1);rw[<-rW k b l (j+1),List.length_cons,Zt j 1,YX 1]
theorem iZ{k:Int}{b:γ}:∀{l:List (Int×γ)},av k l=none->bb k b l=l++[(k,b)]
 |[],_=>rfl
 |x::l,h=>by
  unfold av at h;split at h
  ·cases h
  rename_i hk;unfold bb;rw[if_neg hk,iZ h];rfl
theorem j9{k k':Int}{b:γ}:∀{l:List (Int×γ)},av k' (bb k b l)=if k'=k then some b else av k' l
 |[]=>by
  show(if k'=k then some b else none)=_;rfl
 |x::l=>by
  unfold bb;by_cases h:k=x.1
  ·rw[if_pos h];show(if k'=k then some b else av k' l)=if k'=k then some b else(if k'=x.1 then some x.2 else av k' l)
   by_cases h2:k'=k
   ·rw[if_pos h2,if_pos h2]
   rw[if_neg h2,if_neg h2,if_neg (by rw[<-h];exact h2)]
  rw[if_neg h];show(if k'=x.1 then some x.2 else av k' (bb k b l))=if k'=k then some b else(if k'=x.1 then some x.2 else av k' l)
  rw[j9];by_cases h2:k'=x.1
  ·rw[if_pos h2,if_pos h2,if_neg (by rw[h2];exact fun e=>h e.symm)]
  rw[if_neg h2,if_neg h2]
theorem eY{k:Int}:∀{l:List (Int×γ)} {j i:Nat} {b:γ},dg k l j=some (i,b)->j<=i/\i<j+l.length/\l[i-j]?=some (k,b)
 |[],_,_,_,h=>by cases h
 |x::l,j,i,b,h=>by
  unfold dg at h;split at h
  ·rename_i hk;cases h;refine⟨Nat.le_refl _,by rw[List.length_cons];omega,?_⟩;rw[Nat.sub_self];show some x=_;rw[hk]
  obtain⟨h1,h2,h3⟩:=eY h;refine⟨by omega,by rw[List.length_cons];omega,?_⟩;rw[show i-j=(i-(j+1))+1 by omega];exact h3
theorem nG{f:Nat->γ->Value}:∀{l:List (Int×γ)} {j i:Nat} {k:Int} {b:γ},l[i]?=some (k,b)->(aA f l j)[i]?=some ⟨kV k,f (j+i) b,j+i⟩
 |[],_,_,_,_,h=>by simp at h
 |x::l,j,0,k,b,h=>by
  simp at h;subst h;rfl
 |x::l,j,i+1,k,b,h=>by
  show(aA f l (j+1))[i]?=_;rw[nG (l:=l) (j:=j+1) (i:=i) (by simpa using h)];rw[show j+1+i=j+(i+1) by omega]
theorem AS{f:Nat->γ->Value}{k:Int}{b:γ}:∀{l:List (Int×γ)} {j i:Nat} {b0:γ},dg k l j=some (i,b0)->(aA f l j).set (i-j) ⟨kV k,f i b,i⟩=aA f (bb k b l) j
 |[],_,_,_,h=>by cases h
 |x::l,j,i,b0,h=>by
  have hs:=eY h;unfold dg at h;unfold bb;split at h
  ·rename_i hk;cases h;rw[if_pos hk,Nat.sub_self];rfl
  rename_i hk;rw[if_neg hk];have hs2:=eY h;rw[show i-j=(i-(j+1))+1 by omega];show _::(aA f l (j+1)).set (i-(j+1)) _=_::aA f (bb k b l) (j+1);rw[AS h]
theorem jU{k:Int}{b:γ}:∀{l:List (Int×γ)},(bb k b l).length=if(av k l).isSome then l.length else l.length+1
 |[]=>rfl
 |x::l=>by
  unfold bb av;by_cases h:k=x.1
  ·rw[if_pos h,if_pos h];rfl
  rw[if_neg h,if_neg h,List.length_cons,jU];split<;>simp_all
theorem wc(k:Int):fj (kV k) (kV k)=true:=by
 unfold fj;rw[Yr];refine⟨rfl,?_⟩;rw[show(10000:Nat)=9999+1 from rfl,Instr.sameBits];simp
theorem Mk(hu:P.underlying T=some (.int .i64)){f:Nat->γ->Value}(k:Int)(l:List (Int×γ)){c:Nat}{z:Value}{ok:Bool}:lP P T (kV k) ok (some (aA f l 0,c)) (some z)=some (.val (some (oH ok (((dg k l 0).map fun x=>f x.1 x.2).getD z) (av k l).isSome))):=by
 show(bif fQ P T (kV k) (aA f l 0).isEmpty then xB ok z (fl P T (kV k) (aA f l 0))else none)=_;rw[sU hu,cond_true,tH hu,<-ij k l 0];cases dg k l 0<;>rfl
theorem GN(hu:P.underlying T=some (.int .i64)){f:Nat->γ->Value}{k:Int}{l:List (Int×γ)}{b:γ}{W:XW}{r:Nat}{v:Value}(hk:av k l=none)(hv:v=f l.length b) :
 lG P W r T (kV k) v (some (.map (aA f l 0) l.length))=some (.mod undef (W.put r (some (.map (aA f (bb k b l) 0) (bb k b l).length)))):=by
 show(bif fQ P T (kV k) false then pV W r (aA f l 0) l.length (kV k) v (fl P T (kV k) (aA f l 0))else none)=_;rw[sU hu,cond_true,tH hu,(gm (i:=0)).2 hk,iZ hk,hv];have:=rW (f:=f) k b l 0;rw[Nat.zero_add]at this;show some (XR.mod undef (W.put r (some (.map (aA f l 0++[⟨kV k,f l.length b,l.length⟩]) (l.length+1)))))=_;rw[this,Yh];rfl
theorem Gp(hu:P.underlying T=some (.int .i64)){f:Nat->γ->Value}{k:Int}{l:List (Int×γ)}{b b0:γ}{W:XW}{r i:Nat}{v:Value}(hk:dg k l 0=some (i,b0))(hv:v=f i b) :
 lG P W r T (kV k) v (some (.map (aA f l 0) l.length))=some (.mod undef (W.put r (some (.map (aA f (bb k b l) 0) (bb k b l).length)))):=by
 have hs:=eY hk;have hg:av k l=some b0:=by rw[<-ij k l 0,hk];rfl
 show(bif fQ P T (kV k) false then pV W r (aA f l 0) l.length (kV k) v (fl P T (kV k) (aA f l 0))else none)=_;rw[sU hu,cond_true,tH hu,hk,hv];show uC W r (aA f l 0) l.length i (kV k) (f i b) (aA f l 0)[i]?=_;rw[nG (by rw[<-Zn i];exact hs.2.2),Nat.zero_add];show(bif fj (kV k) (kV k)then some (XR.mod undef (W.put r (some (.map ((aA f l 0).set i ⟨kV k,f i b,i⟩) l.length))))else none)=_;have hset:=AS (f:=f) (b:=b) hk;rw[Zn]at hset;rw[wc,cond_true,hset,jU,hg];rfl
theorem wk(hu:P.underlying T=some (.int .i64)){f:γ->Value}(k:Int)(l:List (Int×γ)){c:Nat}{z:Value}{ok:Bool}:lP P T (kV k) ok (some (aA (fun _=>f) l 0,c)) (some z)=some (.val (some (oH ok (((av k l).map f).getD z) (av k l).isSome))):=by
 rw[Mk hu,<-ij k l 0];cases dg k l 0<;>rfl
theorem Fd(hu:P.underlying T=some (.int .i64)){f:γ->Value}{k:Int}{l:List (Int×γ)}(b:γ){W:XW}{r:Nat} :
 lG P W r T (kV k) (f b) (some (.map (aA (fun _=>f) l 0) l.length))=some (.mod undef (W.put r (some (.map (aA (fun _=>f) (bb k b l) 0) (bb k b l).length)))):=by
 cases h:dg k l 0 with
 |none=>exact GN hu (gm.1 h) rfl
 |some x=>exact Gp hu (b0:=x.2) (i:=x.1) h rfl
theorem mM{f:Nat->γ->Value}(hb:∀i b,dH (f i b)):∀(l:List (Int×γ)) (j:Nat),∀x∈aA f l j,dH x.key/\dH x.val
 |[],_,x,h=>by cases h
 |y::l,j,x,h=>by
  rcases List.mem_cons.1 h with rfl|h
  ·exact⟨di 1 rfl,hb _ _⟩
  exact mM hb l (j+1) x h
end
def gC(u:List Ce):List (Int×Ce):=u.map fun c=>(c.id,c)
abbrev eJ(u:List Ce):ag:=.map (aA (fun _=>jR) (gC u) 0) (gC u).length
abbrev fI(b:Nat)(v:Value):ag:=.cells [.map (some b),v] 178 (0,0)
instance {u:List Ce}:lA Tryz.prog (eJ u):=⟨fun T hT=>iw (jO.bare hT (mM (fun _ b=>(inferInstance:Br (jR b)).h) (gC u) 0))⟩
theorem PH{u:List Ce}{c:Ce}:gC (u++[c])=gC u++[(c.id,c)]:=YW
theorem yG{k:Int}{c:Ce}{u:List Ce}:av k (gC (c::u))=if k=c.id then some c else av k (gC u):=rfl
theorem mw{k:Int}:∀{u:List Ce},av k (gC u)=none↔∀c∈u,c.id≠k
 |[]=>⟨fun _ c h=>(by cases h),fun _=>rfl⟩
 |c::u=>by
  rw[yG,List.forall_mem_cons];split
  ·rename_i e;exact⟨fun h=>(by cases h),fun h=>absurd e.symm h.1⟩
  rename_i e;rw[mw];exact⟨fun h=>⟨fun q=>e q.symm,h⟩,fun h=>h.2⟩
theorem yn{k:Int}{c:Ce}:∀{u:List Ce},av k (gC u)=some c->c∈u/\c.id=k
 |[],h=>by cases h
 |d::u,h=>by
  rw[yG]at h;split at h
  ·rename_i e;cases h;exact⟨Yw,e.symm⟩
  obtain⟨h1,h2⟩:=yn h;exact⟨YH _ h1,h2⟩
theorem tk{o:List Ce}:∀i,i<=o.length->∀c∈dw o i,c∈o.take i
 |0,_,c,h=>by cases h
 |i+1,hi,c,h=>by
  rw[List.take_add_one,Yl (by omega)];unfold dw at h;split at h
  ·rcases List.mem_append.1 h with q|q
   ·exact Zu _ (tk i (by omega) c q)
   rw[List.mem_singleton.1 q,Yn,Yl (by omega)];exact Zp _ Yw
  exact Zu _ (tk i (by omega) c h)
theorem Eb{o:List Ce}:∀i,0<i->∃c∈dw o i,c.id=(o.getD (i-1) default).id
 |i+1,_=>by
  unfold dw;split
  ·exact⟨_,Zp _ Yw,rfl⟩
  rename_i h;obtain⟨c,h1,h2⟩:=Eb (o:=o) i (by omega);exact⟨c,h1,by rw[h2];exact(Decidable.not_not.1 fun q=>h (.inr q)).symm⟩
theorem nV{o:List Ce}(hs:bG ar o){i j:Nat}(hij:i<j)(hj:j<o.length):(o.getD i default).id<=(o.getD j default).id:=by
 induction o generalizing i j with
 |nil=>simp at hj
 |cons c o ih=>
  obtain⟨j,rfl⟩:∃k,j=k+1:=⟨j-1,by omega⟩;simp only[List.length_cons]at hj;rw[List.getD_cons_succ];cases i with
  |zero=>exact hs.1 _ (bn (by omega))
  |succ i=>rw[List.getD_cons_succ];exact ih hs.2 (by omega) (by omega)
theorem A4{o:List Ce}{c:Ce}{i:Nat}(hi:i<=o.length)(h:c∈o.take i):∃j,j<i/\o.getD j default=c:=by
 obtain⟨j,hj,rfl⟩:=YL h;rw[Yk]at hj;exact⟨j,by omega,by rw[List.getElem_take,Yn,Yl (by omega)];rfl⟩
theorem A8{o:List Ce}(hs:bG ar o){i:Nat}(hi:i<o.length):av (o.getD i default).id (gC (dw o i))=none↔(i=0\/(o.getD i default).id≠(o.getD (i-1) default).id):=by
 rw[mw];constructor
 ·intro h;by_cases e:i=0
  ·exact .inl e
  obtain⟨c,h1,h2⟩:=Eb (o:=o) i (by omega);exact .inr fun q=>h c h1 (by rw[h2,q])
 intro h c hc;rcases h with e|e
 ·subst e;cases hc
 obtain⟨j,h1,h2⟩:=A4 (by omega) (tk i (by omega) c hc);have h3:c.id<=(o.getD (i-1) default).id:=by
  rw[<-h2];by_cases q:j=i-1
  ·rw[q];omega
  exact nV hs (by omega) (by omega)
 by_cases hz:i=0
 ·omega
 have:=nV hs (i:=i-1) (j:=i) (by omega) hi;omega
theorem RJ{u:List Ce}{k:Int}{c:Nat}{z:Value}{ok:Bool}:lP Tryz.prog 3 (.int .i64 k) ok (some (aA (fun _=>jR) (gC u) 0,c)) (some z)=some (.val (some (oH ok (((av k (gC u)).map jR).getD z) (av k (gC u)).isSome))):=wk Tryz.underlying3 k _
theorem TR{u:List Ce}{x:Ce}{W:XW}{r:Nat}(h:av x.id (gC u)=none):lG Tryz.prog W r 3 (.int .i64 x.id) (.agg #[.int .i64 x.id,.int .i64 x.dim,sl x.sd]) (some (.map (aA (fun _=>jR) (gC u) 0) (gC u).length))=some (.mod undef (W.put r (some (eJ (u++[x]))))):=by
 have:=Fd (P:=Tryz.prog) Tryz.underlying3 (f:=jR) (k:=x.id) (l:=gC u) x (W:=W) (r:=r);rw[iZ h,<-PH]at this;exact this
attribute [go_sem high] RJ
attribute [go_sem] YZ YG Option.getD_none Zd Option.isSome_none Option.isSome_some
abbrev dP(u:List Ce):List Int:=u.map (·.id)
def XZ(u:List Ce)(e:aZ)(W:XW):Prop:=∃a b,e=.ret (.pointer (some ⟨a,0,none⟩))/\a≠b/\W.get a=some (fI b (sl (dP u)))/\W.get b=some (eJ u)
set_option maxHeartbeats 1000000 in
theorem Vk(l:List Ce)(hl:l.length<=1000000)(hs:∀c∈l,c.sd.length<=1000000):aT Tryz.prog 62 [kF l] (wd [] 0 [] 0) (XZ (kY l)):=by
 have ho:=gB _ l (Nat.le_refl _);have hc:=Bl l hl hs;have hsrt:=qj (l:=l);unfold kY;generalize aK l=o at ho hc hsrt ⊢;refine XY Tryz.func62 Tryz.results62 (h:=?_);refine rs ?_;refine rs ?_;refine WD (b1 hc) ?_;refine cv [(3,some (.pointer (some ⟨2,0,none⟩))),(13,some (sl o)),(14,some (.int .i64 (o.length:Nat))),(15,some (.int .i64 ((0:Nat):Int)))] [(1,some (eJ [])),(2,some (fI 1 (.slice none 0 0))),(3,some (ro 3 (dP [])))] 4 ?_;refine cv [(3,some (.pointer (some ⟨2,0,none⟩))),(13,some (sl o)),(14,some (.int .i64 (o.length:Nat))),(15,some (.int .i64 ((0:Nat):Int)))] [(1,some (eJ (dw o 0))),(2,some (fI 1 (gs 3 aq (dP (dw o 0))))),(3,some (ro 3 (dP (dw o 0))))] 4 ?_ (hl:=sw [(1,1),(2,2),(3,3)]);refine fr (fun i:Nat=>⟨an [(3,some (.pointer (some ⟨2,0,none⟩))),(13,some (sl o)),(14,some (.int .i64 (o.length:Nat))),(15,some (.int .i64 (i:Nat)))],wd [(1,some (eJ (dw o i))),(2,some (fI 1 (gs 3 aq (dP (dw o i))))),(3,some (ro 3 (dP (dw o i))))] 4 [] 0,[]⟩) (fun i=>i<=o.length) (fun i=>o.length-i) 0 (Yq _) (fun i hv h=>?_) (fun i hv h=>?_)
 ·have hq:=ny o i;have hid:(dP (dw o i)).length=(dw o i).length:=Yv _;have hk:=A8 hsrt (i:=i) (by omega);refine bs (rs ?_);by_cases h1:i=0\/(o.getD i default).id≠(o.getD (i-1) default).id
  ·have e:dw o (i+1)=dw o i++[o.getD i default]:=if_pos h1;have hk:=hk.2 h1;generalize dw o i=u at hk e hq hid ⊢;generalize o.getD i default=x at hk e ⊢;have hup:=fun W=>TR (W:=W) (r:=1) hk
   refine rX hk ?_;refine rs ?_;refine ct ?_;refine rX hup ?_;refine wa ?_;refine rl ?_;refine nx (i+1) (by omega) (by omega) ?_;rw[e,show dP (u++[x])=dP u++[x.id]from YW];exact sw [(1,1),(2,2),(7,3)]
  have e:dw o (i+1)=dw o i:=if_neg h1;obtain⟨y,hy⟩:∃y,av (o.getD i default).id (gC (dw o i))=some y:=by
   cases q:av (o.getD i default).id (gC (dw o i))with
   |none=>exact absurd (hk.1 q) h1
   |some y=>exact⟨y,rfl⟩
  generalize dw o i=u at hy e hq hid ⊢;generalize o.getD i default=x at hy e ⊢;refine rX hy ?_;refine rs ?_;refine cf ?_;refine ap (rl ?_);refine nx (i+1) (by omega) (by omega) ?_;rw[e];exact sw [(1,1),(2,2),(3,3)]
 rw[show i=o.length by omega];have hq:=ny o o.length;have hid:(dP (dw o o.length)).length=(dw o o.length).length:=Yv _;refine cv [(3,some (.pointer (some ⟨2,0,none⟩)))] [(1,some (eJ (dw o o.length))),(2,some (fI 1 (sl (dP (dw o o.length)))))] 4 ?_ (hl:=fz 3);refine rs ?_;refine rt ?_;exact⟨2,1,rfl,by decide,by simp(disch:=decide) only[ae,ab,aa],by simp(disch:=decide) only[ae,ab,aa]⟩
theorem Iu{P:Program}{f:FuncId}{args:List Value}{W:XW}{S:aZ->XW->Prop}{o1:Nat->ag}{o2:ag}(hargs:cV args)(hcall:aT P f args (wd [] 0 [] 0) S)
 (hout:∀e' W',S e' W'->∃a b,e'=.ret (.pointer (some ⟨a,0,none⟩))/\a≠b/\W'.get a=some (o1 b)/\W'.get b=some o2) (ho1:∀b n θ,θ b=some n->TO P (aL θ) (o1 b) (o1 n)) (ho2:gJ P o2) :
 lX P f args W (.ret (.pointer (some ⟨W.next,0,none⟩))) ((W.push (o1 (W.next+1))).push o2):=
 jq (k:=0) (fun _=>0) (fun _=>none) rfl (fun m _ h=>by omega) (fun m h=>by omega) (fun n m h=>by cases h) (fun m oL h=>by rw[XW.get_ge (Yq _)]at h;cases h) (hargs _ aj) hcall
  fun eL WL' hS=>by
   obtain⟨a,b,rfl,hab,ha,hb⟩:=hout _ _ hS;have ta:(fun m=>if m=a then some W.next else if m=b then some (W.next+1)else none) a=some W.next:=if_pos rfl;have tb:(fun m=>if m=a then some W.next else if m=b then some (W.next+1)else none) b=some (W.next+1):=by show(if b=a then some W.next else if b=b then some (W.next+1)else none)=_;rw[if_neg (fun e=>hab e.symm),if_pos rfl]
   have hnx:((W.push (o1 (W.next+1))).push o2).next=W.next+1+1:=rfl;refine⟨fun m=>if m=a then some W.next else if m=b then some (W.next+1)else none,fun m x h=>?_,fun m m' x h h'=>?_,fun x o' h=>?_,bN ta,by rw[hnx];omega⟩
   ·rw[hnx];by_cases hm:m=a
    ·rw[if_pos hm]at h;cases h;exact .inr ⟨Yq _,Nat.le_refl _,by omega⟩
    rw[if_neg hm]at h;by_cases hm2:m=b
    ·rw[if_pos hm2]at h;cases h;exact .inr ⟨Yq _,by omega,by omega⟩
    rw[if_neg hm2]at h;cases h
   ·by_cases hm:m=a
    ·rw[if_pos hm]at h;by_cases hm':m'=a
     ·omega
     rw[if_neg hm']at h';by_cases hm2:m'=b
     ·rw[if_pos hm2]at h';injection h with h;injection h' with h';omega
     rw[if_neg hm2]at h';cases h'
    rw[if_neg hm]at h;by_cases hmb:m=b
    ·rw[if_pos hmb]at h;by_cases hm':m'=a
     ·rw[if_pos hm']at h';injection h with h;injection h' with h';omega
     rw[if_neg hm']at h';by_cases hm2:m'=b
     ·omega
     rw[if_neg hm2]at h';cases h'
    rw[if_neg hmb]at h;cases h
   rcases XW.get_push h with⟨rfl,rfl⟩|⟨q1,q2⟩
   ·exact .inl ⟨b,_,tb,hb,ho2 _ aj⟩
   rcases XW.get_push q2 with⟨rfl,rfl⟩|⟨q3,q4⟩
   ·exact .inl ⟨a,_,ta,ha,ho1 _ _ _ tb⟩
   exact .inr ⟨q4,aM q4,fun m hm=>by omega⟩
open Classical in
noncomputable def hk2(args:List Value)(o1:Nat->ag)(o2:ag):HF:=fun a W=>if a=args then some (.ret (.pointer (some ⟨W.next,0,none⟩)),(W.push (o1 (W.next+1))).push o2)else none
theorem QW{args:List Value}{o1:Nat->ag}{o2:ag}{W:XW}:hk2 args o1 o2 args W=some (.ret (.pointer (some ⟨W.next,0,none⟩)),(W.push (o1 (W.next+1))).push o2):=if_pos rfl
theorem TP{P:Program}{f:FuncId}{args:List Value}{o1:Nat->ag}{o2:ag}{S:aZ->XW->Prop}(he:cT P f)(ha:cV args)(h:aT P f args (wd [] 0 [] 0) S)
 (hout:∀e' W',S e' W'->∃a b,e'=.ret (.pointer (some ⟨a,0,none⟩))/\a≠b/\W'.get a=some (o1 b)/\W'.get b=some o2) (ho1:∀b n θ,θ b=some n->TO P (aL θ) (o1 b) (o1 n)) (ho2:gJ P o2):bQ P f (hk2 args o1 o2):=by
 have key:∀a W e' W',hk2 args o1 o2 a W=some (e',W')->a=args/\e'=.ret (.pointer (some ⟨W.next,0,none⟩))/\W'=(W.push (o1 (W.next+1))).push o2:=fun a W e' W' q=>by
  unfold hk2 at q;split at q
  ·cases q;exact⟨by assumption,rfl,rfl⟩
  cases q
 refine⟨he,fun a W e' W' q=>?_,fun a W e' W' q=>?_⟩
 ·obtain⟨_,_,rfl⟩:=key _ _ _ _ q;exact(bu.push _ _).trans (bu.push _ _)
 obtain⟨rfl,rfl,rfl⟩:=key _ _ _ _ q;exact Iu ha h hout ho1 ho2
theorem MW{x y:Ce}(h:jR x=jR y):x=y:=by
 obtain⟨a,b,c⟩:=x;obtain⟨a',b',c'⟩:=y;injection h with h;have h:=congrArg Array.toList h;simp only[List.cons.injEq,Value.int.injEq,true_and,and_true]at h;obtain⟨h1,h2,h3⟩:=h;have key:∀{l m:List Sd},l.flatMap El.enc=m.flatMap El.enc->l=m:=by
  intro l
  induction l with
  |nil=>intro m h;cases m with
   |nil=>rfl
   |cons z m=>exact absurd (congrArg List.length h) (by simp[El.enc])
  |cons z l ih=>intro m h;cases m with
   |nil=>exact absurd (congrArg List.length h) (by simp[El.enc])
   |cons w m=>
    obtain⟨p,q⟩:=z;obtain⟨p',q'⟩:=w;rw[YB,YB]at h;injection h with g1 h;injection h with g2 h;injection g1 with _ g1;injection g2 with _ g2;have g1:p=p':=g1;have g2:q=q':=g2;rw[ih h,g1,g2]
 rw[h1,h2,key (Rd h3).1]
theorem D5:∀{l m:List Ce} {i j:Nat},aA (fun _=>jR) (gC l) i=aA (fun _=>jR) (gC m) j->l=m
 |[],[],_,_,_=>rfl
 |[],_::_,_,_,h=>by simp[aA,gC]at h
 |_::_,[],_,_,h=>by simp[aA,gC]at h
 |x::l,y::m,i,j,h=>by
  injection h with h1 h2;injection h1 with _ h4 _;have h5:x=y:=MW h4;rw[h5,D5 (l:=l) (m:=m) h2]
def Vj:ag->Option Nat
 |.cells [.map (some b),_] _ _=>some b
 |_=>none
noncomputable def WF:ni Tryz.prog (List Ce) where
 main u _ b:=fI b (sl (dP u))
 sat u:=some (eJ u)
 hnd:=Vj
 hnd_eq u w b:=rfl
 inj a a' w b h hs:=by have hs:=Option.some.inj hs;injection hs with hs;exact D5 hs
 free a w b b' h:=by cases h
 ren a w w' b b' θ hw hb:=cg (au (cz (hb (by simp))) (au ((inferInstance:Br (sl (dP a))).h _ aj) aR))
 bare a o h:=by cases h;exact(inferInstance:lA Tryz.prog (eJ a)).h
structure Ft(f:FuncId)(xs:List Value)(u:List Ce)(v:Value):Prop where
 en:cT Tryz.prog f
 ba:cV xs
 bv:dH v
 lo:aT Tryz.prog f (.pointer (some ⟨0,0,none⟩)::xs) (wd [(0,some (fI 1 (sl (dP u)))),(1,some (eJ u))] 2 [] 0) fun e' W'=>e'=.ret v/\W'.get 0=some (fI 1 (sl (dP u)))/\W'.get 1=some (eJ u)
theorem Wu{f:FuncId}{xs:List Value}{u:List Ce}{v:Value}{fn:Func}{c:Code}{F:List (Nat×Option Value)}{N:Nat}{R:Array ResultVar}(hf:Tryz.prog.funcs[f]?=some fn)(hR:fn.results=R)(hc:fn.body=some c:=by rfl)(hN:fn.ntmps=N:=by rfl)(hn:gq fn=true:=by rfl)(hl:(Value.pointer (some ⟨0,0,none⟩)::xs).length<=fn.ntmps:=by exact Nat.le_of_ble_eq_true rfl)
 (hF:bA 0 (Value.pointer (some ⟨0,0,none⟩)::xs) []=F:=by simp only[bA.eq_1,bA.eq_2,Nat.reduceAdd]<;>with_reducible rfl) [ha:b7 xs] [hv:Br v] (h:ay Tryz.prog N 2 c ⟨an F,wd [(0,some (fI 1 (sl (dP u)))),(1,some (eJ u))] 2 [] 0,[]⟩ (qO Tryz.prog R.toList fun e' W'=>e'=.ret v/\W'.get 0=some (fI 1 (sl (dP u)))/\W'.get 1=some (eJ u))):Ft f xs u v:=
 ⟨kP hf hc hn,ha.h,hv.h,by subst hN hF hR;exact cy b0 hf hc hl (fh (fun ex s ⟨p,e',W',h1,h2,h3⟩=>⟨p,e',W',h1,by rw[<-l6];exact h2,h3⟩) h)⟩
open Classical in
noncomputable def Ma(xs:List Value)(v:Value)(u:List Ce):PP (List Ce):=fun xs' u'=>if xs'=xs/\u'=u then some (v,u,.rd)else none
noncomputable def Sb(xs:List Value)(v:Value)(u:List Ce):HF:=qX WF (Ma xs v u)
theorem Jo{w b:Nat}{W:XW}{xs:List Value}{v:Value}{u:List Ce}(h0:W.get w=some (fI b (sl (dP u))))(h1:W.get b=some (eJ u))(hwb:w≠b):Sb xs v u (.pointer (some ⟨w,0,none⟩)::xs) W=some (.ret v,W):=by
 have h:qU WF W w b u:=⟨h0,fun o ho=>by cases ho;exact⟨h1,hwb⟩⟩;have hp:Ma xs v u xs u=some (v,u,.rd):=if_pos ⟨rfl,rfl⟩;unfold Sb;rw[If h (by rw[hp];intro v a' e;cases e),hp];rfl
theorem Ju{f:FuncId}{xs:List Value}{v:Value}{u:List Ce}(h:Ft f xs u v):bQ Tryz.prog f (Sb xs v u):=by
 have key:∀xs' a v' a' md,Ma xs v u xs' a=some (v',a',md)->xs'=xs/\a=u/\v'=v/\a'=u/\md=.rd:=fun xs' a v' a' md q=>by
  unfold Ma at q;split at q
  ·rename_i hh;cases q;exact⟨hh.1,hh.2,rfl,rfl,rfl⟩
  cases q
 refine E3 h.en (fun xs' a v' a' md q=>?_) (fun xs' a v' a' md q=>?_)
 ·obtain⟨rfl,rfl,rfl,rfl,rfl⟩:=key _ _ _ _ _ q;exact⟨h.ba,h.bv⟩
 obtain⟨rfl,rfl,rfl,rfl,rfl⟩:=key _ _ _ _ _ q;exact h.lo.mono fun e W' ⟨k1,k2,k3⟩=>⟨k1,k2,fun o ho=>by cases ho;exact k3⟩
theorem UE(l:List Ce)(hl:l.length<=1000000)(hs:∀c∈l,c.sd.length<=1000000):bQ Tryz.prog 62 (hk2 [kF l] (fun b=>fI b (sl (dP (kY l)))) (eJ (kY l))):=
 TP (enters_of (by kernel_rfl)) (inferInstance:b7 [kF l]).h (Vk l hl hs) (fun e' W' h=>h) (fun b n θ h=>cg (au (cz h) (au ((inferInstance:Br (sl (dP (kY l)))).h _ aj) aR))) (inferInstance:lA Tryz.prog (eJ (kY l))).h
attribute [go_sem] QW
theorem vb{u:List Ce}{id:Int}(hu:bG ar u):∀(d lo hi:Nat),hi-lo<=d->lo<=hi->hi<=u.length->(∀j,j<lo->(u.getD j default).id<id)->(∀j,hi<=j->j<u.length->id<=(u.getD j default).id) ->
 (∀j,j<my u id lo hi->(u.getD j default).id<id)/\(∀j,my u id lo hi<=j->j<u.length->id<=(u.getD j default).id)
 |d,lo,hi,hd,h1,h2,a,b=>by
  rw[my];split
  ·rename_i hlt;obtain⟨d,rfl⟩:∃k,d=k+1:=⟨d-1,by omega⟩;split
   ·rename_i hm;refine vb hu d _ _ (by omega) (by omega) h2 (fun j hj=>?_) b;by_cases e:j=(lo+hi)/2
    ·rw[e];exact hm
    have:=nV hu (i:=j) (j:=(lo+hi)/2) (by omega) (by omega);omega
   rename_i hm;refine vb hu d _ _ (by omega) (by omega) (by omega) a fun j hj hjl=>?_
   by_cases e:j=(lo+hi)/2
   ·rw[e];omega
   have:=nV hu (i:=(lo+hi)/2) (j:=j) (by omega) hjl;omega
  rename_i hlt;have e:lo=hi:=by omega
  subst e;exact⟨a,b⟩
theorem SX{u:List Ce}{id:Int}(hn:∀i j,i<u.length->j<u.length->(u.getD i default).id=(u.getD j default).id->i=j){m:Nat}(hm:m<u.length)(h:(u.getD m default).id=id):av id (gC u)=some (u.getD m default):=by
 cases e:av id (gC u)with
 |none=>exact absurd h (mw.1 e _ (bn hm))
 |some c=>
  obtain⟨h1,h2⟩:=yn e;obtain⟨j,hj,rfl⟩:=YL h1;have hjd:u.getD j default=u[j]:=by rw[Yn,Yl hj];rfl
  have:=hn j m hj hm (by rw[hjd,h2,h]);subst this;rw[hjd]
theorem wV{u:List Ce}(hu:bG ar u)(hn:∀i j,i<u.length->j<u.length->(u.getD i default).id=(u.getD j default).id->i=j)(id:Int) :
 (ml u id=-1/\av id (gC u)=none)\/∃m:Nat,m<u.length/\ml u id=m/\av id (gC u)=some (u.getD m default):=by
 obtain⟨h1,h2⟩:=vb (id:=id) hu _ 0 u.length (Nat.le_refl _) (Yq _) (Nat.le_refl _) (fun j h=>absurd h (YI j)) (fun j h1 h2=>by omega);unfold ml;split
 ·rename_i h;exact .inr ⟨_,h.1,rfl,SX hn h.1 h.2⟩
 rename_i h;refine .inl ⟨rfl,mw.2 fun c hc e=>?_⟩;obtain⟨j,hj,rfl⟩:=YL hc;have hjd:u.getD j default=u[j]:=by rw[Yn,Yl hj];rfl
 rw[<-hjd]at e;have h3:my u id 0 u.length<=j:=by
  rcases Yz j (my u id 0 u.length)with q|q
  ·have:=h1 j q;omega
  exact q
 have h4:=h2 (my u id 0 u.length) (Nat.le_refl _) (by omega);refine h ⟨by omega,?_⟩;by_cases q:my u id 0 u.length=j
 ·rw[q];exact e
 have:=nV hu (i:=my u id 0 u.length) (j:=j) (by omega) hj;omega
structure Uq(u:List Ce):Prop where
 srt:bG ar u
 inj:∀i j,i<u.length->j<u.length->(u.getD i default).id=(u.getD j default).id->i=j
abbrev j8(x:Ce):ag:=.cells [.int .i64 x.id,.int .i64 x.dim,sl x.sd] 58 (0,0)
abbrev He(u:List Ce)(r:List (Nat×Option ag)):List (Nat×Option ag):=(0,some (fI 1 (sl (dP u))))::(1,some (eJ u))::r
attribute [go_sem] He j8
def B5(x:Ce):Nat->Int
 |0=>0
 |i+1=>B5 x i+(x.sd.getD i default).2
theorem GE{x:Ce}:∀i,(∀j,j<i->¬g8 x j)->-(i:Int)<=B5 x i/\B5 x i<=i
 |0,_=>⟨Int.le_refl _,Int.le_refl _⟩
 |i+1,h=>by
  have:=GE i fun j hj=>h j (by omega)
  have h2:=h i (by omega);unfold g8 at h2;rw[B5];omega
set_option maxHeartbeats 4000000 in
theorem Qf(u:List Ce)(x:Ce)(hu:Uq u)(hx:x.sd.length<=1000000):Ft 63 [jR x] u (.int .i64 (dt u x)):=by
 refine Wu Tryz.func63 Tryz.results63 (h:=?_);refine rs ?_;refine rs ?_;by_cases hd:x.dim<0\/8<x.dim
 ·refine bs ?_;by_cases h1:x.dim<0<;>(
   refine rs ?_;refine ct ?_;refine rs ?_;refine rt ?_;rw[dt,if_pos hd];exact⟨rfl,by simp(disch:=decide) only[ae,ab,aa],by simp(disch:=decide) only[ae,ab,aa]⟩)
 by_cases hs:tY x
 ·have hs':=hs;unfold tY at hs;refine bs ?_;refine rs ?_;refine cf ?_;by_cases a:x.dim=0<;>by_cases b:x.dim=1<;>by_cases c:x.sd.length<2<;>first|(exfalso;omega)|(
   refine rs ?_;refine ct ?_;refine rs ?_;refine rt ?_;rw[dt,if_neg hd,if_pos hs'];exact⟨rfl,by simp(disch:=decide) only[ae,ab,aa],by simp(disch:=decide) only[ae,ab,aa]⟩)
 have hs':=hs;unfold tY at hs;refine G0 ?_ ?_
 ·refine bl ?_;refine rs ?_;refine cf ?_;by_cases a:x.dim=0<;>by_cases b:x.dim=1<;>first|(exfalso;omega)|(
   refine rs ?_;refine cf ?_;exact ap bg)
 refine rS ?_;refine fr (fun i:Nat=>⟨an [(0,some (.pointer (some ⟨0,0,none⟩))),(3,some (.pointer (some ⟨2,0,none⟩))),(56,some (sl x.sd)),(57,some (.int .i64 (x.sd.length:Nat))),(58,some (.int .i64 (i:Nat)))],wd (He u [(2,some (j8 x))]) 3 [] 0,[]⟩) (fun i=>i<=x.sd.length/\∀j,j<i->¬lV u x j) (fun i=>x.sd.length-i) 0 ⟨Yq _,fun j h=>absurd h (YI j)⟩ (fun i hv h=>?_) (fun i hv h=>?_)
 ·refine bs (rs ?_);by_cases hb:lV u x i
  ·have hb':=hb;unfold lV at hb;have e:dt u x=22:=by rw[dt,if_neg hd,if_neg hs',if_pos ⟨i,by omega,hb'⟩]
   rcases wV hu.srt hu.inj (x.sd.getD i default).1 with⟨hz,hk⟩|⟨m,hm,hz,hk⟩
   ·refine rX hk ?_;refine rd ?_;refine ct ?_;refine rs ?_;refine rt ?_;rw[e];exact⟨rfl,by simp(disch:=decide) only[ae,ab,aa],by simp(disch:=decide) only[ae,ab,aa]⟩
   rw[hz,Yt]at hb;refine rX hk ?_;by_cases h1:(u.getD m default).dim≠x.dim-1
   ·refine rd ?_;refine ct ?_;refine rs ?_;refine rt ?_;rw[e];exact⟨rfl,by simp(disch:=decide) only[ae,ab,aa],by simp(disch:=decide) only[ae,ab,aa]⟩
   have h2:0<i:=by omega
   have h3:(x.sd.getD (i-1) default).1=(x.sd.getD i default).1:=by omega
   refine rd ?_;refine ct ?_;refine rs ?_;refine rt ?_;rw[e];exact⟨rfl,by simp(disch:=decide) only[ae,ab,aa],by simp(disch:=decide) only[ae,ab,aa]⟩
  have hb':=hb;unfold lV at hb;rcases wV hu.srt hu.inj (x.sd.getD i default).1 with⟨hz,hk⟩|⟨m,hm,hz,hk⟩
  ·exfalso;omega
  rw[hz,Yt]at hb;refine rX hk ?_;by_cases h2:0<i<;>(
   refine rd ?_;refine cf ?_;refine ap (rl ?_);exact nx (i+1) ⟨by omega,fun j hj=>by
    by_cases e:j=i
    ·subst e;exact hb'
    exact hv.2 j (by omega)⟩ (by omega) (sw [(0,0),(1,1),(2,2)]))
 have h1:¬∃i,i<x.sd.length/\lV u x i:=fun⟨j,q1,q2⟩=>hv.2 j (by omega) q2
 refine rs ?_;refine rS ?_;refine fr (fun i:Nat=>⟨an [(3,some (.pointer (some ⟨2,0,none⟩))),(10,some (.int .i64 (B5 x i))),(101,some (sl x.sd)),(102,some (.int .i64 (x.sd.length:Nat))),(103,some (.int .i64 (i:Nat)))],wd (He u [(2,some (j8 x))]) 3 [] 0,[]⟩) (fun i=>i<=x.sd.length/\∀j,j<i->¬g8 x j) (fun i=>x.sd.length-i) 0 ⟨Yq _,fun j h=>absurd h (YI j)⟩ (fun i hv h=>?_) (fun i hv h=>?_)
 ·refine bs (rs ?_);have hsg:=GE i hv.2;by_cases hb:g8 x i
  ·have hb':=hb;unfold g8 at hb;have e:dt u x=23:=by rw[dt,if_neg hd,if_neg hs',if_neg h1,if_pos ⟨i,by omega,hb'⟩]
   refine rS ?_;refine ct ?_;refine rs ?_;refine rt ?_;rw[e];exact⟨rfl,by simp(disch:=decide) only[ae,ab,aa],by simp(disch:=decide) only[ae,ab,aa]⟩
  have hb':=hb;unfold g8 at hb;have hv':∀j,j<i+1->¬g8 x j:=fun j hj=>by
   by_cases e:j=i
   ·subst e;exact hb'
   exact hv.2 j (by omega)
  by_cases h2:(x.sd.getD i default).2=1<;>(
   refine rS ?_;refine cf ?_;refine sk (rl ?_);refine rl ?_;exact nx (i+1) ⟨by omega,hv'⟩ (by omega) (sw [(0,0),(1,1),(2,2)]))
 have h2:¬∃i,i<x.sd.length/\g8 x i:=fun⟨j,q1,q2⟩=>hv.2 j (by omega) q2
 rw[show i=x.sd.length by omega];by_cases h3:x.dim=1
 ·have h4:x.sd.length=2:=by omega
  have hg:∀j,j<2->¬g8 x j:=fun j hj=>hv.2 j (by omega)
  have hg0:=hg 0 (by omega);have hg1:=hg 1 (by omega);unfold g8 at hg0 hg1;have e5:B5 x x.sd.length=(x.sd.getD 0 default).2+(x.sd.getD 1 default).2:=by rw[h4];simp only[B5,Int.zero_add]
  rw[e5];by_cases h5:(x.sd.getD 0 default).2=(x.sd.getD 1 default).2
  ·refine rS ?_;refine ct ?_;refine rs ?_;refine rt ?_;rw[dt,if_neg hd,if_neg hs',if_neg h1,if_neg h2,if_pos ⟨h3,h5⟩];exact⟨rfl,by simp(disch:=decide) only[ae,ab,aa],by simp(disch:=decide) only[ae,ab,aa]⟩
  refine rS ?_;refine cf ?_;refine sk (rs ?_);refine rt ?_;rw[dt,if_neg hd,if_neg hs',if_neg h1,if_neg h2,if_neg (fun q=>h5 q.2)];exact⟨rfl,by simp(disch:=decide) only[ae,ab,aa],by simp(disch:=decide) only[ae,ab,aa]⟩
 refine rS ?_;refine cf ?_;refine sk (rs ?_);refine rt ?_;rw[dt,if_neg hd,if_neg hs',if_neg h1,if_neg h2,if_neg (fun q=>h3 q.1)];exact⟨rfl,by simp(disch:=decide) only[ae,ab,aa],by simp(disch:=decide) only[ae,ab,aa]⟩
end Go.Proofs.YthlkgmdkabelpaaGreat.X
