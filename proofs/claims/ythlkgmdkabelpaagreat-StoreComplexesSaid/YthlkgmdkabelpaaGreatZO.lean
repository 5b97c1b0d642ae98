/-
  Packed by program (tools/pack.py) out of the texts U7 U9 U10 U11 US U12 U13 U15 U16 U18 U17 V0. No condition.
-/
import Derived.Test.YthlkgmdkabelpaaGreatZF
import Derived.Test.YthlkgmdkabelpaaGreatZ1
import Derived.Shelf.Small.Strs
import Derived.Shelf.SlGeneric
import Derived.Shelf.SlLaysF0
import Derived.Ground.SlsfProg
import Derived.Ground.NamesProg
import Derived.Test.YthlkgmdkabelpaaGreatProg
import Derived.Shelf.SlSortCmp.KitK
import Derived.KernelRfl
set_option linter.all false
namespace Go.Proofs.YthlkgmdkabelpaaGreat.X
open Go Go.RowKit
theorem H7{P:Program}{N k:Nat}{c d:Code}{s:XS}{Q:XQ}(S:XS)(h:ar P N k c s fun e s'=>e=.norm/\bz P k s' S)(q:ar P N k d S Q):ar P N k (.seq c d) s Q:=
 ai (fu (fun e s1 hx=>by
  obtain⟨rfl,hl⟩:=hx;exact eR hl q) h)
theorem FH:bd 0=false:=by decide
theorem Og{W:XW}{len n cap s by_:Nat}{e:TypeId}{src:List Value}{o:Option ah}:sX W len n cap s by_ e src o none=none:=rfl
theorem Sw{q:Option XR}:tN none q=q:=rfl
def dA(es:aV):List HB:=es.map (·.1)
def cO(l:List HB):List Value:=l.flatMap fun h=>an h.1
theorem vA(l:List HB):cZ (cO l):=iZ (fun h=>AY _) l
theorem NS{l:List HB}{i:Nat}(h:i<l.length):((cO l).drop (i*32)).take 32=an l[i].1:=Kw (g:=fun h:HB=>an h.1) (m:=32) (fun x _=>by rw[bE,x.2]) h
theorem iw:∀l:List HB,(cO l).length=l.length*32
 |[]=>rfl
 |x::l=>by
  have:=iw l;unfold cO at this ⊢;rw[ab7,abP,bE,x.2,List.length_cons,this];omega
theorem In{l:List HB}{h:HB}:cO l++an h.1=cO (l++[h]):=by simp[cO]
theorem Mf{h:HB}:an h.1=cO [h]:=by simp[cO]
def yw(l:List HB):Value:=Vj (cO l) l.length
theorem M3(l:List HB):d8 (yw l):=MO (vA l) _
theorem wu{enc:List UInt8->Value}:∀{l:aV} {i:Nat} {e:MapEntry},e∈gY enc l i->∃j,∃h:j<l.length,e=⟨bu l[j].1,enc l[j].2,i+j⟩
 |x::l,i,e,h=>by
  rcases List.mem_cons.1 h with rfl|h
  ·exact⟨0,by rw[List.length_cons];omega,rfl⟩
  obtain⟨j,hj,rfl⟩:=wu h;exact⟨j+1,by rw[List.length_cons];omega,by rw[adb,acy 1];rfl⟩
theorem tV{enc:List UInt8->Value}:∀{l:aV} {i j:Nat} (h:j<l.length),(gY enc l i).find? (fun e=>Nat.beq e.born (i+j))=some ⟨bu l[j].1,enc l[j].2,i+j⟩
 |x::l,i,0,_=>by
  unfold gY;rw[List.find?_cons_of_pos (by show Nat.beq i (i+0)=true;exact acb i)];rfl
 |x::l,i,j+1,h=>by
  unfold gY;rw[List.find?_cons_of_neg (by show ¬Nat.beq i (i+(j+1))=true;rw[gz (by omega)];simp)];have:=tV (enc:=enc) (l:=l) (i:=i+1) (j:=j) (by rw[List.length_cons]at h;omega);rw[show i+(j+1)=i+1+j by omega];exact this
structure Pc(es:aV) where
 js:List Nat
 m:List HB
 nd:js.Nodup
 lt:∀j∈js,j<es.length
 hm:m=js.map fun j=>(es[j]?.map (·.1)).getD (bq [])
theorem s4:∀{n:Nat} {l:List Nat},l.Nodup->(∀j∈l,j<n)->l.length<=n
 |0,[],_,_=>Nat.le_refl _
 |0,a::l,_,h=>absurd (h a ab4) (acm _)
 |n+1,l,h,hl=>by
  by_cases hn:n∈l
  ·have h1:=s4 (n:=n) (l:=l.erase n) (h.erase n) fun j hj=>by
    have hjl:=List.mem_of_mem_erase hj;have h2:=hl j hjl;have:j≠n:=fun e=>by subst e;exact(List.Nodup.not_mem_erase h) hj
    omega
   rw[ac1 hn]at h1;omega
  have:=s4 (n:=n) (l:=l) h fun j hj=>by
   have h2:=hl j hj;have:j≠n:=fun e=>by subst e;exact hn hj
   omega
  omega
theorem Ny{es:aV}(y:Pc es)(h:∀j,j<es.length->j∈y.js):y.m.Perm (dA es):=by
 have h1:y.js.Perm (List.range es.length):=(List.perm_ext_iff_of_nodup y.nd List.nodup_range).2 fun j=>⟨fun q=>List.mem_range.2 (y.lt j q),fun q=>h j (List.mem_range.1 q)⟩
 rw[y.hm];have h2:=h1.map fun j=>(es[j]?.map (·.1)).getD (bq [])
 have h3:((List.range es.length).map fun j=>(es[j]?.map (·.1)).getD (bq []))=dA es:=by
  unfold dA;apply acN;intro j;by_cases hj:j<es.length
  ·simp[hj]
  rw[ab9 (by simp;omega),ab9 (by simp;omega)]
 rw[h3]at h2;exact h2
theorem pO{P:Program}{k:Nat}{fr:XF}{W:XW}{L:List (Nat×Option ah)}{n' nl:Nat}{lg:List Nat}{ds:List cq}(hn:W.next<=n')(h:∀m o,lk L m=some o->W.get m=some o):bz P k ⟨fr,W,ds⟩ ⟨fr,wd L n' lg nl,ds⟩:=
 mI (fun t v e=>e) (fun m o e=>h m o (bY e).2) hn rfl
def po:Value:=.func (.func 90) #[] #[.pointer (some ⟨2,0,none⟩)]
def dW:ah:=.cells [.map (some 1)] 65 (0,0)
def ew(es:aV):ah:=.map (jk dh es) es.length
def mn:ah:=.cells [.map (some 1)] 63 (0,0)
def kX(m:List HB):ah:=.cells (cO m) 24 (0,0)
def H4(m:List HB):ah:=.cells [.slice (some ⟨7,0,none⟩) m.length bf] 48 (0,0)
set_option maxHeartbeats 2000000 in
theorem ND(es:aV)(hn:es.length<=1000000)(hne:es≠[]):bg Tryz.prog 112 [.slice none 0 0,po] (wd [(0,some dW),(1,some (ew es)),(2,some mn)] 3 [] 0)
 fun e W'=>∃m:List HB,m.Perm (dA es)/\m.length=es.length/\e=.ret (.slice (some ⟨7,0,none⟩) m.length bf)/\W'.get 0=some dW/\W'.get 1=some (ew es)/\W'.get 7=some (kX m)/\W'.next<=20:=by
 refine cH bi Tryz.func112 rfl (Nat.le_of_ble_eq_true rfl) ?_;simp only[bk.eq_1,bk.eq_2,dk,Tryz.ntmps112,Nat.reduceAdd];refine ai (aG bi (by simp(disch:=first|decide|omega) only[go_sem]<;>with_reducible rfl) ?_);refine ai ?_;refine ai (aG bi (by simp(disch:=first|decide|omega) only[go_sem]<;>with_reducible rfl) ?_);refine aK ?_;refine eR (s':=⟨ao [(2,some (.pointer (some ⟨3,0,none⟩))),(6,some po)],wd [(0,some dW),(1,some (ew es)),(2,some mn),(3,some (.cells [.slice none 0 0] 48 (0,0)))] 4 [] 0,[]⟩) (gk (by simp(disch:=decide) [de,ab,aa,da]) (by simp(disch:=decide) [de,ab,aa,da]) (by decide)) ?_;refine tt (g:=90) (xs:=#[]) (cap:=#[.pointer (some ⟨2,0,none⟩)]) (S:=fun e W2=>∃m:List HB,m.Perm (dA es)/\m.length=es.length/\(∃v,e=.ret v)/\W2.get 0=some dW/\W2.get 1=some (ew es)/\W2.get 3=some (H4 m)/\W2.get 4=some (.defd false)/\W2.get 7=some (kX m)/\8<=W2.next/\W2.next<=20/\∃st tm N2 ps2 asg2 body2 d2,W2.get 5=some (.loop st none tm N2 ps2 asg2 body2 d2)/\nG st=false) ?hv (enters_of (by kernel_rfl)) ?hl ?q
 case hv=>simp(disch:=first|decide|omega) only[po,go_sem]
 case q=>
  intro e W2 ⟨m,h1,h2,⟨v,h3⟩,h4,h5,h6,h7,h8,h9,h10,st,tm,N2,ps2,asg2,body2,d2,h11,h12⟩;refine⟨v,st,tm,N2,ps2,asg2,body2,d2,h3,by simp only[dk];omega,h11,h12,?_⟩;simp only[dk,Nat.reduceAdd];show ar _ _ _ _ _ _;refine eR (s':=⟨ao [(2,some (.pointer (some ⟨3,0,none⟩)))],wd [(0,some dW),(1,some (ew es)),(3,some (H4 m)),(4,some (.defd false)),(7,some (kX m))] 20 [] 0,[.mark 4]⟩) ?_ ?_
  ·refine mI (fun t v e=>?_) (fun n o e=>?_) h10 rfl
   ·have h:=eQ e;show(ao _).get t=some v;by_cases ht:2=t
    ·subst ht;rw[ab]at h;rw[e9 (by decide),ab];exact h
    rw[aa ht]at h;cases h
   obtain⟨g1,g2⟩:=bY e;have hn5:n≠5:=fun q=>by subst q;simp(disch:=decide) [ab,aa,da]at g2
   show(W2.put 5 _).get n=some o;rw[XW.get_put_ne hn5];have hcases:=bK g2;simp only[acd,ab6,or_false,Prod.mk.injEq,Option.some.injEq]at hcases;rcases hcases with⟨rfl,rfl⟩|⟨rfl,rfl⟩|⟨rfl,rfl⟩|⟨rfl,rfl⟩|⟨rfl,rfl⟩<;>assumption
  refine ai (aG bi (by simp(disch:=first|decide|omega) only[H4,go_sem]<;>with_reducible rfl) ?_);refine fQ ?_;refine⟨_,?e4,?W4,rfl,?h4,?q4⟩
  case h4=>simp(disch:=first|decide|omega) only[Tryz.results112,go_sem]<;>with_reducible rfl
  refine⟨m,h1,h2,rfl,?_,?_,?_,?_⟩
  ·simp(disch:=first|decide|omega) only[go_sem]
  ·simp(disch:=first|decide|omega) only[go_sem]
  ·simp(disch:=first|decide|omega) only[go_sem]
  exact Nat.le_refl _
 simp only[dk,gI,List.nil_append,List.cons_append,Nat.reduceAdd];generalize hLP:ah.loop LoopState.ready none _ 13 [7] _ _ 4=LP;have hex:∃st tm N2 ps2 asg2 body2 d2,LP=.loop st none tm N2 ps2 asg2 body2 d2/\nG st=false:=⟨_,_,_,_,_,_,_,hLP.symm,rfl⟩;have hto:∀θ:Nat->Option Nat,θ 2=some 2->θ 3=some 3->θ 4=some 4->TO Tryz.prog (aP θ) LP LP:=fun θ h2 h3 h4=>by
  rw[<-hLP];exact Gy h4 (bR (v:=.pointer (some ⟨3,0,none⟩)) (by decide) (by simp(disch:=first|decide|omega) only[ab,aa]) (bI h3) (bR (v:=po) (by decide) (by simp(disch:=first|decide|omega) only[ab,aa]) (rx (xs:=[]) (xs':=[]) (cs:=[.pointer (some ⟨2,0,none⟩)]) (cs':=[.pointer (some ⟨2,0,none⟩)]) aR (av (bI h2) aR)) di))
 have hpos:0<es.length:=List.length_pos_iff.2 hne;refine cH bi Tryz.func90 rfl (Nat.le_of_ble_eq_true rfl) ?_;simp only[bk.eq_1,bk.eq_2,dk,Tryz.ntmps90,Nat.reduceAdd];refine ai (aG bi (by simp(disch:=first|decide|omega) only[mn,ew,wv.eq_1,z8.eq_1,go_sem]<;>with_reducible rfl) ?_);refine aK ?_;refine eR (s':=⟨ao [(0,some (.func (.yield 5) #[] #[])),(5,some (.pointer (some ⟨6,0,none⟩)))],wd [(0,some dW),(1,some (ew es)),(2,some mn),(3,some (.cells [j5 7 0] 48 (0,0))),(4,some (.defd false)),(5,some LP),(6,some (.iter 1 es.length [] es.length)),(7,fx 24 (cO []) 0)] 8 [] 0,[]⟩) (gk (by simp(disch:=decide) [de,ab,aa,da]) (by simp(disch:=decide) [de,ab,aa,da,j5,fx,mn,ew]) (by decide)) ?_;refine ww (α:=Pc es) (fun y=>⟨ao [(0,some (.func (.yield 5) #[] #[])),(5,some (.pointer (some ⟨6,0,none⟩)))],wd [(0,some dW),(1,some (ew es)),(2,some mn),(3,some (.cells [j5 7 y.m.length] 48 (0,0))),(4,some (.defd false)),(5,some LP),(6,some (.iter 1 es.length y.js es.length)),(7,fx 24 (cO y.m) y.m.length)] 8 [] 0,[]⟩) (fun y=>es.length-y.js.length) ?_ ⟨[],[],adi,fun _ h=>(by cases h),rfl⟩;intro y;obtain⟨js,m,hnd,hlt,hm⟩:=y;simp only;have hml:m.length=js.length:=by rw[hm,ab1]
 have hjl:js.length<=es.length:=s4 hnd hlt;refine ai (cT ?_);refine A1 (x:=.tmp 5) (r:=6) (mp:=1) (since:=es.length) (last:=es.length) (c:=es.length) (seen:=js) (es:=jk dh es) rfl rfl ?hx ?hr ?hm2 ?hc ?hold ?z ?nz
 case hx=>simp(disch:=first|decide|omega) only[go_sem]
 case hr=>simp(disch:=first|decide|omega) only[go_sem]
 case hm2=>simp(disch:=first|decide|omega) only[ew,go_sem]
 case hc=>
  rcases es with _|⟨x,l⟩
  ·exact absurd rfl hne
  have:((jk dh (x::l)).all fun e=>Nat.ble (x::l).length e.born)=false:=by show(Nat.ble (x::l).length 0&&_)=false;rw[BQ (by rw[List.length_cons];omega)];rfl
  rw[this,Bool.and_false]
 case hold=>intro e he;obtain⟨j,hj,rfl⟩:=wu (List.mem_filter.1 he).1;show 0+j<es.length;omega
 case z=>
  intro hz;refine⟨_,dm (by decide),bF bi 1 (s1:=?s1z) ?hz1 (dn ?qz)⟩
  case hz1=>simp(disch:=first|decide|omega) only[go_sem]<;>with_reducible rfl
  show ar _ _ _ _ _ _;refine ai (kO (by simp(disch:=first|decide|omega) only[go_sem]<;>with_reducible rfl) ?_);refine pL ?_;have hall:∀j,j<es.length->j∈js:=fun j hj=>by
   by_cases hjs:j∈js
   ·exact hjs
   exfalso;have hmem:(⟨bu es[j].1,dh es[j].2,0+j⟩:MapEntry)∈jk dh es:=List.mem_of_find?_eq_some (tV (enc:=dh) (i:=0) hj);have:(⟨bu es[j].1,dh es[j].2,0+j⟩:MapEntry)∈(jk dh es).filter (gC js):=List.mem_filter.2 ⟨hmem,by
    show(!(js.any fun n=>Nat.beq n (0+j)))=true;rw[Nat.zero_add,acJ,List.any_eq_false];intro n hn2 hb;exact hjs (by rw[<-abY hb];exact hn2)⟩
   rw[hz]at this;cases this
  have hpm:m.Perm (dA es):=Ny ⟨js,m,hnd,hlt,hm⟩ hall;have hme:m.length=es.length:=by rw[hpm.length_eq];unfold dA;rw[ab1]
  obtain⟨q,hmq⟩:∃q,m.length=q+1:=⟨m.length-1,by omega⟩;have hg1:j5 7 m.length=.slice (some ⟨7,0,none⟩) m.length bf:=by rw[hmq];rfl
  have hg2:fx 24 (cO m) m.length=some (kX m):=by rw[hmq];rfl
  rw[hg1,hg2];refine⟨_,?e7,?W7,rfl,?h7,?q7⟩
  case h7=>simp(disch:=first|decide|omega) only[Tryz.results90,go_sem]<;>with_reducible rfl
  obtain⟨st,tm,N2,ps2,asg2,body2,d2,hx1,hx2⟩:=hex;refine⟨m,hpm,hme,⟨_,rfl⟩,?_,?_,?_,?_,?_,?_,?_,st,tm,N2,ps2,asg2,body2,d2,?_,hx2⟩
  ·simp(disch:=first|decide|omega) only[go_sem]
  ·simp(disch:=first|decide|omega) only[go_sem]
  ·simp(disch:=first|decide|omega) only[H4,go_sem]
  ·simp(disch:=first|decide|omega) only[go_sem]
  ·simp(disch:=first|decide|omega) only[go_sem]
  ·exact Nat.le_refl _
  ·show 8<=20;decide
  rw[<-hx1];simp(disch:=first|decide|omega) only[go_sem]
 intro e he;obtain⟨hmem,hnot⟩:=List.mem_filter.1 he;obtain⟨j,hj,rfl⟩:=wu hmem;have hjn:j∉js:=fun hjs=>by
  have hnot:(!(js.any fun n=>Nat.beq n (0+j)))=true:=hnot;rw[Nat.zero_add,acJ,List.any_eq_false]at hnot;exact hnot j hjs (acb j)
 have hfind:(jk dh es).find? (fun e=>Nat.beq e.born j)=some ⟨.agg (an es[j].1.1).toArray,.string (str es[j].2),j⟩:=by have:=tV (enc:=dh) (i:=0) hj;rw[Nat.zero_add]at this;exact this
 have hm1:m++[es[j].1]=(js++[j]).map fun j=>(es[j]?.map (·.1)).getD (bq []):=by rw[hm,acn];simp[hj]
 obtain⟨x,hx⟩:∃x,x=es[j]:=⟨_,rfl⟩;rw[<-hx]at hfind hm1 ⊢;have hxl:=x.1.2;have hbl:(an x.1.1).length=32:=by rw[bE,hxl]
 have hnd1:(js++[j]).Nodup:=List.nodup_append.2 ⟨hnd,List.nodup_cons.2 ⟨by simp,adi⟩,fun a ha b hb=>by
  simp only[acd,ab6,or_false]at hb;subst hb;exact fun e=>hjn (by rw[<-e];exact ha)⟩
 have hlt1:∀i∈js++[j],i<es.length:=fun i hi=>by
  rcases List.mem_append.1 hi with h|h
  ·exact hlt i h
  simp only[acd,ab6,or_false]at h;subst h;exact hj
 have hgl:(js++[j]).getLast?=some j:=by simp
 have hjl1:(js++[j]).length<=es.length:=s4 hnd1 hlt1;rw[abP]at hjl1;simp only[Nat.zero_add];refine⟨_,dm (by decide),bF bi 1 (s1:=?s1n) ?hz2 (dn ?qn)⟩
 case hz2=>simp(disch:=first|decide|omega) only[go_sem]<;>with_reducible rfl
 show ar _ _ _ _ _ _;refine ai (t7 (by simp(disch:=first|decide|omega) only[go_sem]<;>with_reducible rfl) ?_);refine ap ?_;refine aK ?_;obtain⟨js1,hjs1⟩:∃js1,js1=js++[j]:=⟨_,rfl⟩;rw[<-hjs1]at hgl hnd1 hlt1 hm1 ⊢;refine ai (aG bi (by simp(disch:=first|decide|omega) only[we.eq_1,yL.eq_1,yY.eq_1,EF.eq_1,ew,hgl,hfind,acb,hbl,acu,go_sem]<;>with_reducible rfl) ?_);have hemp:(#[]:Array Value).isEmpty=true:=rfl;refine H7 ⟨ao [(0,some (.func (.yield 5) #[] #[])),(5,some (.pointer (some ⟨6,0,none⟩))),(13,some (.bool false))],wd [(0,some dW),(1,some (ew es)),(2,some mn),(3,some (.cells [.slice (some ⟨11,0,none⟩) (m.length+1) bf] 48 (0,0))),(4,some (.defd false)),(5,some LP),(6,some (.iter 1 es.length js1 es.length)),(11,some (kX (m++[x.1])))] 12 [] 0,[]⟩ ?h3 ?q3
 case h3=>
  rcases m with _|⟨a,m'⟩
  ·have hr1:cO [x.1]=an x.1.1:=Mf.symm;refine ni (e:=?er) (s':=?sr) bi 4 ?hr3 ?qr3
   case hr3=>simp(disch:=first|decide|omega) only[<-hLP,rR,cD,qg,pI,pC,pM,oW,og,lM,tR,nC,hemp,hbl,Og,Sw,j5.eq_1,fx.eq_1,List.length_nil,acu,ach,acA,FH,abT,abR,acb,ac0,acH,AI,pN,rG,s6,ade,m4,zJ,go_sem]<;>with_reducible rfl
   refine⟨rfl,gk (by simp(disch:=decide) [de,ab,aa,da]) (by simp(disch:=decide) [de,ab,aa,da,<-hLP,ew,kX,hr1];try rfl) (by decide)⟩
  obtain⟨m,hmm⟩:∃m,m=a::m':=⟨_,rfl⟩;have hg1:j5 7 (a::m').length=.slice (some ⟨7,0,none⟩) m.length bf:=by rw[hmm];rfl
  have hg2:fx 24 (cO (a::m')) (a::m').length=some (.cells (cO m) 24 (0,0)):=by rw[hmm];rfl
  rw[hg1,hg2,<-hmm];rw[<-hmm]at hml;have hrl:=iw m;have hrt:(cO m).take (m.length*32)=cO m:=List.take_of_length_le (by rw[hrl];exact Nat.le_refl _);have hro:(cO m++an x.1.1)=cO (m++[x.1]):=In;refine ni (e:=?eq) (s':=?sq) bi 4 ?hq3 ?qq3
  case hq3=>simp(disch:=first|decide|omega) only[<-hLP,rR,cD,qg,pI,pC,pM,oW,og,lM,tR,nC,hemp,hbl,hrl,hrt,hro,acu,ach,acA,FH,abT,abR,acb,ac0,acH,AI,pN,rG,s6,ade,m4,zJ,go_sem]<;>with_reducible rfl
  refine⟨rfl,gk (by simp(disch:=decide) [de,ab,aa,da]) (by simp(disch:=decide) [de,ab,aa,da,<-hLP,ew,kX];try rfl) (by decide)⟩
 refine kO (by simp(disch:=first|decide|omega) only[go_sem]<;>with_reducible rfl) ?_;refine ap ?_;refine⟨⟨js1,m++[x.1],hnd1,hlt1,hm1⟩,?_,?_⟩
 ·show es.length-js1.length<es.length-js.length;rw[hjs1,abP];simp only[List.length_cons,List.length_nil]at hjl1 ⊢;omega
 simp only[abP,List.length_cons,List.length_nil,Nat.zero_add,j5.eq_2,fx.eq_2];exact fI [(0,some 0),(1,some 1),(2,some 2),(3,some 3),(4,some 4),(5,some 5),(6,some 6),(11,some 7)] [(0,some 0),(1,some 1),(2,some 2),(3,some 3),(4,some 4),(5,some 5),(6,some 6),(7,some 11)] (by decide) (by decide) (by decide)
  (bR (v:=.func (.yield 5) #[] #[]) (by decide) (by simp(disch:=first|decide|omega) only[ab,aa]) (Cd (by simp(disch:=first|decide|omega) only[ab,aa])) (bR (v:=.pointer (some ⟨6,0,none⟩)) (by decide) (by simp(disch:=first|decide|omega) only[ab,aa]) (bI (by simp(disch:=first|decide|omega) only[ab,aa])) di))
  (aN (o:=dW) 0 (by simp(disch:=first|decide|omega) only[ab,aa]) (by decide) (by decide) (by simp(disch:=first|decide|omega) only[ab,aa]) (cm (av (cI (by simp(disch:=first|decide|omega) only[ab,aa])) aR))
  (aN (o:=ew es) 1 (by simp(disch:=first|decide|omega) only[ab,aa]) (by decide) (by decide) (by simp(disch:=first|decide|omega) only[ab,aa]) (aT aj (gh fJ _ _))
  (aN (o:=mn) 2 (by simp(disch:=first|decide|omega) only[ab,aa]) (by decide) (by decide) (by simp(disch:=first|decide|omega) only[ab,aa]) (cm (av (cI (by simp(disch:=first|decide|omega) only[ab,aa])) aR))
  (aN (o:=.cells [.slice (some ⟨11,0,none⟩) (m.length+1) bf] 48 (0,0)) 3 (by simp(disch:=first|decide|omega) only[ab,aa]) (by decide) (by decide) (by simp(disch:=first|decide|omega) only[ab,aa]) (cm (av (cC (by simp(disch:=first|decide|omega) only[ab,aa])) aR))
  (aN (o:=.defd false) 4 (by simp(disch:=first|decide|omega) only[ab,aa]) (by decide) (by decide) (by simp(disch:=first|decide|omega) only[ab,aa]) Gi
  (aN (o:=LP) 5 (by simp(disch:=first|decide|omega) only[ab,aa]) (by decide) (by decide) (by simp(disch:=first|decide|omega) only[ab,aa]) (hto _ (by simp(disch:=first|decide|omega) only[ab,aa]) (by simp(disch:=first|decide|omega) only[ab,aa]) (by simp(disch:=first|decide|omega) only[ab,aa]))
  (aN (o:=.iter 1 es.length js1 es.length) 6 (by simp(disch:=first|decide|omega) only[ab,aa]) (by decide) (by decide) (by simp(disch:=first|decide|omega) only[ab,aa]) (jf (by simp(disch:=first|decide|omega) only[ab,aa]))
  (aN (o:=kX (m++[x.1])) 11 (by simp(disch:=first|decide|omega) only[ab,aa]) (by decide) (by decide) (by simp(disch:=first|decide|omega) only[ab,aa]) (aT aj (aB (vA _))) dP)))))))) .nil
theorem J9(es:aV):bg Tryz.prog 50 [.map (some 1)] (wd [(0,some dW),(1,some (ew es))] 2 [] 0)
 fun e W'=>e=.ret po/\W'.get 0=some dW/\W'.get 1=some (ew es)/\W'.get 2=some mn/\W'.next<=3:=by
 refine cH bi Tryz.func50 rfl (Nat.le_of_ble_eq_true rfl) ?_;simp only[bk.eq_1,bk.eq_2,dk,Tryz.ntmps50,Nat.reduceAdd];refine ai (aG bi (by simp(disch:=first|decide|omega) only[go_sem]<;>with_reducible rfl) ?_);refine ai (aG bi (by simp(disch:=first|decide|omega) only[go_sem]<;>with_reducible rfl) ?_);refine fQ ?_;refine⟨_,?e3,?W3,rfl,?h3,?q3⟩
 case h3=>simp(disch:=first|decide|omega) only[Tryz.results50,go_sem]<;>with_reducible rfl
 refine⟨rfl,?_,?_,?_,?_⟩
 ·simp(disch:=first|decide|omega) only[go_sem]
 ·simp(disch:=first|decide|omega) only[go_sem]
 ·simp(disch:=first|decide|omega) only[mn,go_sem]
 exact Nat.le_refl _
def Oy(es:aV)(e:aW)(W':XW):Prop:=∃m:List HB,m.Perm (dA es)/\m.length=es.length/\e=.ret (.slice (some ⟨7,0,none⟩) m.length bf)/\W'.get 0=some dW/\W'.get 1=some (ew es)/\W'.get 7=some (kX m)/\W'.next<=20
theorem CF(es:aV)(hn:es.length<=1000000)(hne:es≠[]):bg Tryz.prog 88 [po] (wd [(0,some dW),(1,some (ew es)),(2,some mn)] 3 [] 0) (Oy es):=by
 refine cH bi Tryz.func88 rfl (Nat.le_of_ble_eq_true rfl) ?_;simp only[bk.eq_1,bk.eq_2,dk,Tryz.ntmps88,Nat.reduceAdd];refine ai (aG bi (by simp(disch:=first|decide|omega) only[go_sem]<;>with_reducible rfl) ?_);refine ai (cT ?_);refine bF bi 1 (s1:=?s1) ?h1 (fD (f:=112) (args:=[.slice none 0 0,po]) (S:=Oy es) (enters_of (by kernel_rfl)) rfl ?hx ?hl ?q)
 case h1=>simp(disch:=first|decide|omega) only[go_sem]<;>with_reducible rfl
 case hx=>simp(disch:=first|decide|omega) only[po,go_sem]
 case hl=>exact ND es hn hne
 intro e W' ⟨m,h1,h2,h3,h4,h5,h6,h7⟩;refine⟨_,_,h3,dm (by decide),?_⟩;refine jh (pO (L:=[(0,some dW),(1,some (ew es)),(7,some (kX m))]) (n':=20) (lg:=[]) (nl:=0) h7 fun n o e=>?_) ?_
 ·have hcases:=bK e;simp only[acd,ab6,or_false,Prod.mk.injEq,Option.some.injEq]at hcases;rcases hcases with⟨rfl,rfl⟩|⟨rfl,rfl⟩|⟨rfl,rfl⟩<;>assumption
 refine bF bi 1 (s1:=?s2) ?h2 (dn ?q2)
 case h2=>simp(disch:=first|decide|omega) only[go_sem]<;>with_reducible rfl
 refine fQ ?_;refine⟨_,?e5,?W5,rfl,?h5,?q5⟩
 case h5=>simp(disch:=first|decide|omega) only[Tryz.results88,go_sem]<;>with_reducible rfl
 refine⟨m,h1,h2,rfl,?_,?_,?_,?_⟩
 ·simp(disch:=first|decide|omega) only[go_sem]
 ·simp(disch:=first|decide|omega) only[go_sem]
 ·simp(disch:=first|decide|omega) only[go_sem]
 exact Nat.le_refl _
end Go.Proofs.YthlkgmdkabelpaaGreat.X
namespace Go.Proofs
open Go.Shelf
def Tryz.lays106_ren:Go.Shelf.Ren:=⟨fun|106=>52|213=>91|265=>114|n=>n,fun|9=>9|3=>3|n=>n,fun|n=>n⟩
theorem Tryz.lays106:Go.Proofs.Lays.n106 Tryz.prog Tryz.lays106_ren:={
 mixed:=by kernel_rfl
 f106:=Tryz.func52.trans (congrArg some (by kernel_rfl))
 f213:=Tryz.func91.trans (congrArg some (by kernel_rfl))
 f265:=Tryz.func114.trans (congrArg some (by kernel_rfl))
 t3:=Tryz.underlying3
 a3:=Tryz.isAgg3
 z3:=Tryz.sizeOf3
 v3:=Tryz.zeroValue3
 t9:=Tryz.underlying9
 a9:=Tryz.isAgg9
 z9:=Tryz.sizeOf9
 v9:=Tryz.zeroValue9 }
def Tryz.sortHash_ren:Go.Shelf.Ren:=⟨fun|6=>89|15=>109|14=>113|28=>129|29=>130|20=>131|21=>132|22=>133|23=>134|24=>135|25=>136|26=>137|27=>138|46=>148|47=>144|48=>145|49=>149|50=>150|57=>154|n=>n,fun|22=>48|24=>24|25=>116|3=>3|39=>123|0=>0|53=>117|55=>121|4=>4|46=>201|45=>200|50=>132|5=>5|9=>9|66=>218|70=>222|76=>226|77=>227|n=>n,fun|n=>n⟩
theorem Tryz.sortHash:Go.Proofs.SlLaysF0.n6 Tryz.prog Tryz.sortHash_ren:={
 mixed:=by kernel_rfl
 f6:=⟨Tryz.f89.name,by decide,Tryz.func89.trans (congrArg some (by kernel_rfl))⟩
 f14:=⟨Tryz.f113.name,by decide,Tryz.func113.trans (congrArg some (by kernel_rfl))⟩
 f15:=Tryz.func109.trans (congrArg some (by kernel_rfl))
 f20:=⟨Tryz.f131.name,by decide,Tryz.func131.trans (congrArg some (by kernel_rfl))⟩
 f21:=⟨Tryz.f132.name,by decide,Tryz.func132.trans (congrArg some (by kernel_rfl))⟩
 f22:=⟨Tryz.f133.name,by decide,Tryz.func133.trans (congrArg some (by kernel_rfl))⟩
 f23:=⟨Tryz.f134.name,by decide,Tryz.func134.trans (congrArg some (by kernel_rfl))⟩
 f24:=⟨Tryz.f135.name,by decide,Tryz.func135.trans (congrArg some (by kernel_rfl))⟩
 f25:=⟨Tryz.f136.name,by decide,Tryz.func136.trans (congrArg some (by kernel_rfl))⟩
 f26:=⟨Tryz.f137.name,by decide,Tryz.func137.trans (congrArg some (by kernel_rfl))⟩
 f27:=⟨Tryz.f138.name,by decide,Tryz.func138.trans (congrArg some (by kernel_rfl))⟩
 f28:=Tryz.func129.trans (congrArg some (by kernel_rfl))
 f29:=Tryz.func130.trans (congrArg some (by kernel_rfl))
 f46:=⟨Tryz.f148.name,by decide,Tryz.func148.trans (congrArg some (by kernel_rfl))⟩
 f47:=Tryz.func144.trans (congrArg some (by kernel_rfl))
 f48:=Tryz.func145.trans (congrArg some (by kernel_rfl))
 f49:=⟨Tryz.f149.name,by decide,Tryz.func149.trans (congrArg some (by kernel_rfl))⟩
 f50:=⟨Tryz.f150.name,by decide,Tryz.func150.trans (congrArg some (by kernel_rfl))⟩
 f57:=⟨Tryz.f154.name,by decide,Tryz.func154.trans (congrArg some (by kernel_rfl))⟩
 t0:=Tryz.underlying0
 a0:=Tryz.isAgg0
 z0:=Tryz.sizeOf0
 v0:=Tryz.zeroValue0
 t3:=Tryz.underlying3
 a3:=Tryz.isAgg3
 z3:=Tryz.sizeOf3
 v3:=Tryz.zeroValue3
 t4:=Tryz.underlying4
 a4:=Tryz.isAgg4
 z4:=Tryz.sizeOf4
 v4:=Tryz.zeroValue4
 t5:=Tryz.underlying5
 a5:=Tryz.isAgg5
 z5:=Tryz.sizeOf5
 v5:=Tryz.zeroValue5
 t9:=Tryz.underlying9
 a9:=Tryz.isAgg9
 z9:=Tryz.sizeOf9
 v9:=Tryz.zeroValue9
 t22:=Tryz.underlying48
 a22:=Tryz.isAgg48
 z22:=Tryz.sizeOf48
 v22:=Tryz.zeroValue48
 t25:=Tryz.underlying116
 a25:=Tryz.isAgg116
 z25:=Tryz.sizeOf116
 v25:=Tryz.zeroValue116
 t39:=Tryz.underlying123
 a39:=Tryz.isAgg123
 z39:=Tryz.sizeOf123
 v39:=Tryz.zeroValue123
 t45:=Tryz.underlying200
 a45:=Tryz.isAgg200
 z45:=Tryz.sizeOf200
 v45:=Tryz.zeroValue200
 t46:=Tryz.underlying201
 a46:=Tryz.isAgg201
 z46:=Tryz.sizeOf201
 v46:=Tryz.zeroValue201
 t50:=Tryz.underlying132
 a50:=Tryz.isAgg132
 z50:=Tryz.sizeOf132
 v50:=Tryz.zeroValue132
 t53:=Tryz.underlying117
 a53:=Tryz.isAgg117
 z53:=Tryz.sizeOf117
 v53:=Tryz.zeroValue117
 t55:=Tryz.underlying121
 a55:=Tryz.isAgg121
 z55:=Tryz.sizeOf121
 v55:=Tryz.zeroValue121
 t66:=Tryz.underlying218
 a66:=Tryz.isAgg218
 z66:=Tryz.sizeOf218
 v66:=Tryz.zeroValue218
 t70:=Tryz.underlying222
 a70:=Tryz.isAgg222
 z70:=Tryz.sizeOf222
 v70:=Tryz.zeroValue222
 t76:=Tryz.underlying226
 a76:=Tryz.isAgg226
 z76:=Tryz.sizeOf226
 v76:=Tryz.zeroValue226
 t77:=Tryz.underlying227
 a77:=Tryz.isAgg227
 z77:=Tryz.sizeOf227
 v77:=Tryz.zeroValue227 }
end Go.Proofs
namespace Go.Proofs.YthlkgmdkabelpaaGreat.X
open Go Go.RowKit Go.Shelf Go.Sort Go.Lib
def Ba(x y:HB):Int:=Lib.compareBytes x.1 y.1
set_option maxRecDepth 100000 in
set_option maxHeartbeats 1000000 in
theorem Ia(x y:HB)(W:World):Calls Tryz.prog 51 #[.agg (an x.1).toArray,.agg (an y.1).toArray] W fun e w'=>e=.returned (.int .i64 (Ba x y))/\∃q os',w'=Sort.grow (W.drewN q) os':=by
 have hS:∀W',Calls Tryz.prog 52 #[.string (str x.1),.string (str y.1)] W' fun e w'=>e=.returned (.int .i64 (Ba x y))/\w'=W':=fun W'=>Any.strings_Compare Tryz.lays106 (str x.1) (str y.1) W'
 have z1:((W.alloc (Obj.cells (an x.1).toArray 24)).alloc (Obj.cells (an y.1).toArray 24)).heap[W.heap.size]?=some (.cells (an x.1).toArray 24 (0,0)):=eE;have z2:((W.alloc (Obj.cells (an x.1).toArray 24)).alloc (Obj.cells (an y.1).toArray 24)).heap[W.heap.size+1]?=some (.cells (an y.1).toArray 24 (0,0)):=dV;obtain⟨w1,hw1⟩:∃w1,w1=(W.alloc (Obj.cells (an x.1).toArray 24)).alloc (Obj.cells (an y.1).toArray 24):=⟨_,rfl⟩;rw[<-hw1]at z1 z2;have hg:∀q os,∃os',Sort.grow (w1.drewN q) os=Sort.grow (W.drewN q) os':=fun q os=>⟨_,by rw[hw1,alloc_eq_grow,alloc_eq_grow,Sort.grow_grow];show Sort.grow (Sort.grow (W.drewN q) _) os=_;rw[Sort.grow_grow]⟩
 have cvt:∀(b:Nat) (h:HB),w1.heap[b]?=some (.cells (an h.1).toArray 24 (0,0))->∀n os,(convert 80 9 (.slice (some ⟨b,0,none⟩) 32 32)).run Tryz.prog (Sort.grow (w1.drewN n) os)=.ok (.string (str h.1)) (Sort.grow (w1.drewN n) os):=by intro b h hb n os;refine n8 _ 80 9 5 _ 32 32 h.1 Tryz.underlying80 Tryz.underlying5 Tryz.underlying9 h.2.symm (fun _=>⟨_,rfl,fun j hj=>?_⟩);rw[bX,Nat.zero_add];have hlt:b<w1.heap.size:=(Array.getElem?_eq_some_iff.1 hb).1;rw[cell?_grow _ _ _ (by exact hlt)];show w1.cell? _=_;rw[bm hb,<-acr];simp[an,hj]
 have c1:=cvt _ _ z1;have c2:=cvt _ _ z2;obtain⟨r,hr⟩:∃r,r=Ba x y:=⟨_,rfl⟩;rw[<-hr]at hS ⊢;obtain⟨sx,hsx⟩:∃s,s=str x.1:=⟨_,rfl⟩;obtain⟨sy,hsy⟩:∃s,s=str y.1:=⟨_,rfl⟩;rw[<-hsx]at hS c1;rw[<-hsy]at hS c2;obtain⟨RA,hRA⟩:∃R,R=an x.1:=⟨_,rfl⟩;obtain⟨RB,hRB⟩:∃R,R=an y.1:=⟨_,rfl⟩;rw[<-hRA,<-hRB]at hw1;rw[<-hRA,<-hRB];have HW1:=Lib.hid hw1;have HG:=Lib.hid hg;have hund:=Tryz.underlying24;clear hw1 z1 z2 hg cvt hr hsx hsy hRA hRB
 go_enter Tryz.func51,Tryz.ntmps51
 go_wp2_with fail
 rw[<-HW1.out];have hmx:=mixed
 go_quiet_grown ((go_at_call 52;exact Calls.grown_of ((hS _).mono fun _ _ h=>⟨h.1,0,#[],by rw[h.2,Sort.grow_empty];rfl⟩)))
 go_wp2_with fail
 go_ret
 obtain⟨os',ho⟩:=HG.out nq osq;exact⟨rfl,nq,os',ho⟩
instance inhHB:Inhabited HB:=⟨⟨List.replicate 32 0,rfl⟩⟩
theorem DL:∀{a b:List UInt8},a.length=b.length->(Lib.compareBytes a b<0↔dU a b=true)
 |[],[],_=>by simp[Lib.compareBytes,dU]
 |[],_::_,h=>by simp at h
 |_::_,[],h=>by simp at h
 |x::l,y::m,h=>by
  have ih:=DL (a:=l) (b:=m) (by simpa using h);unfold Lib.compareBytes dU;by_cases h1:x.toNat<y.toNat
  ·rw[if_pos (show x<y from h1),if_pos h1];simp
  rw[if_neg (show ¬x<y from h1),if_neg h1];by_cases h2:y.toNat<x.toNat
  ·rw[if_pos (show y<x from h2),if_pos h2];simp
  rw[if_neg (show ¬y<x from h2),if_neg h2];exact ih
theorem Tj(x y:HB):ltOf Ba x y=cM x y:=by
 unfold ltOf Ba cM;have:=DL (a:=x.1) (b:=y.1) (by rw[x.2,y.2]);cases h:dU x.1 y.1<;>simp[h]at this ⊢<;>exact this
theorem xI:∀l:List UInt8,dU l l=false
 |[]=>rfl
 |x::l=>by rw[Cu _ _ _ _ rfl];exact xI l
theorem qI:∀{a b c:List UInt8},dU a b=true->dU b c=true->dU a c=true
 |[],_,_,h,_=>by simp[dU]at h
 |_::_,[],_,h,_=>by simp[dU]at h
 |_::_,_::_,[],_,h=>by simp[dU]at h
 |x::l,y::m,z::n,h1,h2=>by
  unfold dU at h1 h2 ⊢;by_cases a1:x.toNat<y.toNat
  ·by_cases b1:y.toNat<z.toNat
   ·rw[if_pos (by omega)]
   rw[if_neg b1]at h2;by_cases b2:z.toNat<y.toNat
   ·rw[if_pos b2]at h2;cases h2
   rw[if_pos (by omega)]
  rw[if_neg a1]at h1;by_cases a2:y.toNat<x.toNat
  ·rw[if_pos a2]at h1;cases h1
  rw[if_neg a2]at h1;by_cases b1:y.toNat<z.toNat
  ·rw[if_pos (by omega)]
  rw[if_neg b1]at h2;by_cases b2:z.toNat<y.toNat
  ·rw[if_pos b2]at h2;cases h2
  rw[if_neg b2]at h2;rw[if_neg (by omega),if_neg (by omega)];exact qI h1 h2
theorem vB:∀{a b:List UInt8},a.length=b.length->dU a b=false->dU b a=false->a=b
 |[],[],_,_,_=>rfl
 |[],_::_,h,_,_=>by simp at h
 |_::_,[],h,_,_=>by simp at h
 |x::l,y::m,h,h1,h2=>by
  unfold dU at h1 h2;by_cases a1:x.toNat<y.toNat
  ·rw[if_pos a1]at h1;cases h1
  by_cases a2:y.toNat<x.toNat
  ·rw[if_pos a2]at h2;cases h2
  rw[if_neg a1,if_neg a2]at h1;rw[if_neg a2,if_neg a1]at h2;rw[vB (by simpa using h) h1 h2,show x=y from UInt8.toNat_inj.1 (by omega)]
theorem nj{x y:HB}(h1:cM x y=false)(h2:cM y x=false):x=y:=Subtype.ext (vB (by rw[x.2,y.2]) h1 h2)
theorem iE:SWO cM where
 irrefl x:=xI x.1
 trans x y z h1 h2:=qI h1 h2
 ntrans x y z h1 h2:=by
  cases h:cM x z with
  |false=>rfl
  |true=>
   cases h3:cM y x with
   |true=>rw[show cM y z=true from qI h3 h]at h2;cases h2
   |false=>rw[nj h1 h3]at h;rw[h]at h2;cases h2
theorem BY:ltOf Ba=cM:=funext fun x=>funext fun y=>Tj x y
theorem Ww:SWO (ltOf Ba):=by rw[BY];exact iE
def dD(m:List HB):List HB:=m.mergeSort fun x y=>!(cM y x)
theorem sP(m:List HB):(dD m).Perm m:=List.mergeSort_perm _ _
theorem uy(m:List HB):(dD m).length=m.length:=(sP m).length_eq
theorem ud(m:List HB):(dD m).Pairwise fun x y=>(!(cM y x))=true:=
 List.pairwise_mergeSort (le:=fun x y=>!(cM y x)) (fun a b c h1 h2=>by
  simp only[acJ]at h1 h2 ⊢;exact iE.ntrans _ _ _ h2 h1) (fun a b=>by
  cases h:cM b a with
  |false=>simp
  |true=>
   cases h2:cM a b with
   |false=>simp
   |true=>have:=iE.trans _ _ _ h h2;rw[iE.irrefl]at this;cases this) m
theorem xX{a b:List HB}(hp:a.Perm b)(hs:a.Pairwise fun x y=>(!(cM y x))=true):a=dD b:=
 List.Perm.eq_of_pairwise (le:=fun x y=>(!(cM y x))=true) (fun x y _ _ h1 h2=>by
  simp only[acJ]at h1 h2;exact nj h2 h1) hs (ud b) (hp.trans (sP b).symm)
theorem Fc{a b:List HB}(hp:a.Perm b):dD a=dD b:=xX ((sP a).trans hp) (ud a)
def qG(h:HB):List Value:=an h.1
theorem AN(m:List HB):flatK qG 32 m.toArray=(cO m).toArray:=by
 refine ext_get! (by rw[size_flatK,List.size_toArray,List.size_toArray,iw]) fun t ht=>?_
 rw[size_flatK,List.size_toArray]at ht;rw[get_flatK _ _ _ _ (by rw[List.size_toArray];exact ht)];have hi:t/32<m.length:=by omega
 have h1:=NS hi;have hl:=iw m;have hr:(cO m)[t]?=(an m[t/32].1)[t%32]?:=by rw[<-h1,acw,if_pos (by omega),acC];congr 1;omega
 rw[show(m.toArray[t/32]!)=m[t/32] by simp[hi]];unfold qG;rw[List.getElem!_eq_getElem?_getD,<-hr];simp[Array.getElem!_eq_getD,Array.getD,show t<(cO m).length by omega]
theorem Ig(m:List HB):∀v∈cO m,aX 7 v=true:=fun v hv=>by
 unfold cO at hv;obtain⟨h,_,hh⟩:=List.mem_flatMap.1 hv;exact List.all_eq_true.1 (wB h.1) v hh
theorem EY{enc:HB->List Value}{k:Nat}{w:World}{dw off n:Nat}{d:Array HB}{os:Array Obj}:ak (fun b=>b=dw) w (sortWorldK enc k w dw off n d os):=
 ⟨rfl,rfl,rfl,by
  show w.heap.size<=((w.heap.modify dw _)++os).size;simp,fun j hj hb=>by
  show((w.heap.modify dw _)++os)[j]?=_;rw[adj,if_pos (by simpa using hj),acK,if_neg (fun e=>hb e.symm)]⟩
theorem Fd{enc:HB->List Value}{k:Nat}{w:World}{dw off n:Nat}{d:Array HB}{os:Array Obj}{c:Array Value}{e:TypeId}{fr:Nat×Nat}(h:w.heap[dw]?=some (.cells c e fr)) :
 (sortWorldK enc k w dw off n d os).heap[dw]?=some (.cells (putCells id off (flatK enc k d) c) e fr):=by
 show((w.heap.modify dw (onCells (putCells id off (flatK enc k d))))++os)[dw]?=_;have hlt:dw<w.heap.size:=(Array.getElem?_eq_some_iff.1 h).1;rw[adj,if_pos (by simpa using hlt),acK,if_pos rfl,h];rfl
def lD(P:Program)(f g:FuncId):Prop:=∀(dw off cap:Nat) (d:Array HB) (w:World),HoldsK qG 32 w dw off d->dw<w.heap.size->d.size<4611686018427387904 ->
 Calls P f #[.slice (some ⟨dw,off,none⟩) d.size cap,.func (.func g) #[] #[]] w fun e w'=>e=.returned (.tuple #[])/\∃n os,w'=sortWorldK qG 32 w dw off n (dD d.toList).toArray os
theorem LF{P:Program}{f g:FuncId}(hS:lD P f g){W:XW}{n:Nat}{m:List HB}{T:TypeId}(hm:m≠[])(hml:m.length<4611686018427387904)(hg:W.get n=some (.cells (cO m) T (0,0))) :
 bg P f [.slice (some ⟨n,0,none⟩) m.length bf,.func (.func g) #[] #[]] W fun e W'=>e=.ret (.tuple #[])/\W'=W.put n (some (.cells (cO (dD m)) T (0,0))):=by
 intro ρ args' w mm hfr hH hA;have hml0:0<m.length:=List.length_pos_iff.2 hm;cases hA with
 |cons _ x _ l' h1 h2=>
 cases h2 with
 |cons _ y _ l'' h3 h4=>
 cases h4;have hy:y=.func (.func g) #[] #[]:=h3.of_flat 1 rfl;subst hy;obtain⟨i,cap',hi,hx⟩:∃i cap',ρ n=some i/\x=.slice (some ⟨i.b,0+i.s,none⟩) m.length cap':=by
  generalize hs:Value.slice (some ⟨n,0,none⟩) m.length bf=s at h1;cases h1 with
  |flat k v h=>subst hs;cases k<;>simp[aX]at h
  |slice n o len cap i h hc=>cases hs;cases hc
  |sliceO n o len cap cap' i h hc hl hr hz=>cases hs;exact⟨i,cap',h,rfl⟩
  |sliceE n o cap a i h hc hr=>simp only[Value.slice.injEq]at hs;omega
  |sliceN n o=>simp only[Value.slice.injEq]at hs;omega
  |sliceZ n o a i h=>simp only[Value.slice.injEq]at hs;omega
  |frz cs cs' len b off cap c' e fr hB hl hc h=>exact absurd hs (by simp[FZ])
  |frzE a cap=>exact absurd hs (by simp[FZ])
  |_=>cases hs
 subst hx;obtain⟨ob,hob,hor⟩:=hH.obj n i _ hi hg;cases hor with
 |cells _ _ _ c' fr' hz hr hk hl hv hf hq hmz=>
 have hrl:=iw m;have hlen:(cO m).length=i.r:=hr;have hflat:∀(l:List HB) (j:Nat) (v:Value),(cO l)[j]?=some v->aX 7 v=true:=fun l j v e=>Ig l v (acq e)
 have hold:HoldsK qG 32 w i.b (0+i.s) m.toArray:=fun j hj=>by
  rw[size_flatK,List.size_toArray]at hj;have hjl:j<(cO m).length:=by omega
  obtain⟨v',q1,q2⟩:=hv j _ (abS hjl);have q3:=q2.of_flat 7 (hflat m j _ (abS hjl));subst q3;refine⟨?_,?_⟩
  ·rw[bm hob,AN,Nat.zero_add,q1];simp[Array.getElem!_eq_getD,Array.getD,hjl]
  cases hfz:w.frozen? ⟨i.b,0+i.s+j,none⟩with
  |false=>rfl
  |true=>
   exfalso;unfold World.frozen? at hfz;rw[hob]at hfz;simp only[abZ,decide_eq_true_eq,Nat.zero_add]at hfz;have:=hf j (by omega) hfz.1 hfz.2;exact absurd this.2 (by simp)
 have hc:=hS i.b (0+i.s) cap' m.toArray w hold (Array.getElem?_eq_some_iff.1 hob).1 (by rw[List.size_toArray];exact hml);rw[List.size_toArray]at hc;refine CallsIn.mono (callsIn_wide.2 hc) fun en w' ⟨he,nn,os,hw⟩=>?_
 subst he;subst hw;rw[show m.toArray.toList=m by simp];have hb':=Fd (enc:=qG) (k:=32) (off:=0+i.s) (n:=nn) (d:=(dD m).toArray) (os:=os) hob;have hsl:=iw (dD m);rw[uy]at hsl;have hor':OR P ρ i (.cells (cO (dD m)) T (0,0)) (.cells (putCells id (0+i.s) (flatK qG 32 (dD m).toArray) c') T fr'):=by
  refine .cells _ _ _ _ _ (by simpa[putCells]using hz) (by omega) hk hl (fun j v e=>?_) hf hq hmz;have hjl:j<(cO (dD m)).length:=(List.getElem?_eq_some_iff.1 e).1;refine⟨v,?_,.flat 7 v (hflat _ j v e)⟩;rw[AN];have hlt:i.s+j<c'.size:=by omega
  have hget:(cO (dD m))[j]=v:=(List.getElem?_eq_some_iff.1 e).2;unfold putCells;rw[Array.getElem?_mapIdx,acl hlt,ach,if_pos ⟨by omega,by rw[List.size_toArray];omega⟩,show i.s+j-(0+i.s)=j by omega];simp[Array.getElem!_eq_getD,Array.getD,hjl,hget]
 have hp:=hH.put hi (by rw[hg];simp) _ (EY (enc:=qG) (k:=32) (off:=0+i.s) (n:=nn) (d:=(dD m).toArray) (os:=os)) hb' hor';exact⟨_,_,⟨rfl,rfl⟩,ρ,hp.2,hp.1,.flat 1 _ rfl⟩
def FJ:Value:=.func (.func 51) #[] #[]
def Wd(es:aV)(e:aW)(W':XW):Prop:=e=.ret (.slice (some ⟨7,0,none⟩) es.length bf)/\W'.get 0=some dW/\W'.get 1=some (ew es)/\W'.get 7=some (kX (dD (dA es)))/\W'.next<=20
theorem Fv(hS:lD Tryz.prog 89 51)(es:aV)(hn:es.length<=1000000)(hne:es≠[]) :
 bg Tryz.prog 49 [po,FJ] (wd [(0,some dW),(1,some (ew es)),(2,some mn)] 3 [] 0) (Wd es):=by
 refine cH bi Tryz.func49 rfl (Nat.le_of_ble_eq_true rfl) ?_;simp only[bk.eq_1,bk.eq_2,dk,Tryz.ntmps49,Nat.reduceAdd];refine ai (aG bi (by simp(disch:=first|decide|omega) only[go_sem]<;>with_reducible rfl) ?_);refine ai (cT ?_);refine bF bi 1 (s1:=?sA) ?hA (fD (f:=88) (args:=[po]) (S:=Oy es) (enters_of (by kernel_rfl)) rfl ?hxA ?hlA ?qA)
 case hA=>simp(disch:=first|decide|omega) only[go_sem]<;>with_reducible rfl
 case hxA=>simp(disch:=first|decide|omega) only[po,FJ,go_sem]
 case hlA=>exact CF es hn hne
 intro e W' ⟨m,h1,h2,h3,h4,h5,h6,h7⟩;refine⟨_,_,h3,dm (by decide),?_⟩;refine jh (pO (L:=[(0,some dW),(1,some (ew es)),(7,some (kX m))]) (n':=20) (lg:=[]) (nl:=0) h7 fun n o e=>?_) ?_
 ·have hcases:=bK e;simp only[acd,ab6,or_false,Prod.mk.injEq,Option.some.injEq]at hcases;rcases hcases with⟨rfl,rfl⟩|⟨rfl,rfl⟩|⟨rfl,rfl⟩<;>assumption
 have hm0:m≠[]:=fun e=>by rw[e]at h2;exact hne (List.length_eq_zero_iff.1 h2.symm)
 have hmk:dD m=dD (dA es):=Fc h1;refine bF bi 1 (s1:=?sB) ?hB (dn ?qB)
 case hB=>simp(disch:=first|decide|omega) only[go_sem]<;>with_reducible rfl
 refine ai (cT ?_);refine bF bi 1 (s1:=?sC) ?hC ?qC
 case hC=>simp(disch:=first|decide|omega) only[go_sem]<;>with_reducible rfl
 refine bF bi 1 (s1:=?sD) ?hD (fD (f:=89) (args:=[.slice (some ⟨7,0,none⟩) m.length bf,FJ])
  (S:=fun e W'=>e=.ret (.tuple #[])/\W'=(wd [(0,some dW),(1,some (ew es)),(7,some (kX m))] 20 [] 0).put 7 (some (.cells (cO (dD m)) 24 (0,0)))) (enters_of (by kernel_rfl)) rfl ?hxD ?hlD ?qD)
 case hD=>simp(disch:=first|decide|omega) only[go_sem]<;>with_reducible rfl
 case hxD=>simp(disch:=first|decide|omega) only[po,FJ,go_sem]
 case hlD=>exact LF hS hm0 (by omega) rfl
 intro e W' ⟨he,hw⟩;subst hw;refine⟨_,_,he,dm (by decide),?_⟩;refine jh (pO (L:=[(0,some dW),(1,some (ew es)),(7,some (kX (dD m)))]) (n':=20) (lg:=[]) (nl:=0) (Nat.le_refl _) fun n o e=>?_) ?_
 ·have hcases:=bK e;simp only[acd,ab6,or_false,Prod.mk.injEq,Option.some.injEq]at hcases;rcases hcases with⟨rfl,rfl⟩|⟨rfl,rfl⟩|⟨rfl,rfl⟩<;>rfl
 refine dn ?_;refine ai (aG bi (by simp(disch:=first|decide|omega) only[go_sem]<;>with_reducible rfl) ?_);refine fQ ?_;refine⟨_,?e3,?W3,rfl,?h3,?q3⟩
 case h3=>simp(disch:=first|decide|omega) only[Tryz.results49,go_sem]<;>with_reducible rfl
 refine⟨by rw[h2],?_,?_,?_,?_⟩
 ·simp(disch:=first|decide|omega) only[go_sem]
 ·simp(disch:=first|decide|omega) only[go_sem]
 ·simp(disch:=first|decide|omega) only[<-hmk,go_sem]
 exact Nat.le_refl _
theorem YZ(hS:lD Tryz.prog 89 51)(es:aV)(hn:es.length<=1000000)(hne:es≠[]) :
 bg Tryz.prog 26 [.pointer (some ⟨0,0,none⟩)] (wd [(0,some dW),(1,some (ew es))] 2 [] 0)
  fun e W'=>e=.ret (yw (dD (dA es)))/\W'.get 0=some dW/\W'.get 1=some (ew es):=by
 refine cH bi Tryz.func26 rfl (Nat.le_of_ble_eq_true rfl) ?_;simp only[bk.eq_1,bk.eq_2,dk,Tryz.ntmps26,Nat.reduceAdd];refine ai (aG bi (by simp(disch:=first|decide|omega) only[go_sem]<;>with_reducible rfl) ?_);refine ai ?_;refine ai (aG bi (by simp(disch:=first|decide|omega) only[pf Tryz.underlying26,go_sem]<;>with_reducible rfl) ?_);refine kO (by simp(disch:=first|decide|omega) only[go_sem]<;>with_reducible rfl) ?_;refine ap ?_;refine ai (cT ?_);refine bF bi 1 (s1:=?sA) ?hA ?qA
 case hA=>simp(disch:=first|decide|omega) only[go_sem]<;>with_reducible rfl
 refine bF bi 1 (s1:=?sB) ?hB ?qB
 case hB=>simp(disch:=first|decide|omega) only[go_sem]<;>with_reducible rfl
 refine bF bi 1 (s1:=?sC) ?hC ?qC
 case hC=>simp(disch:=first|decide|omega) only[dW,go_sem]<;>with_reducible rfl
 refine bF bi 1 (s1:=?sD) ?hD (fD (f:=50) (args:=[.map (some 1)])
  (S:=fun e W'=>e=.ret po/\W'.get 0=some dW/\W'.get 1=some (ew es)/\W'.get 2=some mn/\W'.next<=3) (enters_of (by kernel_rfl)) rfl ?hxD ?hlD ?qD)
 case hD=>simp(disch:=first|decide|omega) only[dW,go_sem]<;>with_reducible rfl
 case hxD=>simp(disch:=first|decide|omega) only[go_sem]
 case hlD=>exact J9 es
 intro e W' ⟨h1,h2,h3,h4,h5⟩;refine⟨_,_,h1,dm (by decide),?_⟩;refine jh (pO (L:=[(0,some dW),(1,some (ew es)),(2,some mn)]) (n':=3) (lg:=[]) (nl:=0) h5 fun n o e=>?_) ?_
 ·have hcases:=bK e;simp only[acd,ab6,or_false,Prod.mk.injEq,Option.some.injEq]at hcases;rcases hcases with⟨rfl,rfl⟩|⟨rfl,rfl⟩|⟨rfl,rfl⟩<;>assumption
 refine fD (f:=49) (args:=[po,FJ]) (S:=Wd es) (enters_of (by kernel_rfl)) rfl ?hxE (Fv hS es hn hne) ?qE
 case hxE=>simp(disch:=first|decide|omega) only[po,FJ,go_sem]
 intro e W' ⟨h1,h2,h3,h4,h5⟩;refine⟨_,_,h1,dm (by decide),?_⟩;refine jh (pO (L:=[(0,some dW),(1,some (ew es)),(7,some (kX (dD (dA es))))]) (n':=20) (lg:=[]) (nl:=0) h5 fun n o e=>?_) ?_
 ·have hcases:=bK e;simp only[acd,ab6,or_false,Prod.mk.injEq,Option.some.injEq]at hcases;rcases hcases with⟨rfl,rfl⟩|⟨rfl,rfl⟩|⟨rfl,rfl⟩<;>assumption
 refine bF bi 1 (s1:=?sF) ?hF (dn ?qF)
 case hF=>simp(disch:=first|decide|omega) only[go_sem]<;>with_reducible rfl
 have hkl:(dD (dA es)).length=es.length:=by rw[uy];exact ab1 ..
 obtain⟨m,hm⟩:∃m,m=dD (dA es):=⟨_,rfl⟩;rw[<-hm]at hkl ⊢;refine eR (Iz (L':=[(0,some dW),(1,some (ew es))]) 2 7 (c:=cO m) (e:=24) (fr:=(0,0)) (len:=es.length) (by simp(disch:=first|decide|omega) only[ab,aa];rfl) (by decide) (by decide) (by decide) (by simp(disch:=first|decide|omega) only[ab,aa]) (acx hn (by decide)) (fun e=>absurd (List.length_eq_zero_iff.1 e) hne) (by simp(disch:=decide) [de,ab,aa,da])) ?_;refine fQ ?_;refine⟨_,?e4,?W4,rfl,?h4,?q4⟩
 case h4=>simp(disch:=first|decide|omega) only[Tryz.results26,go_sem]<;>with_reducible rfl
 refine⟨?_,?_,?_⟩
 ·unfold yw;rw[hkl];obtain⟨n,hn'⟩:∃n,es.length=n+1:=⟨es.length-1,by have:=List.length_pos_iff.2 hne;omega⟩;rw[hn'];rfl
 ·simp(disch:=first|decide|omega) only[go_sem]
 simp(disch:=first|decide|omega) only[go_sem]
theorem Bv{P:Program}{t kt el:TypeId}(ht:P.underlying t=some (.map kt el))(w:World):(Instr.range t (.map none)).run P w=.ok (.pointer (some ⟨w.heap.size,0,none⟩)) (w.alloc (.mapIter none 0 #[] 0)):=by
 unfold Instr.range;simp only[abU,aI ht,abQ,ab0];rfl
theorem Cj{P:Program}{ty:TypeId}{b:Nat}{w:World}(h:w.heap[b]?=some (.mapIter none 0 #[] 0)):(Instr.next (.pointer (some ⟨b,0,none⟩)) false ty).run P w=.ok (.tuple #[.bool false]) w:=by
 unfold Instr.next;simp only[abU,je h,abQ,ab0]
set_option maxRecDepth 100000 in
theorem QE(y:Value)(b o:Nat)(w:World)(hc:w.cell? ⟨b,o,none⟩=some (.map none))(hb:b<w.heap.size) :
 Calls Tryz.prog 90 #[y,.pointer (some ⟨b,o,none⟩)] w fun e w'=>e=.returned (.tuple #[])/\ak aO w w':=by
 have hr:=Bv Tryz.underlying63 w;obtain⟨w1,hw1⟩:∃w1,w1=w.alloc (.mapIter none 0 #[] 0):=⟨_,rfl⟩;have z1:w1.heap[w.heap.size]?=some (.mapIter none 0 #[] 0):=by rw[hw1];exact bw
 have k1:ak aO w w1:=by rw[hw1];exact(ak.refl _ _).alloc _
 rw[<-hw1]at hr;have Z1:=Lib.hid z1;have K1:=Lib.hid k1;clear hw1 z1 k1
 go_enter Tryz.func90,Tryz.ntmps90
 go_wp2_with fail
 go_loopw [3] (fun _ wr=>ak aO w1 wr) (fun _ _=>1)
 case atStart=>exact ak.refl _ _
 have hkr:=hrel;have hnx:=Cj (P:=Tryz.prog) (ty:=0) (hkr.heap Z1.out (fun e=>e));have HKR:=Lib.hid hkr;clear hkr
 go_wp2_with fail
 go_end0
 exact⟨rfl,K1.out.trans HKR.out⟩
def XE(W:XW):Option ah->Option (aW×XW)
 |some (.cells [.map none] _ _)=>some (.ret (.tuple #[]),W)
 |_=>none
def Kp:HF:=fun args W=>match args with
 |[_,.pointer (some ⟨n,0,none⟩)]=>XE W (W.get n)
 |_=>none
theorem GY{args:List Value}{W W':XW}{e:aW}(h:Kp args W=some (e,W')):∃y n t fr,args=[y,.pointer (some ⟨n,0,none⟩)]/\W.get n=some (.cells [.map none] t fr)/\e=.ret (.tuple #[])/\W'=W:=by
 unfold Kp at h;split at h
 ·rename_i y n;unfold XE at h;split at h
  ·rename_i t fr hg;cases h;exact⟨y,n,t,fr,rfl,hg,rfl,rfl⟩
  cases h
 cases h
theorem aa3:bS Tryz.prog 90 Kp:=⟨enters_of (by kernel_rfl),fun args W e W' h=>by
 obtain⟨y,n,t,fr,rfl,hg,rfl,rfl⟩:=GY h;exact .refl _,fun args W e W' h ρ args' w m hfr hH hA=>by
 obtain⟨y,n,t,fr,rfl,hg,rfl,rfl⟩:=GY h;cases hA with
 |cons _ y' _ l' h1 h2=>
 cases h2 with
 |cons _ x _ l'' h3 h4=>
 cases h4;obtain⟨i,hi,rfl⟩:=h3.ptrInv;obtain⟨ob,hob,hor⟩:=hH.obj n i _ hi hg;cases hor with
 |cells _ _ _ c' fr' hz hr hk hl hv hf hq hmz=>
 obtain⟨v',q1,q2⟩:=hv 0 _ rfl;have q3:=q2.of_flat 1 rfl;subst q3;have hc:w.cell? ⟨i.b,0+i.s,none⟩=some (.map none):=by rw[bm hob,Nat.zero_add];exact q1
 refine CallsIn.mono (callsIn_wide.2 (QE y' i.b (0+i.s) w hc (Array.getElem?_eq_some_iff.1 hob).1)) fun en w' ⟨he,hk'⟩=>?_
 subst he;exact⟨ρ,.keep hk',hH.keep hk',.flat 1 _ rfl⟩⟩
theorem ZJ:dv Tryz.prog (aJ [(90,Kp)] []):=⟨mixed,eP (.cons _ _ _ aa3 .nil) .nil⟩
theorem Bk{P:Program}{H:ci}(hB:dv P H)(n:Nat){f:FuncId}{args:List Value}{W W':XW}{e:aW}(h:bc P H n (.call f args W)=some (.fin e W')):bg P f args W fun e2 W2=>e2=e/\W2=W':=by
 intro ρ args' w m hfr hH hA;obtain⟨hC,hF,_⟩:=kS hB.mixed hB.sim (lu hB.mixed) n;obtain⟨_,k⟩:=hF f args W e W' h;exact CallsIn.mono (k ρ args' w m (fun n h1 h2=>hfr n h1) hH hA) fun en w' hq=>⟨e,W',⟨rfl,rfl⟩,hq⟩
def NV(t:TypeId):Option XO->Bool
 |some (.fin (.ret (.slice none 0 0)) W')=>match W'.get 0 with
  |some (.cells [.map none] u (0,0))=>Nat.beq u t
  |_=>false
 |_=>false
theorem Sr{t:TypeId}{r:Option XO}(h:NV t r=true):∃W',r=some (.fin (.ret (.slice none 0 0)) W')/\W'.get 0=some (.cells [.map none] t (0,0)):=by
 unfold NV at h;split at h
 ·rename_i W';split at h
  ·rename_i u hg;exact⟨W',rfl,by rw[hg,abY h]⟩
  cases h
 cases h
set_option maxRecDepth 100000 in
theorem Oa:NV 65 (bc Tryz.prog (aJ [(90,Kp)] []) 4000 (.call 26 [.pointer (some ⟨0,0,none⟩)] (wd [(0,some (.cells [.map none] 65 (0,0)))] 1 [] 0)))=true:=by kernel_rfl
theorem aaG:bg Tryz.prog 26 [.pointer (some ⟨0,0,none⟩)] (wd [(0,some (.cells [.map none] 65 (0,0)))] 1 [] 0)
 fun e W'=>e=.ret (yw [])/\W'.get 0=some (.cells [.map none] 65 (0,0)):=by
 obtain⟨W',h1,h2⟩:=Sr Oa;exact bg.mono (Bk ZJ 4000 h1) fun e W2 ⟨q1,q2⟩=>by subst q1;subst q2;exact⟨rfl,h2⟩
open Classical in
noncomputable def yl:PP aV:=fun xs es=>if xs=[]/\es.length<=1000000 then some (yw (dD (dA es)),es,.rd)else none
theorem MU{es:aV}(hn:es.length<=1000000):yl [] es=some (yw (dD (dA es)),es,.rd):=if_pos ⟨rfl,hn⟩
theorem Y7(hS:lD Tryz.prog 89 51):bS Tryz.prog 26 (qh vF yl):=by
 have inv:∀{xs:List Value} {es es':aV} {v:Value} {md:Md},yl xs es=some (v,es',md)->xs=[]/\es.length<=1000000/\v=yw (dD (dA es))/\es'=es/\md=.rd:=fun{xs es es' v md} h=>by
  unfold yl at h;split at h
  ·rename_i hx;cases h;exact⟨hx.1,hx.2,rfl,rfl,rfl⟩
  cases h
 refine H9 (enters_of (by kernel_rfl)) (fun xs a v a' md h=>?_) (fun xs a v a' md h=>?_)
 ·obtain⟨rfl,_,rfl,_,_⟩:=inv h;exact⟨iH,M3 _⟩
 obtain⟨rfl,hn,rfl,rfl,rfl⟩:=inv h;cases a' with
 |nil=>exact bg.mono aaG fun e W' ⟨h1,h2⟩=>⟨by rw[h1];simp[dA,dD],h2,fun o h=>(by cases h)⟩
 |cons x l=>exact bg.mono (YZ hS (x::l) hn (by simp)) fun e W' ⟨h1,h2,h3⟩=>⟨h1,h2,fun o h=>by cases h;exact h3⟩
noncomputable def BN:List (FuncId×HF):=[(28,uA),(27,uA),(73,FO)]
theorem B6:rZ Tryz.prog BN:=.cons _ _ _ Po (.cons _ _ _ D8 (.cons _ _ _ D0 .nil))
noncomputable def L6(n:Nat):List (FuncId×HD):=[(46,kZ Tryz.prog (bc Tryz.prog (aJ BN []) n) 46)]
theorem Jv(n:Nat):nW Tryz.prog (L6 n):=by
 have h0:wK Tryz.prog (aJ BN []):=eP B6 .nil;have hR:=jV (P:=Tryz.prog) h0.ext n;have hC:=(kS mixed h0 (lu mixed) n).1;exact .cons _ _ _ (Hh (enters_of (by kernel_rfl)) hR hC) .nil
noncomputable def GF(n:Nat):ci:=aJ BN (L6 n)
theorem Vx(n:Nat):dv Tryz.prog (GF n):=⟨mixed,eP B6 (Jv n)⟩
def OP:Option XO->Bool
 |some (.fin (.ret (.bool true)) _)=>true
 |_=>false
theorem Sk{r:Option XO}(h:OP r=true):∃W',r=some (.fin (.ret (.bool true)) W'):=by
 unfold OP at h;split at h
 ·exact⟨_,rfl⟩
 cases h
theorem Fz{P:Program}{f:FuncId}{args args':List Value}{w:World}{v:Value}{k:Nat}(hk:aX k v=true)(h:bg P f args (wd [] 0 [] 0) fun e W'=>e=.ret v)
 (hA:∀ρ:Ren,(∀b,ρ.fz b=w.heap[b]?)->aU ρ args args'):Calls P f args'.toArray w fun en w'=>en=.returned v/\ak aO w w':=by
 refine callsIn_wide.1 (CallsIn.mono (h ⟨fun _=>none,fun b=>w.heap[b]?⟩ args' w 0 (fun n _=>rfl) ⟨fun n i o q _=>(by cases q),fun n m i j q _ _ _ _=>(by cases q),fun b o q=>⟨q,fun⟨n,i,q1,_⟩=>by cases q1⟩⟩ (hA _ fun _=>rfl)) fun en w' hx=>?_);obtain⟨e,W',rfl,ρ',hs,_,he⟩:=hx;cases en<;>first|exact he.elim|skip
 rename_i u;have hu:VR ρ' v u:=he;refine⟨by rw[hu.of_flat k hk],hs.keeps.mono fun b _ hb=>?_⟩;obtain⟨n,i,q1,_⟩:=hb;cases q1
set_option maxRecDepth 100000 in
theorem So:OP (bc Tryz.prog (GF 100000) 100000 (.call 7 [] (wd [] 0 [] 0)))=true:=by kernel_rfl
theorem Nz:bg Tryz.prog 7 [] (wd [] 0 [] 0) fun e W'=>e=.ret (.bool true):=by
 obtain⟨W',h⟩:=Sk So;exact bg.mono (Bk (Vx 100000) 100000 h) fun e W2 ⟨q,_⟩=>q
def X4:List Value->Option Value
 |[]=>some (.bool true)
 |_=>none
theorem ZU:bS Tryz.prog 7 (mo X4):=by
 refine NF (enters_of (by kernel_rfl)) (fun xs v h=>?_) (fun xs v h=>?_)
 ·cases xs with
  |nil=>cases h;exact⟨iH,dz 1 rfl⟩
  |cons a l=>cases h
 cases xs with
 |nil=>cases h;exact Nz
 |cons a l=>cases h
end Go.Proofs.YthlkgmdkabelpaaGreat.X
