/-
  Packed by program (tools/pack.py) out of the texts MA MC1 MC2 MC3 MB MC4 MD1 MD2 MD3 MD4. No condition.
-/
import Derived.Test.YthlkgmdkabelpaaGreatZ2
import Derived.Test.YthlkgmdkabelpaaGreatZ3
import Derived.Test.YthlkgmdkabelpaaGreatZG
set_option linter.all false
namespace Go.Proofs.YthlkgmdkabelpaaGreat.X
open Go Go.RowKit Go.Proofs.YthlkgmdkabelpaaGreat.St
attribute [go_sem] T3 LN
attribute [go_sem high] KR Pa Pz
abbrev Ls(s:Sd):Value:=.agg #[.int .i64 s.1,.int .i64 s.2]
@[go_sem] theorem val_ce {c:Ce}:mu.val Tryz.prog c=.agg #[.int .i64 c.id,.int .i64 c.dim,sl c.sd]:=rfl
theorem YQ{W:XW}{e:TypeId}{b i s m:Nat}{l:List Ce}{y:Ce}(hg:W.get b=some (ro e l))(h:i<l.length)(hs:s=3)(hm:m=3):Kt W b m i (.agg #[.int .i64 y.id,.int .i64 y.dim,sl y.sd]) s (some (ro e l))=some (.mod undef (W.put b (some (ro e (l.set i y))))):=Ej hg h rfl hs hm _
theorem ZQ{W:XW}{e:TypeId}{b i s m:Nat}{l:List Sd}{y:Sd}(hg:W.get b=some (ro e l))(h:i<l.length)(hs:s=2)(hm:m=2):Kt W b m i (.agg #[.int .i64 y.1,.int .i64 y.2]) s (some (ro e l))=some (.mod undef (W.put b (some (ro e (l.set i y))))):=Ej hg h rfl hs hm _
attribute [go_sem] YQ ZQ
section
variable {α:Type} [Inhabited α] {key:α->Int} {l:List α} {i j:Nat}
theorem ij(h:i<l.length):bW key l i=key (l.getD i default):=by
 rw[yy (abS h),abV,abS h];rfl
theorem nR(hi:i<l.length)(hj:j<l.length):(l.set i (l.getD j default)).set j (l.getD i default)=gN l i j:=by
 unfold gN;rw[abS hi,abS hj,abV,abS hj,abV,abS hi];rfl
theorem u5{l':List α}(h:l[i]?=l'[j]?):l.getD i default=l'.getD j default:=by
 rw[abV,abV,h]
theorem AD{a b:Nat}(h1:a<=i)(h2:i<=b)(hb:b<=l.length):bB key (bB key l a i) a b=bB key l a b:=by
 have hl:(bB key l a i).length=l.length:=dx h1 (by omega);obtain⟨p,x,q,rfl,hp,hx⟩:=Aa (l:=l) (a:=a) (b:=b) (by omega) hb;obtain⟨y,z,w,hyz,hy,hz⟩:=Aa (l:=x) (a:=0) (b:=i-a) (by omega) (by omega);have:y=[]:=List.length_eq_zero_iff.1 hy;subst this;rw[List.nil_append]at hyz;subst hyz;rw[abP]at hx;rw[show p++(z++w++q)=p++(z++(w++q)) by simp,dE hp.symm (by omega),show p++(bO key z++(w++q))=p++((bO key z++w)++q) by simp,dE hp.symm (by rw[abP,b8];omega),show p++(z++(w++q))=p++((z++w)++q) by simp,dE hp.symm (by rw[abP];omega)];congr 2;exact EU fun k=>by rw[jZ,jZ,mN]
end
section
variable {P:Program} {R:List ResultVar} {E:aW->XW->Prop} {s:XS} {e:aW} {W:XW}
theorem re(q:E e W)(h:kC P R s.fr (cU (aJ [] []) s.ds none s.W)=some (.fin e W):=by simp(disch:=first|decide|omega|(simp only[abP,List.length_cons,List.length_nil,abR,abT,abX]<;>omega)|(simp(disch:=decide) only[ae,ab,aa,b9.eq_1];done)) only[kC.eq_1,kC.eq_2,go_sem]<;>with_reducible rfl):qL P R E .norm s:=⟨none,e,W,rfl,h,q⟩
variable [hM:kz P] {N k:Nat} {d r:Code} {s':XS} {Q:XQ} {id:Nat} {ops:Array Oper} {H:ci} {rs:List bp} {p:Prop}
theorem I9(f:p)(b:dv P H)(q:ar P N k d s' (iV P N k r Q))(h:p->aY P (bc P H 1) N none ops ops.toList s=some (rs,s'):=by intro hf;simp(disch:=first|decide|omega|(simp only[abP,List.length_cons,List.length_nil,abR,abT,abX]<;>omega)|(simp(disch:=decide) only[ae,ab,aa,b9.eq_1];done)) only[hf,jF,aJ,eF,dN,fZ,aY.eq_1,aY.eq_2,fV.eq_1,cW.eq_1,cW.eq_2,go_sem]<;>with_reducible rfl)(hk:jG P ops s.ds.length rs=true:=by
 refine fX (by kernel_rfl) (by kernel_rfl) ?_
 repeat (refine aQ (by first|(refine dj (by with_reducible rfl) (by kernel_rfl) (by kernel_rfl) ?_;simp(disch:=first|decide|omega|(simp only[abP,List.length_cons,List.length_nil,abR,abT,abX]<;>omega)|(simp(disch:=decide) only[ae,ab,aa,b9.eq_1];done)) only[fT.eq_1,cond_true,go_sem];done)|kernel_rfl) ?_)
 rfl):ar P N k (.seq (.seq (.region id ops true) d) r) s Q:=ai (ai (eM b (h f) hk q))
theorem xA(q:Q .norm s')(h:aY P (bc P (aJ [] []) 1) N none ops ops.toList s=some (rs,s'):=by simp(disch:=first|decide|omega|(simp only[abP,List.length_cons,List.length_nil,abR,abT,abX]<;>omega)|(simp(disch:=decide) only[ae,ab,aa,b9.eq_1];done)) only[aY.eq_1,aY.eq_2,fV.eq_1,cW.eq_1,cW.eq_2,go_sem]<;>with_reducible rfl)(hk:jG P ops s.ds.length rs=true:=by
 refine fX (by kernel_rfl) (by kernel_rfl) ?_
 repeat (refine aQ (by first|(refine dj (by with_reducible rfl) (by kernel_rfl) (by kernel_rfl) ?_;simp(disch:=first|decide|omega|(simp only[abP,List.length_cons,List.length_nil,abR,abT,abX]<;>omega)|(simp(disch:=decide) only[ae,ab,aa,b9.eq_1];done)) only[fT.eq_1,cond_true,go_sem];done)|kernel_rfl) ?_)
 rfl):ar P N k (.region id ops true) s Q:=eM b0 h hk q
theorem fr{α:Type}(I:α->XS)(V:α->Prop)(μ:α->Nat)(x0:α)(hv:V x0){C:α->Prop}[hC:∀x,Decidable (C x)]{J:α->XS}{i1 B:Nat}{t:Operand}{body:Code}
 (hb:∀x,V x->C x->ar P N k body (J x) (PG P k I V μ x (nQ B Q))) (he:∀x,V x->¬C x->Q .norm (J x)) (h0:bz P k s (I x0):=by exact bL)
 (hc:∀x,fR P (bc P (aJ [] []) 1) N none ops ops.toList (I x)=some (.code .norm (J x)):=by intro x;simp(disch:=first|decide|omega|(simp only[abP,List.length_cons,List.length_nil,abR,abT,abX]<;>omega)|(simp(disch:=decide) only[ae,ab,aa,b9.eq_1];done)) only[go_sem]<;>with_reducible rfl)
 (hx:∀x,ev (J x).fr t=some (.bool (decide (C x))):=by intro x;simp(disch:=first|decide|omega|(simp only[abP,List.length_cons,List.length_nil,abR,abT,abX]<;>omega)|(simp(disch:=decide) only[ae,ab,aa,b9.eq_1];done)) only[go_sem]<;>with_reducible rfl) :
 ar P N k (.block B (.loop (.seq (.region i1 ops false) (.seq (.cond t .skip (.exit B)) body)))) s Q:=
 aK (lp I V μ x0 hv (h0:=h0) fun x v=>ai (aG b0 (hc x) (ai (cp (fun h=>ap (hb x v h)) (fun h=>pL (by show(if B=B then _ else _);rw[if_pos rfl];exact he x v h)) (hx x)))))
end
def kE(a b:Int):Int:=if a<b then -1 else if b<a then 1 else 0
theorem uT{a b:Int}(h:a<b):kE a b<((0:Nat):Int):=by rw[kE,if_pos h];decide
theorem vb{a b:Int}(h:¬a<b):¬kE a b<((0:Nat):Int):=by rw[kE,if_neg h];split<;>decide
theorem Lj(a:Int):Fn Tryz.prog 118 [.int .i64 a] (.ret (.bool false)):=by
 refine fY Tryz.func118 Tryz.results118 (h:=?_);refine rs ?_;refine rf (show(a !=a)=false/\decide (a≠a)=false by simp) ?_;refine rt ?_;rfl
theorem Mc(a b:Int):Fn Tryz.prog 103 [.int .i64 a,.int .i64 b] (.ret (.int .i64 (kE a b))):=by
 refine fY Tryz.func103 Tryz.results103 (h:=?_);refine rs ?_;refine rc (b1 (Lj a)) ?_;refine rc (b1 (Lj b)) ?_;refine rS ?_;refine cf ?_;refine sk (rS ?_);refine cf ?_;refine sk ?_;unfold kE;by_cases h1:a<b
 ·refine rS ?_;refine ct ?_;refine rs ?_;refine rt ?_;rw[if_pos h1]
 refine rS ?_;refine cf ?_;refine sk ?_;by_cases h2:b<a
 ·refine rS ?_;refine ct ?_;refine rs ?_;refine rt ?_;rw[if_neg h1,if_pos h2];rfl
 refine rS ?_;refine cf ?_;refine sk (rs ?_);refine rt ?_;rw[if_neg h1,if_neg h2];rfl
def au(x:Ce):Int:=x.id
abbrev Pr:Value:=.func (.func 66) #[] #[]
abbrev kB:Value:=.func (.func 102) #[] #[FP [Pr]]
theorem QL(x:Ce):Fn Tryz.prog 66 [jA x] (.ret (.int .i64 (au x))):=by
 refine fY Tryz.func66 Tryz.results66 (h:=?_);refine rs ?_;refine rs ?_;refine rt ?_;rfl
def sKC(a:List Value)(e:aW):Prop:=∃x:Ce,a=[jA x]/\e=.ret (.int .i64 (au x))
theorem Ql:bS Tryz.prog 66 (tY sKC):=Cx (enters_of (by kernel_rfl)) fun a e ⟨x,h1,h2⟩=>by subst h1 h2;exact QL x
theorem P8{x:Ce}{W:XW}:tY sKC [jA x] W=some (.ret (.int .i64 (au x)),W):=EI ⟨x,rfl,rfl⟩ fun e' ⟨y,h2,h3⟩=>by
 simp only[List.cons.injEq,Value.agg.injEq,and_true]at h2;replace h2:=congrArg Array.toList h2;simp only[List.cons.injEq,Value.int.injEq,true_and,and_true]at h2;rw[h3];unfold au;rw[h2.1]
attribute [go_sem] P8
theorem lN(x y:Ce):Fn Tryz.prog 102 [jA x,jA y,FP [Pr]] (.ret (.int .i64 (kE (au x) (au y)))):=by
 refine fY Tryz.func102 Tryz.results102 (h:=?_);refine rs ?_;refine Hi (oZ Ql (fj (Mc (au x) (au y)))) ?_;refine rt ?_;rfl
set_option maxHeartbeats 1000000 in
theorem Gp(l:List Ce)(a b cap:Nat)(hab:a<=b)(hb:b<=l.length)(hn:l.length<=1000000):Fw Tryz.prog 139 [.int .i64 (a:Nat),.int .i64 (b:Nat),kB] 58 cap l (.tuple #[]) (bB au l a b):=by
 refine oq Tryz.func139 Tryz.results139 (h:=?_);refine rs ?_;refine fo (fun i:Nat=>⟨ao [(0,some (gs 0 cap l)),(1,some (.int .i64 (a:Nat))),(2,some (.int .i64 (b:Nat))),(3,some kB),(8,some (.int .i64 (i:Nat)))],wd [(0,some (ro 58 (bB au l a (min i b))))] 1 [] 0,[]⟩) (fun i=>a+1<=i/\(i<=b\/i=a+1)) (fun i=>b-i) (a+1) ⟨Nat.le_refl _,.inr rfl⟩ (fun i hv h=>?_) (fun i hv h=>?_) (h0:=by rw[xj (by omega) (by omega) (by omega)];exact bL)
 ·obtain⟨h1,h2⟩:=hv;rw[acO (by omega)];have hS:(bB au l a i).length=l.length:=dx (by omega) (by omega);have hsrt:bV au (dY (bB au l a i) a i):=by rw[DN (by omega) (by omega)];exact gi
  have hnest:bB au (bB au l a i) a (i+1)=bB au l a (i+1):=AD (by omega) (by omega) (by omega);generalize bB au l a i=S at hS hsrt hnest ⊢;refine bs (rs ?_);refine aK ?_;refine lp (fun j:Nat=>⟨ao [(0,some (gs 0 cap l)),(1,some (.int .i64 (a:Nat))),(2,some (.int .i64 (b:Nat))),(3,some kB),(8,some (.int .i64 (i:Nat))),(9,some (.int .i64 (j:Nat)))],wd [(0,some (ro 58 (bJ S j i (i+1))))] 1 [] 0,[]⟩) (fun j=>a<=j/\j<=i/\(j=i\/bW au S i<bW au S j)) (fun j=>j) i ⟨by omega,Nat.le_refl _,.inl rfl⟩ (fun j hv=>?_) (h0:=by rw[m7 (by omega) (by omega)];exact bL);obtain⟨j1,j2,jc⟩:=hv;have hR:(bJ S j i (i+1)).length=l.length:=by rw[fw j2 (by omega) (by omega),hS]
  have g1:(bJ S j i (i+1)).getD j default=S.getD i default:=u5 (by rw[fv (l:=S) j2 (show i<=i+1 by omega) (by omega) j,if_neg (by omega),if_pos (by omega),show j+(i-j)=i by omega]);have hdone:¬(a<j/\bW au S i<bW au S (j-1))->bJ S j i (i+1)=bB au S a (i+1):=fun q=>rO (by omega) j1 j2 hsrt (by omega) jc
  by_cases haj:a<j
  ·have g2:(bJ S j i (i+1)).getD (j-1) default=S.getD (j-1) default:=u5 (by rw[fv (l:=S) j2 (show i<=i+1 by omega) (by omega) (j-1),if_pos (by omega)]);have hdn:gN (bJ S j i (i+1)) j (j-1)=bJ S (j-1) i (i+1):=sW (by omega) j2 (by omega);by_cases hlt:bW au S i<bW au S (j-1)
   ·have hk:kE (au ((bJ S j i (i+1)).getD j default)) (au ((bJ S j i (i+1)).getD (j-1) default))<((0:Nat):Int):=by
     rw[g1,g2,<-ij (key:=au) (by omega),<-ij (key:=au) (by omega)];exact uT hlt
    generalize bJ S j i (i+1)=R at hR hdn hk ⊢;refine I9 hk (b1 (lN (R.getD j default) (R.getD (j-1) default))) ?_;refine ct ?_;refine ap (bs (xA ?_));refine rl ?_;rw[nR (by omega) (by omega),hdn];exact nx (j-1) ⟨by omega,by omega,.inr hlt⟩
   have hk:¬kE (au ((bJ S j i (i+1)).getD j default)) (au ((bJ S j i (i+1)).getD (j-1) default))<((0:Nat):Int):=by rw[g1,g2,<-ij (key:=au) (by omega),<-ij (key:=au) (by omega)];exact vb hlt
   have hdone:=hdone fun q=>hlt q.2
   generalize bJ S j i (i+1)=R at hR hdn hk hdone ⊢;refine I9 hk (b1 (lN (R.getD j default) (R.getD (j-1) default))) ?_;refine cf ?_;refine xe ?_;refine rl ?_;refine nx (i+1) ⟨by omega,.inl (by omega)⟩ (by omega) ?_;rw[hdone,hnest,acO (by omega)];exact bL
  have hdone:=hdone fun q=>haj q.1
  refine rD ?_;refine cf ?_;refine xe ?_;refine rl ?_;refine nx (i+1) ⟨by omega,.inl (by omega)⟩ (by omega) ?_;rw[hdone,hnest,acO (by omega)];exact bL
 rw[Nat.min_eq_right (by omega)];refine re ?_;exact⟨rfl,by simp(disch:=decide) only[ae,ab,aa]⟩
theorem B0(l:List Ce)(a b n cap:Nat)(h1:a+n<=b)(h2:b+n<=l.length)(hn:l.length<=1000000):Fw Tryz.prog 155 [.int .i64 (a:Nat),.int .i64 (b:Nat),.int .i64 (n:Nat),kB] 58 cap l (.tuple #[]) (i5 l a b n):=by
 refine oq Tryz.func155 Tryz.results155 (h:=?_);refine rs ?_;refine fo (fun i:Nat=>⟨ao [(0,some (gs 0 cap l)),(1,some (.int .i64 (a:Nat))),(2,some (.int .i64 (b:Nat))),(3,some (.int .i64 (n:Nat))),(10,some (.int .i64 (i:Nat)))],wd [(0,some (ro 58 (i5 l a b i)))] 1 [] 0,[]⟩) (fun i=>i<=n) (fun i=>n-i) 0 (abW _) (fun i hv h=>?_) (fun i hv h=>?_)
 ·have hR:(i5 l a b i).length=l.length:=e8 _;have hnx:i5 l a b (i+1)=gN (i5 l a b i) (a+i) (b+i):=rfl;generalize i5 l a b i=R at hR hnx ⊢;refine bs (xA ?_);refine rl ?_;rw[nR (by omega) (by omega)];refine nx (i+1) (by omega) (by omega) ?_;rw[hnx];exact bL
 refine re ?_;rw[show i=n by omega];exact⟨rfl,by simp(disch:=decide) only[ae,ab,aa]⟩
theorem WD(l:List Ce)(a m b cap:Nat)(h1:a<m)(h2:m<b)(h3:b<=l.length)(hn:l.length<=1000000):Fw Tryz.prog 151 [.int .i64 (a:Nat),.int .i64 (m:Nat),.int .i64 (b:Nat),kB] 58 cap l (.tuple #[]) (bJ l a m b):=by
 refine oq Tryz.func151 Tryz.results151 (h:=?_);refine rs ?_;refine rs ?_;refine ai ?_;refine fo (fun x:Nat×Nat×List Ce=>⟨ao [(0,some (gs 0 cap l)),(2,some (.int .i64 (m:Nat))),(4,some kB),(10,some (.int .i64 (x.1:Nat))),(11,some (.int .i64 (x.2.1:Nat)))],wd [(0,some (ro 58 x.2.2))] 1 [] 0,[]⟩)
  (fun x=>x.2.2.length=l.length/\0<x.1/\x.1<=m/\0<x.2.1/\m+x.2.1<=l.length/\bJ x.2.2 (m-x.1) m (m+x.2.1)=bJ l a m b) (fun x=>x.1+x.2.1) (m-a,b-m,l) ⟨rfl,by dsimp only;omega,by dsimp only;omega,by dsimp only;omega,by dsimp only;omega,by dsimp only;rw[show m-(m-a)=a by omega,show m+(b-m)=b by omega]⟩ (fun x hv h=>?_) (fun x hv h=>?_)
 ·obtain⟨i,j,r⟩:=x;obtain⟨hr,hi,him,hj,hjn,heq⟩:=hv;simp only at h hr hi him hj hjn heq;refine aK ?_;by_cases hlt:j<i
  ·refine rs ?_;refine ct ?_;refine rc (jy (B0 r (m-i) m j cap (by omega) (by omega) (by omega))) ?_;refine rl ?_;exact nx (i-j,j,i5 r (m-i) m j) ⟨(e8 _).trans hr,by dsimp only;omega,by dsimp only;omega,hj,hjn,by dsimp only;rw[Lx him (by omega) hlt,heq]⟩
  refine rs ?_;refine cf ?_;refine rc (jy (B0 r (m-i) (m+j-i) i cap (by omega) (by omega) (by omega))) ?_;refine rl ?_;exact nx (i,j-i,i5 r (m-i) (m+j-i) i) ⟨(e8 _).trans hr,hi,him,by dsimp only;omega,by dsimp only;omega,by dsimp only;rw[Lg him (by omega) (by omega),heq]⟩
 obtain⟨i,j,r⟩:=x;obtain⟨hr,hi,him,hj,hjn,heq⟩:=hv;simp only at h hr hi him hj hjn heq;have e:j=i:=by omega
 subst e;refine qb (jy (B0 r (m-j) m j cap (by omega) (by omega) (by omega))) ?_;refine re ?_;rw[<-heq,<-KV him (by omega)];exact⟨rfl,by simp(disch:=decide) only[ae,ab,aa]⟩
structure KH(l:List Ce)(a m b:Nat):Prop where
 am:a<m
 mb:m<b
 hb:b<=l.length
 hn:l.length<=1000000
 s1:bV au (dY l a m)
 s2:bV au (dY l m b)
abbrev Ee(l:List Ce)(a m b cap:Nat):Prop:=Fw Tryz.prog 140 [.int .i64 (a:Nat),.int .i64 (m:Nat),.int .i64 (b:Nat),kB] 58 cap l (.tuple #[]) (bB au l a b)
theorem DK{l:List Ce}{i j:Nat}(hi:i<l.length)(hj:j<l.length)(h:bW au l i<bW au l j):kE (au (l.getD i default)) (au (l.getD j default))<((0:Nat):Int):=by
 rw[<-ij (key:=au) hi,<-ij (key:=au) hj];exact uT h
theorem C5{l:List Ce}{i j:Nat}(hi:i<l.length)(hj:j<l.length)(h:¬bW au l i<bW au l j):¬kE (au (l.getD i default)) (au (l.getD j default))<((0:Nat):Int):=by
 rw[<-ij (key:=au) hi,<-ij (key:=au) hj];exact vb h
theorem aaU(l:List Ce)(a m b cap:Nat)(hg:KH l a m b)(hm:m=a+1):Ee l a m b cap:=by
 obtain⟨am,mb,hb,hn,s1,s2⟩:=hg;subst hm;refine oq Tryz.func140 Tryz.results140 (h:=?_);refine rS ?_;refine ct ?_;refine rs ?_;refine rs ?_;refine ai ?_;refine fo (fun x:Nat×Nat=>⟨ao [(0,some (gs 0 cap l)),(1,some (.int .i64 (a:Nat))),(4,some kB),(10,some (.int .i64 (x.1:Nat))),(11,some (.int .i64 (x.2:Nat)))],wd [(0,some (ro 58 l))] 1 [] 0,[]⟩)
  (fun x=>a+1<=x.1/\x.1<=x.2/\x.2<=b/\(x.1=a+1\/bW au l (x.1-1)<bW au l a)/\(x.2=b\/bW au l a<=bW au l x.2)) (fun x=>x.2-x.1) (a+1,b) ⟨Nat.le_refl _,by dsimp only;omega,Nat.le_refl _,.inl rfl,.inl rfl⟩ (fun x hv h=>?_) (fun x hv h=>?_)
 ·obtain⟨i,j⟩:=x;obtain⟨h1,h2,h3,c1,c2⟩:=hv;simp only at h h1 h2 h3 c1 c2;refine aK (rs ?_);by_cases hc:bW au l ((i+j)/2)<bW au l a
  ·refine kT (DK (by omega) (by omega) hc) (b1 (lN (l.getD ((i+j)/2) default) (l.getD a default))) ?_;refine ct ?_;refine rl ?_;exact nx ((i+j)/2+1,j) ⟨by dsimp only;omega,by dsimp only;omega,h3,.inr (by dsimp only;rw[acQ];exact hc),c2⟩
  refine kT (C5 (by omega) (by omega) hc) (b1 (lN (l.getD ((i+j)/2) default) (l.getD a default))) ?_;refine cf ?_;refine rl ?_;exact nx (i,(i+j)/2) ⟨h1,by dsimp only;omega,by dsimp only;omega,c1,.inr (by dsimp only;omega)⟩
 obtain⟨i,j⟩:=x;obtain⟨h1,h2,h3,c1,c2⟩:=hv;simp only at h h1 h2 h3 c1 c2;have e:j=i:=by omega
 subst e;refine rS ?_;refine fo (fun k:Nat=>⟨ao [(0,some (gs 0 cap l)),(1,some (.int .i64 (a:Nat))),(4,some kB),(10,some (.int .i64 (j:Nat))),(13,some (.int .i64 (k:Nat)))],wd [(0,some (ro 58 (bJ l a (a+1) (k+1))))] 1 [] 0,[]⟩) (fun k=>a<=k/\k+1<=j) (fun k=>j-k) a ⟨Nat.le_refl _,h1⟩ (fun k hv h=>?_) (fun k hv h=>?_) (h0:=by rw[qi (by omega) (by omega)];exact bL)
 ·have hR:(bJ l a (a+1) (k+1)).length=l.length:=fw (by omega) (by omega) (by omega);have hup:gN (bJ l a (a+1) (k+1)) k (k+1)=bJ l a (a+1) (k+2):=Kz hv.1 (by omega);generalize bJ l a (a+1) (k+1)=R at hR hup ⊢;refine bs (xA ?_);refine rl ?_;rw[nR (by omega) (by omega),hup];exact nx (k+1) ⟨by omega,by omega⟩
 have e:k+1=j:=by omega
 rw[e,ML hb h1 h3 s2 c1 c2];refine rt ?_;exact⟨rfl,by simp(disch:=decide) only[ae,ab,aa]⟩
theorem aa5(l:List Ce)(a m b cap:Nat)(hg:KH l a m b)(hm0:m≠a+1)(hm:b=m+1):Ee l a m b cap:=by
 obtain⟨am,mb,hb,hn,s1,s2⟩:=hg;subst hm;refine oq Tryz.func140 Tryz.results140 (h:=?_);refine rS ?_;refine cf ?_;refine sk (rS ?_);refine ct ?_;refine rs ?_;refine rs ?_;refine ai ?_;refine fo (fun x:Nat×Nat=>⟨ao [(0,some (gs 0 cap l)),(2,some (.int .i64 (m:Nat))),(4,some kB),(14,some (.int .i64 (x.1:Nat))),(15,some (.int .i64 (x.2:Nat)))],wd [(0,some (ro 58 l))] 1 [] 0,[]⟩)
  (fun x=>a<=x.1/\x.1<=x.2/\x.2<=m/\(x.1=a\/bW au l (x.1-1)<=bW au l m)/\(x.2=m\/bW au l m<bW au l x.2)) (fun x=>x.2-x.1) (a,m) ⟨Nat.le_refl _,by dsimp only;omega,Nat.le_refl _,.inl rfl,.inl rfl⟩ (fun x hv h=>?_) (fun x hv h=>?_)
 ·obtain⟨i,j⟩:=x;obtain⟨h1,h2,h3,c1,c2⟩:=hv;simp only at h h1 h2 h3 c1 c2;refine aK (rs ?_);by_cases hc:bW au l m<bW au l ((i+j)/2)
  ·refine kT (DK (by omega) (by omega) hc) (b1 (lN (l.getD m default) (l.getD ((i+j)/2) default))) ?_;refine cf ?_;refine rl ?_;exact nx (i,(i+j)/2) ⟨h1,by dsimp only;omega,by dsimp only;omega,c1,.inr hc⟩
  refine kT (C5 (by omega) (by omega) hc) (b1 (lN (l.getD m default) (l.getD ((i+j)/2) default))) ?_;refine ct ?_;refine rl ?_;exact nx ((i+j)/2+1,j) ⟨by dsimp only;omega,by dsimp only;omega,h3,.inr (by dsimp only;rw[acQ];omega),c2⟩
 obtain⟨i,j⟩:=x;obtain⟨h1,h2,h3,c1,c2⟩:=hv;simp only at h h1 h2 h3 c1 c2;have e:j=i:=by omega
 subst e;refine rS ?_;refine fo (fun k:Nat=>⟨ao [(0,some (gs 0 cap l)),(2,some (.int .i64 (m:Nat))),(4,some kB),(14,some (.int .i64 (j:Nat))),(17,some (.int .i64 (k:Nat)))],wd [(0,some (ro 58 (bJ l k m (m+1))))] 1 [] 0,[]⟩) (fun k=>j<=k/\k<=m) (fun k=>k) m ⟨h3,Nat.le_refl _⟩ (fun k hv h=>?_) (fun k hv h=>?_) (h0:=by rw[m7 (by omega) (by omega)];exact bL)
 ·have hR:(bJ l k m (m+1)).length=l.length:=fw (by omega) (by omega) (by omega);have hdn:gN (bJ l k m (m+1)) k (k-1)=bJ l (k-1) m (m+1):=sW (by omega) hv.2 (by omega);generalize bJ l k m (m+1)=R at hR hdn ⊢;refine bs (xA ?_);refine rl ?_;rw[nR (by omega) (by omega),hdn];exact nx (k-1) ⟨by omega,by omega⟩
 have e:k=j:=by omega
 rw[e,rO hb h1 h3 s1 c1 c2];refine rt ?_;exact⟨rfl,by simp(disch:=decide) only[ae,ab,aa]⟩
set_option maxHeartbeats 2000000 in
theorem aaO{n:Nat}(ih:∀(l:List Ce) (a m b cap:Nat),KH l a m b->b-a<n->Ee l a m b cap)(l:List Ce)(a m b cap:Nat)(hg:KH l a m b)(hN:b-a<n+1)(hm1:m≠a+1)(hm2:b≠m+1):Ee l a m b cap:=by
 obtain⟨am,mb,hb,hn,s1,s2⟩:=hg;refine oq Tryz.func140 Tryz.results140 (h:=?_);refine rS ?_;refine cf ?_;refine sk (rS ?_);refine cf ?_;refine sk ?_;obtain⟨mid,hmid⟩:∃mid,mid=(a+b)/2:=⟨_,rfl⟩;obtain⟨lo,hlo⟩:∃lo,lo=if mid<m then mid+m-b else a:=⟨_,rfl⟩
 obtain⟨hi,hhi⟩:∃hi,hi=if mid<m then mid else m:=⟨_,rfl⟩
 have b1':a<=lo:=by split at hlo<;>omega
 have b2':lo<=hi:=by split at hlo<;>split at hhi<;>omega
 have b3':hi<=mid:=by split at hhi<;>omega
 have b4':hi<=m:=by split at hhi<;>omega
 have b5':mid+m<=b+lo:=by split at hlo<;>omega
 refine rs ?_;refine cv [(0,some (gs 0 cap l)),(1,some (.int .i64 (a:Nat))),(2,some (.int .i64 (m:Nat))),(3,some (.int .i64 (b:Nat))),(4,some kB),(18,some (.int .i64 (mid:Nat)))] [(0,some (ro 58 l))] 1 ?_;refine rs ?_;refine rs ?_;refine lA ⟨ao [(0,some (gs 0 cap l)),(1,some (.int .i64 (a:Nat))),(2,some (.int .i64 (m:Nat))),(3,some (.int .i64 (b:Nat))),(4,some kB),(18,some (.int .i64 (mid:Nat))),(19,some (.int .i64 ((mid+m:Nat):Int))),(20,some (.int .i64 (lo:Nat))),(21,some (.int .i64 (hi:Nat)))],wd [(0,some (ro 58 l))] 1 [] 0,[]⟩ ?_ ?_
 ·by_cases hmm:mid<m
  ·rw[hlo,if_pos hmm,hhi,if_pos hmm];refine rs ?_;refine ct ?_;refine rs ?_;refine rl ?_;exact bL
  rw[hlo,if_neg hmm,hhi,if_neg hmm];refine rs ?_;refine cf ?_;refine rs ?_;refine rl ?_;exact bL
 refine rs ?_;refine ai ?_;refine fo (fun x:Nat×Nat=>⟨ao [(0,some (gs 0 cap l)),(1,some (.int .i64 (a:Nat))),(2,some (.int .i64 (m:Nat))),(3,some (.int .i64 (b:Nat))),(4,some kB),(18,some (.int .i64 (mid:Nat))),(19,some (.int .i64 ((mid+m:Nat):Int))),(20,some (.int .i64 (x.1:Nat))),(21,some (.int .i64 (x.2:Nat))),(22,some (.int .i64 ((mid+m-1:Nat):Int)))],wd [(0,some (ro 58 l))] 1 [] 0,[]⟩)
  (fun x=>lo<=x.1/\x.1<=x.2/\x.2<=hi/\(x.1=lo\/bW au l (x.1-1)<=bW au l (mid+m-x.1))/\(x.2=hi\/bW au l (mid+m-x.2-1)<bW au l x.2)) (fun x=>x.2-x.1) (lo,hi) ⟨Nat.le_refl _,b2',Nat.le_refl _,.inl rfl,.inl rfl⟩ (fun x hv h=>?_) (fun x hv h=>?_)
 ·obtain⟨s,r⟩:=x;obtain⟨h1,h2,h3,c1,c2⟩:=hv;simp only at h h1 h2 h3 c1 c2;obtain⟨c,hc⟩:∃c,c=(s+r)/2:=⟨_,rfl⟩;refine aK (rs ?_);rw[<-hc];by_cases hcc:bW au l (mid+m-1-c)<bW au l c
  ·refine kT (DK (by omega) (by omega) hcc) (b1 (lN (l.getD (mid+m-1-c) default) (l.getD c default))) ?_;refine cf ?_;refine rl ?_;exact nx (s,c) ⟨h1,by dsimp only;omega,by dsimp only;omega,c1,.inr (by dsimp only;rw[show mid+m-c-1=mid+m-1-c by omega];exact hcc)⟩
  refine kT (C5 (by omega) (by omega) hcc) (b1 (lN (l.getD (mid+m-1-c) default) (l.getD c default))) ?_;refine ct ?_;refine rl ?_;exact nx (c+1,r) ⟨by dsimp only;omega,by dsimp only;omega,h3,.inr (by dsimp only;rw[acQ,show mid+m-(c+1)=mid+m-1-c by omega];omega),c2⟩
 obtain⟨s,r⟩:=x;obtain⟨h1,h2,h3,c1,c2⟩:=hv;simp only at h h1 h2 h3 c1 c2;have e:r=s:=by omega
 subst e;obtain⟨e,he⟩:∃e,e=mid+m-r:=⟨_,rfl⟩;obtain⟨g1,g2,g3,g4,g5,g6,t1,t2,t3,t4,teq⟩:=Em (key:=au) (l:=l) (a:=a) (m:=m) (b:=b) (s:=r) ⟨lo,hi,hb,am,mb,by rw[hlo,hmid],by rw[hhi,hmid],h1,h3,by rw[<-hmid];exact c1,by rw[<-hmid];exact c2⟩ s1 s2 e (by rw[he,hmid]);rw[<-hmid]at g2 g6 t2 t3 teq;have hlr:(bJ l r m e).length=l.length:=fw g3 g4 (by omega);refine rs ?_;rw[<-he];refine lA ⟨ao [(0,some (gs 0 cap l)),(1,some (.int .i64 (a:Nat))),(2,some (.int .i64 (m:Nat))),(3,some (.int .i64 (b:Nat))),(4,some kB),(18,some (.int .i64 (mid:Nat))),(20,some (.int .i64 (r:Nat))),(24,some (.int .i64 (e:Nat)))],wd [(0,some (ro 58 (bJ l r m e)))] 1 [] 0,[]⟩ ?_ ?_
 ·by_cases hgo:r<m/\m<e
  ·obtain⟨hg1,hg2⟩:=hgo;refine rs ?_;refine ct ?_;refine qb (jy (WD l r m e cap hg1 hg2 (by omega) hn)) ?_;exact bL
  have hsame:bJ l r m e=l:=by
   by_cases e1:r=m
   ·subst e1;exact m7 (by omega) (by omega)
   have e2:e=m:=by omega
   rw[e2];exact qi (by omega) (by omega)
  rw[hsame];by_cases e1:r<m<;>(
   refine rs ?_;refine cf ?_;exact ap bL)
 generalize bJ l r m e=R at t1 t2 t3 t4 teq hlr ⊢;have hl2:(bB au R a mid).length=l.length:=by rw[dx (by omega) (by omega),hlr]
 have t3':bV au (dY (bB au R a mid) mid e):=by rw[mq (by omega) (by omega) (.inr (Nat.le_refl _))];exact t3
 have t4':bV au (dY (bB au R a mid) e b):=by rw[mq (by omega) (by omega) (.inr g6)];exact t4
 refine lA ⟨ao [(0,some (gs 0 cap l)),(1,some (.int .i64 (a:Nat))),(2,some (.int .i64 (m:Nat))),(3,some (.int .i64 (b:Nat))),(4,some kB),(18,some (.int .i64 (mid:Nat))),(20,some (.int .i64 (r:Nat))),(24,some (.int .i64 (e:Nat)))],wd [(0,some (ro 58 (bB au R a mid)))] 1 [] 0,[]⟩ ?_ ?_
 ·by_cases e1:a<r
  ·by_cases e2:r<mid
   ·refine rs ?_;refine ct ?_;refine qb (jy (ih R a r mid cap ⟨e1,e2,by omega,by omega,t1,t2⟩ (by omega))) ?_;exact bL
   rw[gM (by omega) (by omega) (by rw[<-show r=mid by omega];exact t1)];refine rs ?_;refine cf ?_;exact ap bL
  rw[gM (by omega) (by omega) (by rw[show r=a by omega]at t2;exact t2)];refine rs ?_;refine cf ?_;exact ap bL
 generalize bB au R a mid=S at t3' t4' teq hl2 ⊢;rw[<-teq];by_cases e1:mid<e
 ·by_cases e2:e<b
  ·refine rs ?_;refine ct ?_;refine qb (jy (ih S mid e b cap ⟨e1,e2,by omega,by omega,t3',t4'⟩ (by omega))) ?_;refine re ?_;exact⟨rfl,by simp(disch:=decide) only[ae,ab,aa]⟩
  rw[gM (by omega) (by omega) (by rw[<-show e=b by omega];exact t3')];refine rs ?_;refine cf ?_;refine ap (re ?_);exact⟨rfl,by simp(disch:=decide) only[ae,ab,aa]⟩
 rw[gM (by omega) (by omega) (by rw[show e=mid by omega]at t4';exact t4')];refine rs ?_;refine cf ?_;refine ap (re ?_);exact⟨rfl,by simp(disch:=decide) only[ae,ab,aa]⟩
theorem zU:∀(n:Nat) (l:List Ce) (a m b cap:Nat),KH l a m b->b-a<n->Ee l a m b cap
 |0,l,a,m,b,cap,hg,h=>by omega
 |n+1,l,a,m,b,cap,hg,hN=>by
  by_cases h1:m=a+1
  ·exact aaU l a m b cap hg h1
  by_cases h2:b=m+1
  ·exact aa5 l a m b cap hg h1 h2
  exact aaO (zU n) l a m b cap hg hN h1 h2
set_option maxHeartbeats 2000000 in
theorem Te(l0:List Ce)(cap:Nat)(hn:l0.length<=1000000):Fw Tryz.prog 117 [.int .i64 (l0.length:Nat),kB] 58 cap l0 (.tuple #[]) (bO au l0):=by
 obtain⟨n,hnl⟩:∃n,n=l0.length:=⟨_,rfl⟩;refine oq Tryz.func117 Tryz.results117 (h:=?_);rw[<-hnl];refine rs ?_;refine rs ?_;refine ai ?_;refine fo (fun x:Nat×List Ce=>⟨ao [(0,some (gs 0 cap l0)),(1,some (.int .i64 (n:Nat))),(2,some kB),(6,some (.int .i64 ((20:Nat):Int))),(7,some (.int .i64 (x.1:Nat))),(8,some (.int .i64 ((x.1+20:Nat):Int)))],wd [(0,some (ro 58 x.2))] 1 [] 0,[]⟩) (fun x=>x.2.length=n/\x.1<=n/\Nonempty (zy au 20 l0 x.2 x.1)) (fun x=>n-x.1) (0,l0) ⟨hnl.symm,abW _,yz l0⟩ (fun x hv h=>?_) (fun x hv h=>?_)
 ·obtain⟨a,l⟩:=x;obtain⟨hl,ha,hb⟩:=hv;simp only at h hl ha hb;refine aK ?_;refine rc (jy (Gp l a (a+20) cap (by omega) (by omega) (by omega))) ?_;refine rs ?_;refine rl ?_;exact nx (a+20,bB au l a (a+20)) ⟨by dsimp only;rw[dx (by omega) (by omega),hl],by dsimp only;omega,hb.elim fun h=>AQ h (by omega)⟩ (by dsimp only;omega)
 obtain⟨a,l⟩:=x;obtain⟨hl,ha,hb⟩:=hv;simp only at h hl ha hb;have hch:gl au 20 (bB au l a n)/\∀k,fk au k (bB au l a n)=fk au k l0:=hb.elim fun h=>by
  rw[<-hl];exact DY h (by omega)
 have hsl:(bB au l a n).length=n:=by rw[dx (by omega) (by omega),hl]
 refine rc (jy (Gp l a n cap (by omega) (by omega) (by omega))) ?_;generalize bB au l a n=R at hch hsl ⊢;clear h hb ha hl;refine fo (fun x:Nat×List Ce=>⟨ao [(0,some (gs 0 cap l0)),(1,some (.int .i64 (n:Nat))),(2,some kB),(6,some (.int .i64 (x.1:Nat)))],wd [(0,some (ro 58 x.2))] 1 [] 0,[]⟩)
  (fun x=>x.2.length=n/\0<x.1/\(x.1=20\/x.1<=2*n)/\gl au x.1 x.2/\∀k,fk au k x.2=fk au k l0) (fun x=>n-x.1) (20,R) ⟨hsl,by dsimp only;omega,.inl rfl,hch.1,hch.2⟩ (fun x hv h=>?_) (fun x hv h=>?_)
 ·clear hch hsl;obtain⟨bs,l⟩:=x;obtain⟨hl,hp,hb,hc,hf⟩:=hv;simp only at h hl hp hb hc hf;refine aK (rs ?_);refine ai ?_;refine fo (fun x:Nat×List Ce=>⟨ao [(0,some (gs 0 cap l0)),(1,some (.int .i64 (n:Nat))),(2,some kB),(6,some (.int .i64 (bs:Nat))),(7,some (.int .i64 (x.1:Nat))),(8,some (.int .i64 ((x.1+2*bs:Nat):Int)))],wd [(0,some (ro 58 x.2))] 1 [] 0,[]⟩)
   (fun x=>x.2.length=n/\x.1<=n/\Nonempty (Ep au (2*bs) bs l0 x.2 x.1)) (fun x=>n-x.1) (0,l) ⟨hl,abW _,A4 (2*bs) hc hf⟩ (fun x hv h=>?_) (fun x hv h=>?_) (h0:=by simp only[Nat.zero_add];exact bL)
  ·obtain⟨a,r⟩:=x;obtain⟨hl,ha,hk⟩:=hv;simp only at h hl ha hk;obtain⟨s1,s2,h'⟩:=hk.elim fun h=>ER h hp (by omega)
   refine aK ?_;refine rc (jy (zU (2*bs+1) r a (a+bs) (a+2*bs) cap ⟨by omega,by omega,by omega,by omega,s1,s2⟩ (by omega))) ?_;refine rs ?_;refine rl ?_;exact nx (a+2*bs,bB au r a (a+2*bs)) ⟨by dsimp only;rw[dx (by omega) (by omega),hl],by dsimp only;omega,h'⟩ (by dsimp only;omega)
  obtain⟨a,r⟩:=x;obtain⟨hl,ha,hk⟩:=hv;simp only at h hl ha hk;obtain⟨R,hRl,hRc,hRf,hRe⟩:∃R,R.length=n/\gl au (2*bs) R/\(∀k,fk au k R=fk au k l0)/\(a+bs<n->bV au (dY r a (a+bs))/\bV au (dY r (a+bs) n)/\R=bB au r a n)/\(n<=a+bs->R=r):=by
   rcases ab8 (a+bs) n with q|q
   ·obtain⟨t1,t2,t3,t4⟩:=hk.elim fun h=>C6 h (by omega) (by omega)
    rw[hl]at t2 t3 t4;exact⟨_,by rw[dx (by omega) (by omega),hl],t3,t4,fun _=>⟨t1,t2,rfl⟩,fun w=>by omega⟩
   obtain⟨t3,t4⟩:=hk.elim fun h=>G4 h (by omega)
   exact⟨r,hl,t3,t4,fun w=>by omega,fun _=>rfl⟩
  refine lA ⟨ao [(0,some (gs 0 cap l0)),(1,some (.int .i64 (n:Nat))),(2,some kB),(6,some (.int .i64 (bs:Nat)))],wd [(0,some (ro 58 R))] 1 [] 0,[]⟩ ?_ ?_
  ·by_cases q:a+bs<n
   ·obtain⟨t1,t2,rfl⟩:=hRe.1 q;refine rs ?_;refine rs ?_;refine ct ?_;refine qb (jy (zU (n+1) r a (a+bs) n cap ⟨by omega,by omega,by omega,by omega,t1,t2⟩ (by omega))) ?_;exact bL
   obtain rfl:=hRe.2 (by omega);refine rs ?_;refine rs ?_;refine cf ?_;exact ap bL
  refine rl ?_;exact nx (bs*2,R) ⟨hRl,by dsimp only;omega,.inr (by dsimp only;omega),by dsimp only;rw[Nat.mul_comm];exact hRc,hRf⟩ (by dsimp only;omega)
 obtain⟨bs,l⟩:=x;obtain⟨hl,hp,hb,hc,hf⟩:=hv;simp only at h hl hp hb hc hf;refine re ?_;rw[<-DM hc hf (by omega)];exact⟨rfl,by simp(disch:=decide) only[ae,ab,aa]⟩
theorem Ro(l:List Ce)(cap:Nat)(hn:l.length<=1000000):Fw Tryz.prog 101 [kB] 58 cap l (.tuple #[]) (bO au l):=by
 refine oq Tryz.func101 Tryz.results101 (h:=?_);refine qb (jy (Te l cap hn)) ?_;refine re ?_;exact⟨rfl,by simp(disch:=decide) only[ae,ab,aa]⟩
section
variable {P:Program} {H:ci} {N k:Nat} {all:Array Oper} {l:List Oper} {o:Oper} {s s1:XS} {Q:XQ}
theorem yg{t et ty:TypeId}{x y:Operand}{c:List Value}{n:Nat}(hw:gQ all s.fr o=some true)(hop:o.op=.binOp .eql t x y ty)(hu:P.underlying t=some (.slice et))(hx:ev s.fr x=some (FZ c n))(hy:ev s.fr y=some (.slice none 0 0))
 (q:∀b:Bool,(b=true->c=[]/\n=0)->∃fr',cw N s.fr o.dst (some (.bool b))=some fr'/\jm P N k all l ⟨fr',s.W,s.ds⟩ Q):jm P N k all (o::l) s Q:=fun m ρ0 W0 w0 a w h0 h1 hc=>by
 obtain⟨ρ,⟨g1,g2,g3,g4⟩,g5,g6⟩:=hc;refine wpListIn_step fun K hK=>?_
 rw[if_pos (jJ g3 hw)];refine⟨fun _ _=>trivial,?_⟩;rw[show o.semAt Fence.wide.round a.eval=execOp a.eval o from rfl];have hye:=(g3.ev y _ hy).of_flat 1 rfl;have key:∀(a0:Option Addr) (l0 k0:Nat),a.eval x=.slice a0 l0 k0->(execOp a.eval o).run P w=.ok (.value (.bool a0.isNone)) w:=fun a0 l0 k0 e=>by
  have h3:(Op.equal t (.slice a0 l0 k0) (.slice none 0 0)).run P w=.ok a0.isNone w:=by unfold Op.equal Op.maxDepth;rw[Op.equalIn,abU,aI hu];cases a0<;>rfl
  have h4:(eqGuard .eql t x y (.slice a0 l0 k0) (.slice none 0 0)).run P w=.ok () w:=rfl;have h5:=(AX (P:=P) (x:=.slice a0 l0 k0) rfl h3).1;unfold execOp;rw[hop];show(do pure (Next.value (<-(do eqGuard .eql t x y (a.eval x) (a.eval y);Go.binOp .eql t (a.eval x) (a.eval y)))):Sem _).run P w=_;rw[e,hye,abU,abU,h4];show((Go.binOp .eql t (.slice a0 l0 k0) (.slice none 0 0)).run P w).andThen _=_;rw[h5];rfl
 obtain⟨_,_,⟨b,off,cap,c',e',f',_,_,e,_⟩|⟨e1,e2,a0,cap,e⟩⟩:=VR.fzInv (cs:=c.toArray) (g3.ev x _ hx)
 ·rw[key _ _ _ e,Oper.uponIn_value];obtain⟨fr',hp,hq⟩:=q false (fun h=>by cases h);exact hK _ _ (hq m ρ0 W0 w0 _ _ h0 h1 ⟨ρ,⟨g1,g2,FR.putT g3 (fun x e=>by cases e;exact .flat 1 _ rfl) hp,by rw[cE];exact g4⟩,g5,trivial⟩)
 rw[key _ _ _ e,Oper.uponIn_value];obtain⟨fr',hp,hq⟩:=q a0.isNone (fun _=>⟨by simpa using congrArg Array.toList e1,e2⟩);exact hK _ _ (hq m ρ0 W0 w0 _ _ h0 h1 ⟨ρ,⟨g1,g2,FR.putT g3 (fun x e=>by cases e;exact .flat 1 _ rfl) hp,by rw[cE];exact g4⟩,g5,trivial⟩)
end
section
variable {α:Type} [El α] {P:Program} {W:XW} {e:TypeId} {b cap i off m:Nat} {l:List α}
def Pm(m b i off:Nat):Value:=.pointer (some ⟨b,i*m+off,none⟩)
def Lm(P:Program)(e:TypeId)(m i off:Nat):Option ah->Option Value
 |some (.cells c _ _)=>gA P e c (i*m+off)
 |_=>none
def Kg(W:XW)(b m i off:Nat)(v:Value)(s:Nat)(_:Option ah):Option XR:=vq W (some (Pm m b i off)) (some v) (some s)
def NH(m b i d:Nat):Option Nat->Option XR
 |some (_+1)=>val (Pm m b i d)
 |_=>none
def X8(P:Program)(m b i:Nat):Option Field->Option XR
 |some fd=>NH m b i fd.offset (sz P fd.type)
 |none=>none
theorem T9:jB P W e (Pm m b i off)=Lm P e m i off (W.get b):=by
 show(match W.get b with
  |some (.cells c _ _)=>gA P e c (i*m+off)
  |_=>none)=_
 cases W.get b with
 |none=>rfl
 |some o=>cases o<;>rfl
theorem Vs{s:Nat}{v:Value}:vq W (some (Pm m b i off)) (some v) (some s)=Kg W b m i off v s (W.get b):=rfl
theorem XC{f:Nat}{fs:Array Field}:sR P f (some (.struct fs)) (some (ep m b i))=X8 P m b i fs[f]?:=by
 show yS P b (i*m) fs[f]?=_;cases fs[f]? with
 |none=>rfl
 |some fd=>
  show I7 b (i*m) fd.offset (sz P fd.type)=NH m b i fd.offset (sz P fd.type);cases sz P fd.type with
  |none=>rfl
  |some n=>cases n<;>rfl
theorem TZ[Inhabited α](h:i<l.length)(ho:off<El.m α):(l.flatMap El.enc)[i*El.m α+off]?=(El.enc (l.getD i default))[off]?:=by
 rw[<-BT h,acw,if_pos ho,acC]
theorem YX[Inhabited α]{v:Value}{y:α}(h:i<l.length)(ho:off<El.m α)(hy:El.enc y=(El.enc (l.getD i default)).set off v):wr (l.flatMap El.enc) (i*El.m α+off) [v]=(l.set i y).flatMap El.enc:=by
 have hl:(wr (l.flatMap El.enc) (i*El.m α+off) [v])=(l.flatMap El.enc).set (i*El.m α+off) v:=by
  unfold wr;rw[List.set_eq_take_append_cons_drop,if_pos (by
   rw[gL];have:(i+1)*El.m α<=l.length*El.m α:=acL _ h;rw[acM]at this;omega)]
  rfl
 rw[hl,<-KP h];have e1:=BT h;have hlen:i*El.m α+El.m α<=(l.flatMap El.enc).length:=by rw[gL];have:(i+1)*El.m α<=l.length*El.m α:=acL _ h;rw[acM]at this;exact this
 generalize l.flatMap El.enc=c at e1 hlen ⊢;unfold wr;rw[hy,<-e1];have hc:c=c.take (i*El.m α)++((c.drop (i*El.m α)).take (El.m α)++c.drop (i*El.m α+El.m α)):=by rw[<-acG,adh,adh]
 have h1:(c.take (i*El.m α)).length=i*El.m α:=by rw[abR];omega
 have h2:((c.drop (i*El.m α)).take (El.m α)).length=El.m α:=by rw[abR,abT];omega
 rw[abX,h2]
 conv=>lhs;rw[hc]
 rw[adg _ _ (by omega),h1,Nat.add_sub_cancel_left,List.set_append_left _ _ (by omega)]
theorem CX[Inhabited α]{e':TypeId}{v:Value}(hm:m=El.m α)(h:i<l.length)(ha:bH P e=some false)(ho:off<El.m α)(hv:(El.enc (l.getD i default))[off]?=some v):Lm P e m i off (some (ro e' l))=some v:=by
 subst hm;show gA P e (l.flatMap El.enc) (i*El.m α+off)=_;unfold gA;rw[ha];simp only;rw[TZ h ho,hv]
theorem Cc[Inhabited α]{v:Value}{s:Nat}{y:α}(hg:W.get b=some (ro e l))(h:i<l.length)(ho:off<El.m α)(hm:m=El.m α)(hs:s=1)(hv:v.cells=#[v])(h1:dr v=true)(hy:El.enc y=(El.enc (l.getD i default)).set off v)(o:Option ah):Kg W b m i off v s o=some (.mod undef (W.put b (some (ro e (l.set i y))))):=by
 subst hs hm;show(bif Nat.beq v.cells.size 1 then mW undef (eI W b (i*El.m α+off) v.cells.toList)else none)=_;rw[hv];show mW undef (eI W b (i*El.m α+off) [v])=_;unfold eI;rw[hg];show mW undef (bif Nat.ble (i*El.m α+off+1) (l.flatMap El.enc).length&&!nX (0,0) _ _&&([v].all dr)then some (W.put b (some (.cells (wr (l.flatMap El.enc) (i*El.m α+off) [v]) e (0,0))))else none)=_;rw[gL,ox (by
  have:(i+1)*El.m α<=l.length*El.m α:=acL _ h;rw[acM]at this;omega),YX h ho hy]
 simp only[List.all_cons,List.all_nil,h1];rfl
end
attribute [go_sem high] T9 Vs XC
attribute [go_sem] X8.eq_1 NH.eq_1
theorem Uo{e':TypeId}{m i:Nat}{l:List Ce}(hm:m=3)(h:i<l.length):Lm Tryz.prog 3 m i 0 (some (ro e' l))=some (.int .i64 (l.getD i default).id):=CX hm h NO (by decide) rfl
theorem Qu{e':TypeId}{m i:Nat}{l:List Ce}(hm:m=3)(h:i<l.length):Lm Tryz.prog 3 m i 1 (some (ro e' l))=some (.int .i64 (l.getD i default).dim):=CX hm h NO (by decide) rfl
theorem UX{e':TypeId}{m i:Nat}{l:List Ce}(hm:m=3)(h:i<l.length):Lm Tryz.prog 56 m i 2 (some (ro e' l))=some (sl (l.getD i default).sd):=CX hm h PD (by decide) rfl
theorem Wn{W:XW}{e:TypeId}{b i s m:Nat}{l:List Ce}{y:Int}(hg:W.get b=some (ro e l))(h:i<l.length)(hm:m=3)(hs:s=1):Kg W b m i 0 (.int .i64 y) s (some (ro e l))=some (.mod undef (W.put b (some (ro e (l.set i ⟨y,(l.getD i default).dim,(l.getD i default).sd⟩))))):=Cc hg h (by decide) hm hs rfl rfl rfl _
theorem QA{W:XW}{e:TypeId}{b i s m:Nat}{l:List Ce}{y:Int}(hg:W.get b=some (ro e l))(h:i<l.length)(hm:m=3)(hs:s=1):Kg W b m i 1 (.int .i64 y) s (some (ro e l))=some (.mod undef (W.put b (some (ro e (l.set i ⟨(l.getD i default).id,y,(l.getD i default).sd⟩))))):=Cc hg h (by decide) hm hs rfl rfl rfl _
theorem US{W:XW}{e:TypeId}{b i s m:Nat}{l:List Ce}{y:List Sd}(hg:W.get b=some (ro e l))(h:i<l.length)(hm:m=3)(hs:s=1):Kg W b m i 2 (sl y) s (some (ro e l))=some (.mod undef (W.put b (some (ro e (l.set i ⟨(l.getD i default).id,(l.getD i default).dim,y⟩))))):=Cc hg h (by decide) hm hs rfl rfl rfl _
attribute [go_sem] Uo Qu UX Wn QA US
section
variable {P:Program} {k:Nat} {F F':List (Nat×Option Value)} {L L':List (Nat×Option ah)} {n n' nl nl':Nat} {lg lg':List Nat}
theorem Kr{n:Nat}{c:List Value}:TV (dL n c) (.pointer (some ⟨n,0,none⟩)) (FP c):=by
 have h:=II (n:=n) (o:=0) (q:=c.length) (c:=c);rwa [List.drop_zero,List.take_length]at h
theorem xS(x:Nat){c:List Value}{e:TypeId}{fr:Nat×Nat}(hx:lk L x=some (.cells c e fr):=by repeat (first|exact ab|refine Eq.trans (aa (by decide)) ?_))(hn:x<n:=by decide)(hn2:x<16383:=by decide)
 (hF:cY (dL x c) F F':=by
  try dsimp only
  repeat' (first|exact di|refine bR (by decide) (by repeat (first|exact ab|refine Eq.trans (aa (by decide)) ?_)) (by first|exact gJ|exact Kr|exact s8 rfl (by first|rfl|simp) (by simp only[abP,List.length_cons,List.length_nil,abR,abT,aq,bf]<;>omega)) ?_))
 (hL:jt P x c n L L':=by
  try dsimp only
  repeat' (first|exact D5|exact Ae|refine zG (by decide) (by decide) (by decide) (by repeat (first|exact ab|refine Eq.trans (aa (by decide)) ?_)) (by first|exact rB|(refine cm ?_;repeat (first|exact aR|refine av (by first|exact gJ|exact Kr|exact s8 rfl (by first|rfl|simp) (by simp only[abP,List.length_cons,List.length_nil,abR,abT,aq,bf]<;>omega)) ?_))) ?_)) (hnn:n<=n':=by decide) :
 bz P k ⟨ao F,wd L n lg nl,[]⟩ ⟨ao F',wd L' n' lg' nl',[]⟩:=fz x hx hn hn2 hF hL hnn
theorem yv{T:RT}{b:Nat}{α:Type}:TV T (.slice none 0 0) (gs b aq ([]:List α)):=fun ρ ρ' x ht h=>by rw[h.of_flat 1 rfl];exact .sliceN _ _
theorem uG(R:List (Nat×Nat)){R1 R2:List (Nat×Option Nat)}(e1:R.map (fun p=>(p.1,some p.2))=R1:=by simp only[ack,acI]<;>rfl)(e2:R.map (fun p=>(p.2,some p.1))=R2:=by simp only[ack,acI]<;>rfl)
 (hR:ke k n' R2 R1=true:=by decide) (hRi:∀p∈R2,p.1<n':=by decide) (hk:k<=n':=by decide)
 (hF:cY (aP (lk R1)) F F':=by
  try dsimp only
  repeat' (first|exact di|refine bR (by decide) (by repeat (first|exact ab|refine Eq.trans (aa (by decide)) ?_)) (by first|exact ga (by decide) (by first|rfl|simp)|exact tv_gv (by decide) (by first|rfl|simp)|exact cC (by decide)|exact bI (by decide)|exact cI (by decide)|exact Br.h _ aj) ?_))
 (hL:gc P (aP (lk R1)) R1 n L L':=by
  try dsimp only
  repeat' (first|exact dP|exact kb|refine oN (by first|exact ab|exact ag ab (by decide)|exact ag (ag ab (by decide)) (by decide)|exact ag (ag (ag ab (by decide)) (by decide)) (by decide)|exact ag (ag (ag (ag ab (by decide)) (by decide)) (by decide)) (by decide)|exact ag (ag (ag (ag (ag ab (by decide)) (by decide)) (by decide)) (by decide)) (by decide)|exact ag (ag (ag (ag (ag (ag ab (by decide)) (by decide)) (by decide)) (by decide)) (by decide)) (by decide)) (by first|decide|omega) (by decide) (by repeat (first|exact ab|refine Eq.trans (aa (by decide)) ?_)) (by first|exact aT aj (aB b7.h)|exact aT aj jO.h|exact jf (by decide)|exact iy .nil|(refine cm ?_;repeat (first|exact aR|refine av (by first|exact yv|exact ga (by decide) (by first|rfl|simp)|exact tv_gv (by decide) (by first|rfl|simp)|exact cC (by decide)|exact bI (by decide)|exact cI (by decide)|exact Br.h _ aj) ?_))) ?_)) :
 bz P k ⟨ao F,wd L n lg nl,[]⟩ ⟨ao F',wd L' n' lg' nl',[]⟩:=fI R1 R2 hR hRi hk hF hL .nil
end
theorem lor{P:Program}[hM:kz P]{f:FuncId}{args:List Value}{S:aW->XW->Prop}{fn:Func}{c:Code}{F:List (Nat×Option Value)}{N:Nat}{R:Array ResultVar}(hf:P.funcs[f]?=some fn)(hR:fn.results=R)(hc:fn.body=some c:=by rfl)(hN:fn.ntmps=N:=by rfl)(hl:args.length<=fn.ntmps:=by exact Nat.le_of_ble_eq_true rfl)
 (hF:bk 0 args []=F:=by simp only[bk.eq_1,bk.eq_2,Nat.reduceAdd]<;>with_reducible rfl) (h:ar P N 0 c ⟨ao F,wd [] 0 [] 0,[]⟩ (qL P R.toList S)):bg P f args (wd [] 0 [] 0) S:=by
 subst hN hF hR;exact cH b0 hf hc hl (fu (fun ex s ⟨p,e',W',h1,h2,h3⟩=>⟨p,e',W',h1,by rw[<-lB];exact h2,h3⟩) h)
attribute [go_sem] EJ
theorem R4(l:List Ce)(hl:l.length<=1000000):Fr Tryz.prog 100 [sl l] 58 l:=by
 refine Pw Tryz.func100 Tryz.results100 (h:=?_);refine rs ?_;refine ai (ai (cT ?_));refine bF b0 1 (s1:=⟨ao [(3,some (sl l)),(2,some (.slice none 0 0)),(0,some (sl l))],wd [] 0 [] 0,[]⟩) (by simp(disch:=decide) only[go_sem]<;>with_reducible rfl) ?_;refine yg (c:=l.flatMap El.enc) (n:=l.length) (et:=58) (by simp(disch:=decide) only[go_sem]<;>with_reducible rfl) rfl (by simp(disch:=decide) only[go_sem]<;>with_reducible rfl) (by show _=some (sl l);simp(disch:=decide) only[go_sem]<;>with_reducible rfl) (by simp(disch:=decide) only[go_sem]<;>with_reducible rfl) (fun b hb=>⟨ao [(4,some (.bool b)),(3,some (sl l)),(2,some (.slice none 0 0)),(0,some (sl l))],by simp(disch:=decide) only[go_sem]<;>with_reducible rfl,dn ?_⟩);refine cb (fun h=>?_) (fun h=>?_)
 ·have e:l=[]:=ace (hb h).2;subst e;refine rs ?_;refine cv [(2,some (gs 9 aq ([]:List Ce)))] [(9,some (ro 58 ([]:List Ce)))] 10 ?_;refine rt ?_;exact⟨9,rfl,(ae (by decide) (by decide)).trans ab⟩
 refine sk (rs ?_);refine cv [(2,some (gs 1 aq l))] [(1,some (ro 58 l))] 2 ?_;refine rt ?_;exact⟨1,rfl,(ae (by decide) (by decide)).trans ab⟩
theorem SJ(l:List Ce)(hl:l.length<=1000000):Fr Tryz.prog 65 [sl l,Pr] 58 (bO au l):=by
 have hsl:(bO au l).length=l.length:=b8;refine Pw Tryz.func65 Tryz.results65 (h:=?_);refine rs ?_;refine rc (bh (xJ (R4 l hl))) ?_;refine cv [(3,some (FP [Pr])),(5,some (gs 1 aq l))] [(1,some (ro 58 l))] 2 ?_ (hl:=xS 0);refine rc (jy (Ro l aq hl)) ?_;refine cv [(5,some (gs 1 aq (bO au l)))] [(1,some (ro 58 (bO au l)))] 2 ?_;refine rs ?_;refine rt ?_;exact⟨1,rfl,by simp(disch:=decide) only[ae,ab,aa]⟩
def aC(x:Sd):Int:=x.1
abbrev Pf:Value:=.func (.func 68) #[] #[]
abbrev kx:Value:=.func (.func 106) #[] #[FP [Pf]]
theorem SI(x:Sd):Fn Tryz.prog 68 [Ls x] (.ret (.int .i64 (aC x))):=by
 refine fY Tryz.func68 Tryz.results68 (h:=?_);refine rs ?_;refine rs ?_;refine rt ?_;rfl
def sKD(a:List Value)(e:aW):Prop:=∃x:Sd,a=[Ls x]/\e=.ret (.int .i64 (aC x))
theorem SA:bS Tryz.prog 68 (tY sKD):=Cx (enters_of (by kernel_rfl)) fun a e ⟨x,h1,h2⟩=>by subst h1 h2;exact SI x
theorem SD{x:Sd}{W:XW}:tY sKD [Ls x] W=some (.ret (.int .i64 (aC x)),W):=EI ⟨x,rfl,rfl⟩ fun e' ⟨y,h2,h3⟩=>by
 simp only[List.cons.injEq,Value.agg.injEq,and_true]at h2;replace h2:=congrArg Array.toList h2;simp only[List.cons.injEq,Value.int.injEq,true_and,and_true]at h2;rw[h3];unfold aC;rw[h2.1]
attribute [go_sem] SD
theorem lJ(x y:Sd):Fn Tryz.prog 106 [Ls x,Ls y,FP [Pf]] (.ret (.int .i64 (kE (aC x) (aC y)))):=by
 refine fY Tryz.func106 Tryz.results106 (h:=?_);refine rs ?_;refine Hi (oZ SA (fj (Mc (aC x) (aC y)))) ?_;refine rt ?_;rfl
set_option maxHeartbeats 1000000 in
theorem G3(l:List Sd)(a b cap:Nat)(hab:a<=b)(hb:b<=l.length)(hn:l.length<=1000000):Fw Tryz.prog 141 [.int .i64 (a:Nat),.int .i64 (b:Nat),kx] 60 cap l (.tuple #[]) (bB aC l a b):=by
 refine oq Tryz.func141 Tryz.results141 (h:=?_);refine rs ?_;refine fo (fun i:Nat=>⟨ao [(0,some (gs 0 cap l)),(1,some (.int .i64 (a:Nat))),(2,some (.int .i64 (b:Nat))),(3,some kx),(8,some (.int .i64 (i:Nat)))],wd [(0,some (ro 60 (bB aC l a (min i b))))] 1 [] 0,[]⟩) (fun i=>a+1<=i/\(i<=b\/i=a+1)) (fun i=>b-i) (a+1) ⟨Nat.le_refl _,.inr rfl⟩ (fun i hv h=>?_) (fun i hv h=>?_) (h0:=by rw[xj (by omega) (by omega) (by omega)];exact bL)
 ·obtain⟨h1,h2⟩:=hv;rw[acO (by omega)];have hS:(bB aC l a i).length=l.length:=dx (by omega) (by omega);have hsrt:bV aC (dY (bB aC l a i) a i):=by rw[DN (by omega) (by omega)];exact gi
  have hnest:bB aC (bB aC l a i) a (i+1)=bB aC l a (i+1):=AD (by omega) (by omega) (by omega);generalize bB aC l a i=S at hS hsrt hnest ⊢;refine bs (rs ?_);refine aK ?_;refine lp (fun j:Nat=>⟨ao [(0,some (gs 0 cap l)),(1,some (.int .i64 (a:Nat))),(2,some (.int .i64 (b:Nat))),(3,some kx),(8,some (.int .i64 (i:Nat))),(9,some (.int .i64 (j:Nat)))],wd [(0,some (ro 60 (bJ S j i (i+1))))] 1 [] 0,[]⟩) (fun j=>a<=j/\j<=i/\(j=i\/bW aC S i<bW aC S j)) (fun j=>j) i ⟨by omega,Nat.le_refl _,.inl rfl⟩ (fun j hv=>?_) (h0:=by rw[m7 (by omega) (by omega)];exact bL);obtain⟨j1,j2,jc⟩:=hv;have hR:(bJ S j i (i+1)).length=l.length:=by rw[fw j2 (by omega) (by omega),hS]
  have g1:(bJ S j i (i+1)).getD j default=S.getD i default:=u5 (by rw[fv (l:=S) j2 (show i<=i+1 by omega) (by omega) j,if_neg (by omega),if_pos (by omega),show j+(i-j)=i by omega]);have hdone:¬(a<j/\bW aC S i<bW aC S (j-1))->bJ S j i (i+1)=bB aC S a (i+1):=fun q=>rO (by omega) j1 j2 hsrt (by omega) jc
  by_cases haj:a<j
  ·have g2:(bJ S j i (i+1)).getD (j-1) default=S.getD (j-1) default:=u5 (by rw[fv (l:=S) j2 (show i<=i+1 by omega) (by omega) (j-1),if_pos (by omega)]);have hdn:gN (bJ S j i (i+1)) j (j-1)=bJ S (j-1) i (i+1):=sW (by omega) j2 (by omega);by_cases hlt:bW aC S i<bW aC S (j-1)
   ·have hk:kE (aC ((bJ S j i (i+1)).getD j default)) (aC ((bJ S j i (i+1)).getD (j-1) default))<((0:Nat):Int):=by
     rw[g1,g2,<-ij (key:=aC) (by omega),<-ij (key:=aC) (by omega)];exact uT hlt
    generalize bJ S j i (i+1)=R at hR hdn hk ⊢;refine I9 hk (b1 (lJ (R.getD j default) (R.getD (j-1) default))) ?_;refine ct ?_;refine ap (bs (xA ?_));refine rl ?_;rw[nR (by omega) (by omega),hdn];exact nx (j-1) ⟨by omega,by omega,.inr hlt⟩
   have hk:¬kE (aC ((bJ S j i (i+1)).getD j default)) (aC ((bJ S j i (i+1)).getD (j-1) default))<((0:Nat):Int):=by rw[g1,g2,<-ij (key:=aC) (by omega),<-ij (key:=aC) (by omega)];exact vb hlt
   have hdone:=hdone fun q=>hlt q.2
   generalize bJ S j i (i+1)=R at hR hdn hk hdone ⊢;refine I9 hk (b1 (lJ (R.getD j default) (R.getD (j-1) default))) ?_;refine cf ?_;refine xe ?_;refine rl ?_;refine nx (i+1) ⟨by omega,.inl (by omega)⟩ (by omega) ?_;rw[hdone,hnest,acO (by omega)];exact bL
  have hdone:=hdone fun q=>haj q.1
  refine rD ?_;refine cf ?_;refine xe ?_;refine rl ?_;refine nx (i+1) ⟨by omega,.inl (by omega)⟩ (by omega) ?_;rw[hdone,hnest,acO (by omega)];exact bL
 rw[Nat.min_eq_right (by omega)];refine re ?_;exact⟨rfl,by simp(disch:=decide) only[ae,ab,aa]⟩
theorem ET(l:List Sd)(a b n cap:Nat)(h1:a+n<=b)(h2:b+n<=l.length)(hn:l.length<=1000000):Fw Tryz.prog 156 [.int .i64 (a:Nat),.int .i64 (b:Nat),.int .i64 (n:Nat),kx] 60 cap l (.tuple #[]) (i5 l a b n):=by
 refine oq Tryz.func156 Tryz.results156 (h:=?_);refine rs ?_;refine fo (fun i:Nat=>⟨ao [(0,some (gs 0 cap l)),(1,some (.int .i64 (a:Nat))),(2,some (.int .i64 (b:Nat))),(3,some (.int .i64 (n:Nat))),(10,some (.int .i64 (i:Nat)))],wd [(0,some (ro 60 (i5 l a b i)))] 1 [] 0,[]⟩) (fun i=>i<=n) (fun i=>n-i) 0 (abW _) (fun i hv h=>?_) (fun i hv h=>?_)
 ·have hR:(i5 l a b i).length=l.length:=e8 _;have hnx:i5 l a b (i+1)=gN (i5 l a b i) (a+i) (b+i):=rfl;generalize i5 l a b i=R at hR hnx ⊢;refine bs (xA ?_);refine rl ?_;rw[nR (by omega) (by omega)];refine nx (i+1) (by omega) (by omega) ?_;rw[hnx];exact bL
 refine re ?_;rw[show i=n by omega];exact⟨rfl,by simp(disch:=decide) only[ae,ab,aa]⟩
theorem TX(l:List Sd)(a m b cap:Nat)(h1:a<m)(h2:m<b)(h3:b<=l.length)(hn:l.length<=1000000):Fw Tryz.prog 152 [.int .i64 (a:Nat),.int .i64 (m:Nat),.int .i64 (b:Nat),kx] 60 cap l (.tuple #[]) (bJ l a m b):=by
 refine oq Tryz.func152 Tryz.results152 (h:=?_);refine rs ?_;refine rs ?_;refine ai ?_;refine fo (fun x:Nat×Nat×List Sd=>⟨ao [(0,some (gs 0 cap l)),(2,some (.int .i64 (m:Nat))),(4,some kx),(10,some (.int .i64 (x.1:Nat))),(11,some (.int .i64 (x.2.1:Nat)))],wd [(0,some (ro 60 x.2.2))] 1 [] 0,[]⟩)
  (fun x=>x.2.2.length=l.length/\0<x.1/\x.1<=m/\0<x.2.1/\m+x.2.1<=l.length/\bJ x.2.2 (m-x.1) m (m+x.2.1)=bJ l a m b) (fun x=>x.1+x.2.1) (m-a,b-m,l) ⟨rfl,by dsimp only;omega,by dsimp only;omega,by dsimp only;omega,by dsimp only;omega,by dsimp only;rw[show m-(m-a)=a by omega,show m+(b-m)=b by omega]⟩ (fun x hv h=>?_) (fun x hv h=>?_)
 ·obtain⟨i,j,r⟩:=x;obtain⟨hr,hi,him,hj,hjn,heq⟩:=hv;simp only at h hr hi him hj hjn heq;refine aK ?_;by_cases hlt:j<i
  ·refine rs ?_;refine ct ?_;refine rc (jy (ET r (m-i) m j cap (by omega) (by omega) (by omega))) ?_;refine rl ?_;exact nx (i-j,j,i5 r (m-i) m j) ⟨(e8 _).trans hr,by dsimp only;omega,by dsimp only;omega,hj,hjn,by dsimp only;rw[Lx him (by omega) hlt,heq]⟩
  refine rs ?_;refine cf ?_;refine rc (jy (ET r (m-i) (m+j-i) i cap (by omega) (by omega) (by omega))) ?_;refine rl ?_;exact nx (i,j-i,i5 r (m-i) (m+j-i) i) ⟨(e8 _).trans hr,hi,him,by dsimp only;omega,by dsimp only;omega,by dsimp only;rw[Lg him (by omega) (by omega),heq]⟩
 obtain⟨i,j,r⟩:=x;obtain⟨hr,hi,him,hj,hjn,heq⟩:=hv;simp only at h hr hi him hj hjn heq;have e:j=i:=by omega
 subst e;refine qb (jy (ET r (m-j) m j cap (by omega) (by omega) (by omega))) ?_;refine re ?_;rw[<-heq,<-KV him (by omega)];exact⟨rfl,by simp(disch:=decide) only[ae,ab,aa]⟩
structure J0(l:List Sd)(a m b:Nat):Prop where
 am:a<m
 mb:m<b
 hb:b<=l.length
 hn:l.length<=1000000
 s1:bV aC (dY l a m)
 s2:bV aC (dY l m b)
abbrev BZ(l:List Sd)(a m b cap:Nat):Prop:=Fw Tryz.prog 142 [.int .i64 (a:Nat),.int .i64 (m:Nat),.int .i64 (b:Nat),kx] 60 cap l (.tuple #[]) (bB aC l a b)
theorem D7{l:List Sd}{i j:Nat}(hi:i<l.length)(hj:j<l.length)(h:bW aC l i<bW aC l j):kE (aC (l.getD i default)) (aC (l.getD j default))<((0:Nat):Int):=by
 rw[<-ij (key:=aC) hi,<-ij (key:=aC) hj];exact uT h
theorem CR{l:List Sd}{i j:Nat}(hi:i<l.length)(hj:j<l.length)(h:¬bW aC l i<bW aC l j):¬kE (aC (l.getD i default)) (aC (l.getD j default))<((0:Nat):Int):=by
 rw[<-ij (key:=aC) hi,<-ij (key:=aC) hj];exact vb h
theorem abq(l:List Sd)(a m b cap:Nat)(hg:J0 l a m b)(hm:m=a+1):BZ l a m b cap:=by
 obtain⟨am,mb,hb,hn,s1,s2⟩:=hg;subst hm;refine oq Tryz.func142 Tryz.results142 (h:=?_);refine rS ?_;refine ct ?_;refine rs ?_;refine rs ?_;refine ai ?_;refine fo (fun x:Nat×Nat=>⟨ao [(0,some (gs 0 cap l)),(1,some (.int .i64 (a:Nat))),(4,some kx),(10,some (.int .i64 (x.1:Nat))),(11,some (.int .i64 (x.2:Nat)))],wd [(0,some (ro 60 l))] 1 [] 0,[]⟩)
  (fun x=>a+1<=x.1/\x.1<=x.2/\x.2<=b/\(x.1=a+1\/bW aC l (x.1-1)<bW aC l a)/\(x.2=b\/bW aC l a<=bW aC l x.2)) (fun x=>x.2-x.1) (a+1,b) ⟨Nat.le_refl _,by dsimp only;omega,Nat.le_refl _,.inl rfl,.inl rfl⟩ (fun x hv h=>?_) (fun x hv h=>?_)
 ·obtain⟨i,j⟩:=x;obtain⟨h1,h2,h3,c1,c2⟩:=hv;simp only at h h1 h2 h3 c1 c2;refine aK (rs ?_);by_cases hc:bW aC l ((i+j)/2)<bW aC l a
  ·refine kT (D7 (by omega) (by omega) hc) (b1 (lJ (l.getD ((i+j)/2) default) (l.getD a default))) ?_;refine ct ?_;refine rl ?_;exact nx ((i+j)/2+1,j) ⟨by dsimp only;omega,by dsimp only;omega,h3,.inr (by dsimp only;rw[acQ];exact hc),c2⟩
  refine kT (CR (by omega) (by omega) hc) (b1 (lJ (l.getD ((i+j)/2) default) (l.getD a default))) ?_;refine cf ?_;refine rl ?_;exact nx (i,(i+j)/2) ⟨h1,by dsimp only;omega,by dsimp only;omega,c1,.inr (by dsimp only;omega)⟩
 obtain⟨i,j⟩:=x;obtain⟨h1,h2,h3,c1,c2⟩:=hv;simp only at h h1 h2 h3 c1 c2;have e:j=i:=by omega
 subst e;refine rS ?_;refine fo (fun k:Nat=>⟨ao [(0,some (gs 0 cap l)),(1,some (.int .i64 (a:Nat))),(4,some kx),(10,some (.int .i64 (j:Nat))),(13,some (.int .i64 (k:Nat)))],wd [(0,some (ro 60 (bJ l a (a+1) (k+1))))] 1 [] 0,[]⟩) (fun k=>a<=k/\k+1<=j) (fun k=>j-k) a ⟨Nat.le_refl _,h1⟩ (fun k hv h=>?_) (fun k hv h=>?_) (h0:=by rw[qi (by omega) (by omega)];exact bL)
 ·have hR:(bJ l a (a+1) (k+1)).length=l.length:=fw (by omega) (by omega) (by omega);have hup:gN (bJ l a (a+1) (k+1)) k (k+1)=bJ l a (a+1) (k+2):=Kz hv.1 (by omega);generalize bJ l a (a+1) (k+1)=R at hR hup ⊢;refine bs (xA ?_);refine rl ?_;rw[nR (by omega) (by omega),hup];exact nx (k+1) ⟨by omega,by omega⟩
 have e:k+1=j:=by omega
 rw[e,ML hb h1 h3 s2 c1 c2];refine rt ?_;exact⟨rfl,by simp(disch:=decide) only[ae,ab,aa]⟩
theorem aaY(l:List Sd)(a m b cap:Nat)(hg:J0 l a m b)(hm0:m≠a+1)(hm:b=m+1):BZ l a m b cap:=by
 obtain⟨am,mb,hb,hn,s1,s2⟩:=hg;subst hm;refine oq Tryz.func142 Tryz.results142 (h:=?_);refine rS ?_;refine cf ?_;refine sk (rS ?_);refine ct ?_;refine rs ?_;refine rs ?_;refine ai ?_;refine fo (fun x:Nat×Nat=>⟨ao [(0,some (gs 0 cap l)),(2,some (.int .i64 (m:Nat))),(4,some kx),(14,some (.int .i64 (x.1:Nat))),(15,some (.int .i64 (x.2:Nat)))],wd [(0,some (ro 60 l))] 1 [] 0,[]⟩)
  (fun x=>a<=x.1/\x.1<=x.2/\x.2<=m/\(x.1=a\/bW aC l (x.1-1)<=bW aC l m)/\(x.2=m\/bW aC l m<bW aC l x.2)) (fun x=>x.2-x.1) (a,m) ⟨Nat.le_refl _,by dsimp only;omega,Nat.le_refl _,.inl rfl,.inl rfl⟩ (fun x hv h=>?_) (fun x hv h=>?_)
 ·obtain⟨i,j⟩:=x;obtain⟨h1,h2,h3,c1,c2⟩:=hv;simp only at h h1 h2 h3 c1 c2;refine aK (rs ?_);by_cases hc:bW aC l m<bW aC l ((i+j)/2)
  ·refine kT (D7 (by omega) (by omega) hc) (b1 (lJ (l.getD m default) (l.getD ((i+j)/2) default))) ?_;refine cf ?_;refine rl ?_;exact nx (i,(i+j)/2) ⟨h1,by dsimp only;omega,by dsimp only;omega,c1,.inr hc⟩
  refine kT (CR (by omega) (by omega) hc) (b1 (lJ (l.getD m default) (l.getD ((i+j)/2) default))) ?_;refine ct ?_;refine rl ?_;exact nx ((i+j)/2+1,j) ⟨by dsimp only;omega,by dsimp only;omega,h3,.inr (by dsimp only;rw[acQ];omega),c2⟩
 obtain⟨i,j⟩:=x;obtain⟨h1,h2,h3,c1,c2⟩:=hv;simp only at h h1 h2 h3 c1 c2;have e:j=i:=by omega
 subst e;refine rS ?_;refine fo (fun k:Nat=>⟨ao [(0,some (gs 0 cap l)),(2,some (.int .i64 (m:Nat))),(4,some kx),(14,some (.int .i64 (j:Nat))),(17,some (.int .i64 (k:Nat)))],wd [(0,some (ro 60 (bJ l k m (m+1))))] 1 [] 0,[]⟩) (fun k=>j<=k/\k<=m) (fun k=>k) m ⟨h3,Nat.le_refl _⟩ (fun k hv h=>?_) (fun k hv h=>?_) (h0:=by rw[m7 (by omega) (by omega)];exact bL)
 ·have hR:(bJ l k m (m+1)).length=l.length:=fw (by omega) (by omega) (by omega);have hdn:gN (bJ l k m (m+1)) k (k-1)=bJ l (k-1) m (m+1):=sW (by omega) hv.2 (by omega);generalize bJ l k m (m+1)=R at hR hdn ⊢;refine bs (xA ?_);refine rl ?_;rw[nR (by omega) (by omega),hdn];exact nx (k-1) ⟨by omega,by omega⟩
 have e:k=j:=by omega
 rw[e,rO hb h1 h3 s1 c1 c2];refine rt ?_;exact⟨rfl,by simp(disch:=decide) only[ae,ab,aa]⟩
set_option maxHeartbeats 2000000 in
theorem aaL{n:Nat}(ih:∀(l:List Sd) (a m b cap:Nat),J0 l a m b->b-a<n->BZ l a m b cap)(l:List Sd)(a m b cap:Nat)(hg:J0 l a m b)(hN:b-a<n+1)(hm1:m≠a+1)(hm2:b≠m+1):BZ l a m b cap:=by
 obtain⟨am,mb,hb,hn,s1,s2⟩:=hg;refine oq Tryz.func142 Tryz.results142 (h:=?_);refine rS ?_;refine cf ?_;refine sk (rS ?_);refine cf ?_;refine sk ?_;obtain⟨mid,hmid⟩:∃mid,mid=(a+b)/2:=⟨_,rfl⟩;obtain⟨lo,hlo⟩:∃lo,lo=if mid<m then mid+m-b else a:=⟨_,rfl⟩
 obtain⟨hi,hhi⟩:∃hi,hi=if mid<m then mid else m:=⟨_,rfl⟩
 have b1':a<=lo:=by split at hlo<;>omega
 have b2':lo<=hi:=by split at hlo<;>split at hhi<;>omega
 have b3':hi<=mid:=by split at hhi<;>omega
 have b4':hi<=m:=by split at hhi<;>omega
 have b5':mid+m<=b+lo:=by split at hlo<;>omega
 refine rs ?_;refine cv [(0,some (gs 0 cap l)),(1,some (.int .i64 (a:Nat))),(2,some (.int .i64 (m:Nat))),(3,some (.int .i64 (b:Nat))),(4,some kx),(18,some (.int .i64 (mid:Nat)))] [(0,some (ro 60 l))] 1 ?_;refine rs ?_;refine rs ?_;refine lA ⟨ao [(0,some (gs 0 cap l)),(1,some (.int .i64 (a:Nat))),(2,some (.int .i64 (m:Nat))),(3,some (.int .i64 (b:Nat))),(4,some kx),(18,some (.int .i64 (mid:Nat))),(19,some (.int .i64 ((mid+m:Nat):Int))),(20,some (.int .i64 (lo:Nat))),(21,some (.int .i64 (hi:Nat)))],wd [(0,some (ro 60 l))] 1 [] 0,[]⟩ ?_ ?_
 ·by_cases hmm:mid<m
  ·rw[hlo,if_pos hmm,hhi,if_pos hmm];refine rs ?_;refine ct ?_;refine rs ?_;refine rl ?_;exact bL
  rw[hlo,if_neg hmm,hhi,if_neg hmm];refine rs ?_;refine cf ?_;refine rs ?_;refine rl ?_;exact bL
 refine rs ?_;refine ai ?_;refine fo (fun x:Nat×Nat=>⟨ao [(0,some (gs 0 cap l)),(1,some (.int .i64 (a:Nat))),(2,some (.int .i64 (m:Nat))),(3,some (.int .i64 (b:Nat))),(4,some kx),(18,some (.int .i64 (mid:Nat))),(19,some (.int .i64 ((mid+m:Nat):Int))),(20,some (.int .i64 (x.1:Nat))),(21,some (.int .i64 (x.2:Nat))),(22,some (.int .i64 ((mid+m-1:Nat):Int)))],wd [(0,some (ro 60 l))] 1 [] 0,[]⟩)
  (fun x=>lo<=x.1/\x.1<=x.2/\x.2<=hi/\(x.1=lo\/bW aC l (x.1-1)<=bW aC l (mid+m-x.1))/\(x.2=hi\/bW aC l (mid+m-x.2-1)<bW aC l x.2)) (fun x=>x.2-x.1) (lo,hi) ⟨Nat.le_refl _,b2',Nat.le_refl _,.inl rfl,.inl rfl⟩ (fun x hv h=>?_) (fun x hv h=>?_)
 ·obtain⟨s,r⟩:=x;obtain⟨h1,h2,h3,c1,c2⟩:=hv;simp only at h h1 h2 h3 c1 c2;obtain⟨c,hc⟩:∃c,c=(s+r)/2:=⟨_,rfl⟩;refine aK (rs ?_);rw[<-hc];by_cases hcc:bW aC l (mid+m-1-c)<bW aC l c
  ·refine kT (D7 (by omega) (by omega) hcc) (b1 (lJ (l.getD (mid+m-1-c) default) (l.getD c default))) ?_;refine cf ?_;refine rl ?_;exact nx (s,c) ⟨h1,by dsimp only;omega,by dsimp only;omega,c1,.inr (by dsimp only;rw[show mid+m-c-1=mid+m-1-c by omega];exact hcc)⟩
  refine kT (CR (by omega) (by omega) hcc) (b1 (lJ (l.getD (mid+m-1-c) default) (l.getD c default))) ?_;refine ct ?_;refine rl ?_;exact nx (c+1,r) ⟨by dsimp only;omega,by dsimp only;omega,h3,.inr (by dsimp only;rw[acQ,show mid+m-(c+1)=mid+m-1-c by omega];omega),c2⟩
 obtain⟨s,r⟩:=x;obtain⟨h1,h2,h3,c1,c2⟩:=hv;simp only at h h1 h2 h3 c1 c2;have e:r=s:=by omega
 subst e;obtain⟨e,he⟩:∃e,e=mid+m-r:=⟨_,rfl⟩;obtain⟨g1,g2,g3,g4,g5,g6,t1,t2,t3,t4,teq⟩:=Em (key:=aC) (l:=l) (a:=a) (m:=m) (b:=b) (s:=r) ⟨lo,hi,hb,am,mb,by rw[hlo,hmid],by rw[hhi,hmid],h1,h3,by rw[<-hmid];exact c1,by rw[<-hmid];exact c2⟩ s1 s2 e (by rw[he,hmid]);rw[<-hmid]at g2 g6 t2 t3 teq;have hlr:(bJ l r m e).length=l.length:=fw g3 g4 (by omega);refine rs ?_;rw[<-he];refine lA ⟨ao [(0,some (gs 0 cap l)),(1,some (.int .i64 (a:Nat))),(2,some (.int .i64 (m:Nat))),(3,some (.int .i64 (b:Nat))),(4,some kx),(18,some (.int .i64 (mid:Nat))),(20,some (.int .i64 (r:Nat))),(24,some (.int .i64 (e:Nat)))],wd [(0,some (ro 60 (bJ l r m e)))] 1 [] 0,[]⟩ ?_ ?_
 ·by_cases hgo:r<m/\m<e
  ·obtain⟨hg1,hg2⟩:=hgo;refine rs ?_;refine ct ?_;refine qb (jy (TX l r m e cap hg1 hg2 (by omega) hn)) ?_;exact bL
  have hsame:bJ l r m e=l:=by
   by_cases e1:r=m
   ·subst e1;exact m7 (by omega) (by omega)
   have e2:e=m:=by omega
   rw[e2];exact qi (by omega) (by omega)
  rw[hsame];by_cases e1:r<m<;>(
   refine rs ?_;refine cf ?_;exact ap bL)
 generalize bJ l r m e=R at t1 t2 t3 t4 teq hlr ⊢;have hl2:(bB aC R a mid).length=l.length:=by rw[dx (by omega) (by omega),hlr]
 have t3':bV aC (dY (bB aC R a mid) mid e):=by rw[mq (by omega) (by omega) (.inr (Nat.le_refl _))];exact t3
 have t4':bV aC (dY (bB aC R a mid) e b):=by rw[mq (by omega) (by omega) (.inr g6)];exact t4
 refine lA ⟨ao [(0,some (gs 0 cap l)),(1,some (.int .i64 (a:Nat))),(2,some (.int .i64 (m:Nat))),(3,some (.int .i64 (b:Nat))),(4,some kx),(18,some (.int .i64 (mid:Nat))),(20,some (.int .i64 (r:Nat))),(24,some (.int .i64 (e:Nat)))],wd [(0,some (ro 60 (bB aC R a mid)))] 1 [] 0,[]⟩ ?_ ?_
 ·by_cases e1:a<r
  ·by_cases e2:r<mid
   ·refine rs ?_;refine ct ?_;refine qb (jy (ih R a r mid cap ⟨e1,e2,by omega,by omega,t1,t2⟩ (by omega))) ?_;exact bL
   rw[gM (by omega) (by omega) (by rw[<-show r=mid by omega];exact t1)];refine rs ?_;refine cf ?_;exact ap bL
  rw[gM (by omega) (by omega) (by rw[show r=a by omega]at t2;exact t2)];refine rs ?_;refine cf ?_;exact ap bL
 generalize bB aC R a mid=S at t3' t4' teq hl2 ⊢;rw[<-teq];by_cases e1:mid<e
 ·by_cases e2:e<b
  ·refine rs ?_;refine ct ?_;refine qb (jy (ih S mid e b cap ⟨e1,e2,by omega,by omega,t3',t4'⟩ (by omega))) ?_;refine re ?_;exact⟨rfl,by simp(disch:=decide) only[ae,ab,aa]⟩
  rw[gM (by omega) (by omega) (by rw[<-show e=b by omega];exact t3')];refine rs ?_;refine cf ?_;refine ap (re ?_);exact⟨rfl,by simp(disch:=decide) only[ae,ab,aa]⟩
 rw[gM (by omega) (by omega) (by rw[show e=mid by omega]at t4';exact t4')];refine rs ?_;refine cf ?_;refine ap (re ?_);exact⟨rfl,by simp(disch:=decide) only[ae,ab,aa]⟩
theorem yM:∀(n:Nat) (l:List Sd) (a m b cap:Nat),J0 l a m b->b-a<n->BZ l a m b cap
 |0,l,a,m,b,cap,hg,h=>by omega
 |n+1,l,a,m,b,cap,hg,hN=>by
  by_cases h1:m=a+1
  ·exact abq l a m b cap hg h1
  by_cases h2:b=m+1
  ·exact aaY l a m b cap hg h1 h2
  exact aaL (yM n) l a m b cap hg hN h1 h2
set_option maxHeartbeats 2000000 in
theorem Si(l0:List Sd)(cap:Nat)(hn:l0.length<=1000000):Fw Tryz.prog 119 [.int .i64 (l0.length:Nat),kx] 60 cap l0 (.tuple #[]) (bO aC l0):=by
 obtain⟨n,hnl⟩:∃n,n=l0.length:=⟨_,rfl⟩;refine oq Tryz.func119 Tryz.results119 (h:=?_);rw[<-hnl];refine rs ?_;refine rs ?_;refine ai ?_;refine fo (fun x:Nat×List Sd=>⟨ao [(0,some (gs 0 cap l0)),(1,some (.int .i64 (n:Nat))),(2,some kx),(6,some (.int .i64 ((20:Nat):Int))),(7,some (.int .i64 (x.1:Nat))),(8,some (.int .i64 ((x.1+20:Nat):Int)))],wd [(0,some (ro 60 x.2))] 1 [] 0,[]⟩) (fun x=>x.2.length=n/\x.1<=n/\Nonempty (zy aC 20 l0 x.2 x.1)) (fun x=>n-x.1) (0,l0) ⟨hnl.symm,abW _,yz l0⟩ (fun x hv h=>?_) (fun x hv h=>?_)
 ·obtain⟨a,l⟩:=x;obtain⟨hl,ha,hb⟩:=hv;simp only at h hl ha hb;refine aK ?_;refine rc (jy (G3 l a (a+20) cap (by omega) (by omega) (by omega))) ?_;refine rs ?_;refine rl ?_;exact nx (a+20,bB aC l a (a+20)) ⟨by dsimp only;rw[dx (by omega) (by omega),hl],by dsimp only;omega,hb.elim fun h=>AQ h (by omega)⟩ (by dsimp only;omega)
 obtain⟨a,l⟩:=x;obtain⟨hl,ha,hb⟩:=hv;simp only at h hl ha hb;have hch:gl aC 20 (bB aC l a n)/\∀k,fk aC k (bB aC l a n)=fk aC k l0:=hb.elim fun h=>by
  rw[<-hl];exact DY h (by omega)
 have hsl:(bB aC l a n).length=n:=by rw[dx (by omega) (by omega),hl]
 refine rc (jy (G3 l a n cap (by omega) (by omega) (by omega))) ?_;generalize bB aC l a n=R at hch hsl ⊢;clear h hb ha hl;refine fo (fun x:Nat×List Sd=>⟨ao [(0,some (gs 0 cap l0)),(1,some (.int .i64 (n:Nat))),(2,some kx),(6,some (.int .i64 (x.1:Nat)))],wd [(0,some (ro 60 x.2))] 1 [] 0,[]⟩)
  (fun x=>x.2.length=n/\0<x.1/\(x.1=20\/x.1<=2*n)/\gl aC x.1 x.2/\∀k,fk aC k x.2=fk aC k l0) (fun x=>n-x.1) (20,R) ⟨hsl,by dsimp only;omega,.inl rfl,hch.1,hch.2⟩ (fun x hv h=>?_) (fun x hv h=>?_)
 ·clear hch hsl;obtain⟨bs,l⟩:=x;obtain⟨hl,hp,hb,hc,hf⟩:=hv;simp only at h hl hp hb hc hf;refine aK (rs ?_);refine ai ?_;refine fo (fun x:Nat×List Sd=>⟨ao [(0,some (gs 0 cap l0)),(1,some (.int .i64 (n:Nat))),(2,some kx),(6,some (.int .i64 (bs:Nat))),(7,some (.int .i64 (x.1:Nat))),(8,some (.int .i64 ((x.1+2*bs:Nat):Int)))],wd [(0,some (ro 60 x.2))] 1 [] 0,[]⟩)
   (fun x=>x.2.length=n/\x.1<=n/\Nonempty (Ep aC (2*bs) bs l0 x.2 x.1)) (fun x=>n-x.1) (0,l) ⟨hl,abW _,A4 (2*bs) hc hf⟩ (fun x hv h=>?_) (fun x hv h=>?_) (h0:=by simp only[Nat.zero_add];exact bL)
  ·obtain⟨a,r⟩:=x;obtain⟨hl,ha,hk⟩:=hv;simp only at h hl ha hk;obtain⟨s1,s2,h'⟩:=hk.elim fun h=>ER h hp (by omega)
   refine aK ?_;refine rc (jy (yM (2*bs+1) r a (a+bs) (a+2*bs) cap ⟨by omega,by omega,by omega,by omega,s1,s2⟩ (by omega))) ?_;refine rs ?_;refine rl ?_;exact nx (a+2*bs,bB aC r a (a+2*bs)) ⟨by dsimp only;rw[dx (by omega) (by omega),hl],by dsimp only;omega,h'⟩ (by dsimp only;omega)
  obtain⟨a,r⟩:=x;obtain⟨hl,ha,hk⟩:=hv;simp only at h hl ha hk;obtain⟨R,hRl,hRc,hRf,hRe⟩:∃R,R.length=n/\gl aC (2*bs) R/\(∀k,fk aC k R=fk aC k l0)/\(a+bs<n->bV aC (dY r a (a+bs))/\bV aC (dY r (a+bs) n)/\R=bB aC r a n)/\(n<=a+bs->R=r):=by
   rcases ab8 (a+bs) n with q|q
   ·obtain⟨t1,t2,t3,t4⟩:=hk.elim fun h=>C6 h (by omega) (by omega)
    rw[hl]at t2 t3 t4;exact⟨_,by rw[dx (by omega) (by omega),hl],t3,t4,fun _=>⟨t1,t2,rfl⟩,fun w=>by omega⟩
   obtain⟨t3,t4⟩:=hk.elim fun h=>G4 h (by omega)
   exact⟨r,hl,t3,t4,fun w=>by omega,fun _=>rfl⟩
  refine lA ⟨ao [(0,some (gs 0 cap l0)),(1,some (.int .i64 (n:Nat))),(2,some kx),(6,some (.int .i64 (bs:Nat)))],wd [(0,some (ro 60 R))] 1 [] 0,[]⟩ ?_ ?_
  ·by_cases q:a+bs<n
   ·obtain⟨t1,t2,rfl⟩:=hRe.1 q;refine rs ?_;refine rs ?_;refine ct ?_;refine qb (jy (yM (n+1) r a (a+bs) n cap ⟨by omega,by omega,by omega,by omega,t1,t2⟩ (by omega))) ?_;exact bL
   obtain rfl:=hRe.2 (by omega);refine rs ?_;refine rs ?_;refine cf ?_;exact ap bL
  refine rl ?_;exact nx (bs*2,R) ⟨hRl,by dsimp only;omega,.inr (by dsimp only;omega),by dsimp only;rw[Nat.mul_comm];exact hRc,hRf⟩ (by dsimp only;omega)
 obtain⟨bs,l⟩:=x;obtain⟨hl,hp,hb,hc,hf⟩:=hv;simp only at h hl hp hb hc hf;refine re ?_;rw[<-DM hc hf (by omega)];exact⟨rfl,by simp(disch:=decide) only[ae,ab,aa]⟩
theorem TF(l:List Sd)(cap:Nat)(hn:l.length<=1000000):Fw Tryz.prog 105 [kx] 60 cap l (.tuple #[]) (bO aC l):=by
 refine oq Tryz.func105 Tryz.results105 (h:=?_);refine qb (jy (Si l cap hn)) ?_;refine re ?_;exact⟨rfl,by simp(disch:=decide) only[ae,ab,aa]⟩
attribute [go_sem] EJ
theorem Su(l:List Sd)(hl:l.length<=1000000):Fr Tryz.prog 104 [sl l] 60 l:=by
 refine Pw Tryz.func104 Tryz.results104 (h:=?_);refine rs ?_;refine ai (ai (cT ?_));refine bF b0 1 (s1:=⟨ao [(3,some (sl l)),(2,some (.slice none 0 0)),(0,some (sl l))],wd [] 0 [] 0,[]⟩) (by simp(disch:=decide) only[go_sem]<;>with_reducible rfl) ?_;refine yg (c:=l.flatMap El.enc) (n:=l.length) (et:=60) (by simp(disch:=decide) only[go_sem]<;>with_reducible rfl) rfl (by simp(disch:=decide) only[go_sem]<;>with_reducible rfl) (by show _=some (sl l);simp(disch:=decide) only[go_sem]<;>with_reducible rfl) (by simp(disch:=decide) only[go_sem]<;>with_reducible rfl) (fun b hb=>⟨ao [(4,some (.bool b)),(3,some (sl l)),(2,some (.slice none 0 0)),(0,some (sl l))],by simp(disch:=decide) only[go_sem]<;>with_reducible rfl,dn ?_⟩);refine cb (fun h=>?_) (fun h=>?_)
 ·have e:l=[]:=ace (hb h).2;subst e;refine rs ?_;refine cv [(2,some (gs 9 aq ([]:List Sd)))] [(9,some (ro 60 ([]:List Sd)))] 10 ?_;refine rt ?_;exact⟨9,rfl,(ae (by decide) (by decide)).trans ab⟩
 refine sk (rs ?_);refine cv [(2,some (gs 1 aq l))] [(1,some (ro 60 l))] 2 ?_;refine rt ?_;exact⟨1,rfl,(ae (by decide) (by decide)).trans ab⟩
theorem QW(l:List Sd)(hl:l.length<=1000000):Fn Tryz.prog 67 [sl l,Pf] (.ret (sl (bO aC l))):=by
 have hsl:(bO aC l).length=l.length:=b8;refine fY Tryz.func67 Tryz.results67 (h:=?_);refine rs ?_;refine rc (bh (xJ (Su l hl))) ?_;refine cv [(3,some (FP [Pf])),(5,some (gs 1 aq l))] [(1,some (ro 60 l))] 2 ?_ (hl:=xS 0);refine rc (jy (TF l aq hl)) ?_;refine cv [(5,some (gs 1 aq (bO aC l)))] [(1,some (ro 60 (bO aC l)))] 2 ?_;refine rs ?_;refine cv [(4,some (sl (bO aC l)))] [] 2 ?_ (hl:=fz 1);refine rt ?_;rfl
end Go.Proofs.YthlkgmdkabelpaaGreat.X
