/-
  Packed by program (tools/pack.py) out of the texts MA MC1 MC2 MC3 MB MC4 MD1 MD2 MD3 MD4. No condition.
-/
import Derived.Test.YthlkgmdkabelpaaGreatTT
import Derived.Test.YthlkgmdkabelpaaGreatTU
import Derived.Test.YthlkgmdkabelpaaGreatTG
set_option linter.all false
namespace Go.Proofs.YthlkgmdkabelpaaGreat.X
open Go Go.RowKit Go.Proofs.YthlkgmdkabelpaaGreat.St
attribute [go_sem] Sk IK
attribute [go_sem high] IA L6 L4
abbrev Jw(s:Sd):Value:=.agg #[.int .i64 s.1,.int .i64 s.2]
@[go_sem] theorem val_ce {c:Ce}:mJ.val Tryz.prog c=.agg #[.int .i64 c.id,.int .i64 c.dim,sl c.sd]:=rfl
theorem Vf{W:XW}{e:TypeId}{b i s m:Nat}{l:List Ce}{y:Ce}(hg:W.get b=some (ro e l))(h:i<l.length)(hs:s=3)(hm:m=3):GJ W b m i (.agg #[.int .i64 y.id,.int .i64 y.dim,sl y.sd]) s (some (ro e l))=some (.mod undef (W.put b (some (ro e (l.set i y))))):=A3 hg h rfl hs hm _
theorem UZ{W:XW}{e:TypeId}{b i s m:Nat}{l:List Sd}{y:Sd}(hg:W.get b=some (ro e l))(h:i<l.length)(hs:s=2)(hm:m=2):GJ W b m i (.agg #[.int .i64 y.1,.int .i64 y.2]) s (some (ro e l))=some (.mod undef (W.put b (some (ro e (l.set i y))))):=A3 hg h rfl hs hm _
attribute [go_sem] Vf UZ
section
variable {α:Type} [Inhabited α] {key:α->Int} {l:List α} {i j:Nat}
theorem gI(h:i<l.length):bH key l i=key (l.getD i default):=by
 rw[wn (Yl h),Yn,Yl h];rfl
theorem mj(hi:i<l.length)(hj:j<l.length):(l.set i (l.getD j default)).set j (l.getD i default)=gc l i j:=by
 unfold gc;rw[Yl hi,Yl hj,Yn,Yl hj,Yn,Yl hi];rfl
theorem to{l':List α}(h:l[i]?=l'[j]?):l.getD i default=l'.getD j default:=by
 rw[Yn,Yn,h]
theorem yr{a b:Nat}(h1:a<=i)(h2:i<=b)(hb:b<=l.length):bm key (bm key l a i) a b=bm key l a b:=by
 have hl:(bm key l a i).length=l.length:=dh h1 (by omega);obtain⟨p,x,q,rfl,hp,hx⟩:=xm (l:=l) (a:=a) (b:=b) (by omega) hb;obtain⟨y,z,w,hyz,hy,hz⟩:=xm (l:=x) (a:=0) (b:=i-a) (by omega) (by omega);have:y=[]:=List.length_eq_zero_iff.1 hy;subst this;rw[List.nil_append]at hyz;subst hyz;rw[Yh]at hx;rw[show p++(z++w++q)=p++(z++(w++q)) by simp,dp hp.symm (by omega),show p++(bB key z++(w++q))=p++((bB key z++w)++q) by simp,dp hp.symm (by rw[Yh,bO];omega),show p++(z++(w++q))=p++((z++w)++q) by simp,dp hp.symm (by rw[Yh];omega)];congr 2;exact CI fun k=>by rw[jg,jg,lJ]
end
section
variable {P:Program} {R:List ResultVar} {E:aZ->XW->Prop} {s:XS} {e:aZ} {W:XW}
theorem re(q:E e W)(h:qL P R s.fr (dE (bc [] []) s.ds none s.W)=some (.fin e W):=by simp(disch:=first|decide|omega|(simp only[Yh,List.length_cons,List.length_nil,Yk,Ym,Yo]<;>omega)|(simp(disch:=decide) only[ae,ab,aa,ci.eq_1];done)) only[qL.eq_1,qL.eq_2,go_sem]<;>with_reducible rfl):qO P R E .norm s:=⟨none,e,W,rfl,h,q⟩
variable [hM:kJ P] {N k:Nat} {d r:Code} {s':XS} {Q:XQ} {id:Nat} {ops:Array Oper} {H:cC} {rs:List bJ} {p:Prop}
theorem E1(f:p)(b:dX P H)(q:ay P N k d s' (g9 P N k r Q))(h:p->aW P (cd P H 1) N none ops ops.toList s=some (rs,s'):=by intro hf;simp(disch:=first|decide|omega|(simp only[Yh,List.length_cons,List.length_nil,Yk,Ym,Yo]<;>omega)|(simp(disch:=decide) only[ae,ab,aa,ci.eq_1];done)) only[hf,pb,bc,iy,gw,kZ,aW.eq_1,aW.eq_2,iH.eq_1,dI.eq_1,dI.eq_2,go_sem]<;>with_reducible rfl)(hk:jJ P ops s.ds.length rs=true:=by
 refine fK (by kernel_rfl) (by kernel_rfl) ?_
 repeat (refine aI (by first|(refine dj (by with_reducible rfl) (by kernel_rfl) (by kernel_rfl) ?_;simp(disch:=first|decide|omega|(simp only[Yh,List.length_cons,List.length_nil,Yk,Ym,Yo]<;>omega)|(simp(disch:=decide) only[ae,ab,aa,ci.eq_1];done)) only[fq.eq_1,cond_true,go_sem];done)|kernel_rfl) ?_)
 rfl):ay P N k (.seq (.seq (.region id ops true) d) r) s Q:=ak (ak (eu b (h f) hk q))
theorem wa(q:Q .norm s')(h:aW P (cd P (bc [] []) 1) N none ops ops.toList s=some (rs,s'):=by simp(disch:=first|decide|omega|(simp only[Yh,List.length_cons,List.length_nil,Yk,Ym,Yo]<;>omega)|(simp(disch:=decide) only[ae,ab,aa,ci.eq_1];done)) only[aW.eq_1,aW.eq_2,iH.eq_1,dI.eq_1,dI.eq_2,go_sem]<;>with_reducible rfl)(hk:jJ P ops s.ds.length rs=true:=by
 refine fK (by kernel_rfl) (by kernel_rfl) ?_
 repeat (refine aI (by first|(refine dj (by with_reducible rfl) (by kernel_rfl) (by kernel_rfl) ?_;simp(disch:=first|decide|omega|(simp only[Yh,List.length_cons,List.length_nil,Yk,Ym,Yo]<;>omega)|(simp(disch:=decide) only[ae,ab,aa,ci.eq_1];done)) only[fq.eq_1,cond_true,go_sem];done)|kernel_rfl) ?_)
 rfl):ay P N k (.region id ops true) s Q:=eu b0 h hk q
theorem fr{α:Type}(I:α->XS)(V:α->Prop)(μ:α->Nat)(x0:α)(hv:V x0){C:α->Prop}[hC:∀x,Decidable (C x)]{J:α->XS}{i1 B:Nat}{t:Operand}{body:Code}
 (hb:∀x,V x->C x->ay P N k body (J x) (L8 P k I V μ x (mO B Q))) (he:∀x,V x->¬C x->Q .norm (J x)) (h0:aX P k s (I x0):=by exact bg)
 (hc:∀x,fE P (cd P (bc [] []) 1) N none ops ops.toList (I x)=some (.code .norm (J x)):=by intro x;simp(disch:=first|decide|omega|(simp only[Yh,List.length_cons,List.length_nil,Yk,Ym,Yo]<;>omega)|(simp(disch:=decide) only[ae,ab,aa,ci.eq_1];done)) only[go_sem]<;>with_reducible rfl)
 (hx:∀x,ev (J x).fr t=some (.bool (decide (C x))):=by intro x;simp(disch:=first|decide|omega|(simp only[Yh,List.length_cons,List.length_nil,Yk,Ym,Yo]<;>omega)|(simp(disch:=decide) only[ae,ab,aa,ci.eq_1];done)) only[go_sem]<;>with_reducible rfl) :
 ay P N k (.block B (.loop (.seq (.region i1 ops false) (.seq (.cond t .skip (.exit B)) body)))) s Q:=
 aC (lp I V μ x0 hv (h0:=h0) fun x v=>ak (aE b0 (hc x) (ak (cp (fun h=>ap (hb x v h)) (fun h=>nR (by show(if B=B then _ else _);rw[if_pos rfl];exact he x v h)) (hx x)))))
end
def jN(a b:Int):Int:=if a<b then -1 else if b<a then 1 else 0
theorem tA{a b:Int}(h:a<b):jN a b<((0:Nat):Int):=by rw[jN,if_pos h];decide
theorem tj{a b:Int}(h:¬a<b):¬jN a b<((0:Nat):Int):=by rw[jN,if_neg h];split<;>decide
theorem GP(a:Int):Fn Tryz.prog 118 [.int .i64 a] (.ret (.bool false)):=by
 refine ir Tryz.func118 Tryz.results118 (h:=?_);refine rs ?_;refine rf (show(a !=a)=false/\decide (a≠a)=false by simp) ?_;refine rt ?_;rfl
theorem G4(a b:Int):Fn Tryz.prog 103 [.int .i64 a,.int .i64 b] (.ret (.int .i64 (jN a b))):=by
 refine ir Tryz.func103 Tryz.results103 (h:=?_);refine rs ?_;refine rc (b1 (GP a)) ?_;refine rc (b1 (GP b)) ?_;refine rS ?_;refine cf ?_;refine sk (rS ?_);refine cf ?_;refine sk ?_;unfold jN;by_cases h1:a<b
 ·refine rS ?_;refine ct ?_;refine rs ?_;refine rt ?_;rw[if_pos h1]
 refine rS ?_;refine cf ?_;refine sk ?_;by_cases h2:b<a
 ·refine rS ?_;refine ct ?_;refine rs ?_;refine rt ?_;rw[if_neg h1,if_pos h2];rfl
 refine rS ?_;refine cf ?_;refine sk (rs ?_);refine rt ?_;rw[if_neg h1,if_neg h2];rfl
def ar(x:Ce):Int:=x.id
abbrev MN:Value:=.func (.func 66) #[] #[]
abbrev jG:Value:=.func (.func 102) #[] #[FP [MN]]
theorem P2(x:Ce):Fn Tryz.prog 66 [jR x] (.ret (.int .i64 (ar x))):=by
 refine ir Tryz.func66 Tryz.results66 (h:=?_);refine rs ?_;refine rs ?_;refine rt ?_;rfl
def WG(a:List Value)(e:aZ):Prop:=∃x:Ce,a=[jR x]/\e=.ret (.int .i64 (ar x))
theorem NJ:bQ Tryz.prog 66 (rQ WG):=zY (enters_of (by kernel_rfl)) fun a e ⟨x,h1,h2⟩=>by subst h1 h2;exact P2 x
theorem Ol{x:Ce}{W:XW}:rQ WG [jR x] W=some (.ret (.int .i64 (ar x)),W):=BG ⟨x,rfl,rfl⟩ fun e' ⟨y,h2,h3⟩=>by
 simp only[List.cons.injEq,Value.agg.injEq,and_true]at h2;replace h2:=congrArg Array.toList h2;simp only[List.cons.injEq,Value.int.injEq,true_and,and_true]at h2;rw[h3];unfold ar;rw[h2.1]
attribute [go_sem] Ol
theorem kx(x y:Ce):Fn Tryz.prog 102 [jR x,jR y,FP [MN]] (.ret (.int .i64 (jN (ar x) (ar y)))):=by
 refine ir Tryz.func102 Tryz.results102 (h:=?_);refine rs ?_;refine Ia (ur NJ (nL (G4 (ar x) (ar y)))) ?_;refine rt ?_;rfl
set_option maxHeartbeats 1000000 in
theorem DI(l:List Ce)(a b cap:Nat)(hab:a<=b)(hb:b<=l.length)(hn:l.length<=1000000):Fw Tryz.prog 139 [.int .i64 (a:Nat),.int .i64 (b:Nat),jG] 58 cap l (.tuple #[]) (bm ar l a b):=by
 refine m3 Tryz.func139 Tryz.results139 (h:=?_);refine rs ?_;refine fo (fun i:Nat=>⟨an [(0,some (gs 0 cap l)),(1,some (.int .i64 (a:Nat))),(2,some (.int .i64 (b:Nat))),(3,some jG),(8,some (.int .i64 (i:Nat)))],wd [(0,some (ro 58 (bm ar l a (min i b))))] 1 [] 0,[]⟩) (fun i=>a+1<=i/\(i<=b\/i=a+1)) (fun i=>b-i) (a+1) ⟨Nat.le_refl _,.inr rfl⟩ (fun i hv h=>?_) (fun i hv h=>?_) (h0:=by rw[vh (by omega) (by omega) (by omega)];exact bg)
 ·obtain⟨h1,h2⟩:=hv;rw[Zc (by omega)];have hS:(bm ar l a i).length=l.length:=dh (by omega) (by omega);have hsrt:bG ar (dG (bm ar l a i) a i):=by rw[Bp (by omega) (by omega)];exact fu
  have hnest:bm ar (bm ar l a i) a (i+1)=bm ar l a (i+1):=yr (by omega) (by omega) (by omega);generalize bm ar l a i=S at hS hsrt hnest ⊢;refine bs (rs ?_);refine aC ?_;refine lp (fun j:Nat=>⟨an [(0,some (gs 0 cap l)),(1,some (.int .i64 (a:Nat))),(2,some (.int .i64 (b:Nat))),(3,some jG),(8,some (.int .i64 (i:Nat))),(9,some (.int .i64 (j:Nat)))],wd [(0,some (ro 58 (bz S j i (i+1))))] 1 [] 0,[]⟩) (fun j=>a<=j/\j<=i/\(j=i\/bH ar S i<bH ar S j)) (fun j=>j) i ⟨by omega,Nat.le_refl _,.inl rfl⟩ (fun j hv=>?_) (h0:=by rw[lQ (by omega) (by omega)];exact bg);obtain⟨j1,j2,jc⟩:=hv;have hR:(bz S j i (i+1)).length=l.length:=by rw[eN j2 (by omega) (by omega),hS]
  have g1:(bz S j i (i+1)).getD j default=S.getD i default:=to (by rw[eH (l:=S) j2 (show i<=i+1 by omega) (by omega) j,if_neg (by omega),if_pos (by omega),show j+(i-j)=i by omega]);have hdone:¬(a<j/\bH ar S i<bH ar S (j-1))->bz S j i (i+1)=bm ar S a (i+1):=fun q=>pK (by omega) j1 j2 hsrt (by omega) jc
  by_cases haj:a<j
  ·have g2:(bz S j i (i+1)).getD (j-1) default=S.getD (j-1) default:=to (by rw[eH (l:=S) j2 (show i<=i+1 by omega) (by omega) (j-1),if_pos (by omega)]);have hdn:gc (bz S j i (i+1)) j (j-1)=bz S (j-1) i (i+1):=qm (by omega) j2 (by omega);by_cases hlt:bH ar S i<bH ar S (j-1)
   ·have hk:jN (ar ((bz S j i (i+1)).getD j default)) (ar ((bz S j i (i+1)).getD (j-1) default))<((0:Nat):Int):=by
     rw[g1,g2,<-gI (key:=ar) (by omega),<-gI (key:=ar) (by omega)];exact tA hlt
    generalize bz S j i (i+1)=R at hR hdn hk ⊢;refine E1 hk (b1 (kx (R.getD j default) (R.getD (j-1) default))) ?_;refine ct ?_;refine ap (bs (wa ?_));refine rl ?_;rw[mj (by omega) (by omega),hdn];exact nx (j-1) ⟨by omega,by omega,.inr hlt⟩
   have hk:¬jN (ar ((bz S j i (i+1)).getD j default)) (ar ((bz S j i (i+1)).getD (j-1) default))<((0:Nat):Int):=by rw[g1,g2,<-gI (key:=ar) (by omega),<-gI (key:=ar) (by omega)];exact tj hlt
   have hdone:=hdone fun q=>hlt q.2
   generalize bz S j i (i+1)=R at hR hdn hk hdone ⊢;refine E1 hk (b1 (kx (R.getD j default) (R.getD (j-1) default))) ?_;refine cf ?_;refine xe ?_;refine rl ?_;refine nx (i+1) ⟨by omega,.inl (by omega)⟩ (by omega) ?_;rw[hdone,hnest,Zc (by omega)];exact bg
  have hdone:=hdone fun q=>haj q.1
  refine rD ?_;refine cf ?_;refine xe ?_;refine rl ?_;refine nx (i+1) ⟨by omega,.inl (by omega)⟩ (by omega) ?_;rw[hdone,hnest,Zc (by omega)];exact bg
 rw[Nat.min_eq_right (by omega)];refine re ?_;exact⟨rfl,by simp(disch:=decide) only[ae,ab,aa]⟩
theorem Cl(l:List Ce)(a b n cap:Nat)(h1:a+n<=b)(h2:b+n<=l.length)(hn:l.length<=1000000):Fw Tryz.prog 155 [.int .i64 (a:Nat),.int .i64 (b:Nat),.int .i64 (n:Nat),jG] 58 cap l (.tuple #[]) (iq l a b n):=by
 refine m3 Tryz.func155 Tryz.results155 (h:=?_);refine rs ?_;refine fo (fun i:Nat=>⟨an [(0,some (gs 0 cap l)),(1,some (.int .i64 (a:Nat))),(2,some (.int .i64 (b:Nat))),(3,some (.int .i64 (n:Nat))),(10,some (.int .i64 (i:Nat)))],wd [(0,some (ro 58 (iq l a b i)))] 1 [] 0,[]⟩) (fun i=>i<=n) (fun i=>n-i) 0 (Yq _) (fun i hv h=>?_) (fun i hv h=>?_)
 ·have hR:(iq l a b i).length=l.length:=ed _;have hnx:iq l a b (i+1)=gc (iq l a b i) (a+i) (b+i):=rfl;generalize iq l a b i=R at hR hnx ⊢;refine bs (wa ?_);refine rl ?_;rw[mj (by omega) (by omega)];refine nx (i+1) (by omega) (by omega) ?_;rw[hnx];exact bg
 refine re ?_;rw[show i=n by omega];exact⟨rfl,by simp(disch:=decide) only[ae,ab,aa]⟩
theorem Si(l:List Ce)(a m b cap:Nat)(h1:a<m)(h2:m<b)(h3:b<=l.length)(hn:l.length<=1000000):Fw Tryz.prog 151 [.int .i64 (a:Nat),.int .i64 (m:Nat),.int .i64 (b:Nat),jG] 58 cap l (.tuple #[]) (bz l a m b):=by
 refine m3 Tryz.func151 Tryz.results151 (h:=?_);refine rs ?_;refine rs ?_;refine ak ?_;refine fo (fun x:Nat×Nat×List Ce=>⟨an [(0,some (gs 0 cap l)),(2,some (.int .i64 (m:Nat))),(4,some jG),(10,some (.int .i64 (x.1:Nat))),(11,some (.int .i64 (x.2.1:Nat)))],wd [(0,some (ro 58 x.2.2))] 1 [] 0,[]⟩)
  (fun x=>x.2.2.length=l.length/\0<x.1/\x.1<=m/\0<x.2.1/\m+x.2.1<=l.length/\bz x.2.2 (m-x.1) m (m+x.2.1)=bz l a m b) (fun x=>x.1+x.2.1) (m-a,b-m,l) ⟨rfl,by dsimp only;omega,by dsimp only;omega,by dsimp only;omega,by dsimp only;omega,by dsimp only;rw[show m-(m-a)=a by omega,show m+(b-m)=b by omega]⟩ (fun x hv h=>?_) (fun x hv h=>?_)
 ·obtain⟨i,j,r⟩:=x;obtain⟨hr,hi,him,hj,hjn,heq⟩:=hv;simp only at h hr hi him hj hjn heq;refine aC ?_;by_cases hlt:j<i
  ·refine rs ?_;refine ct ?_;refine rc (iN (Cl r (m-i) m j cap (by omega) (by omega) (by omega))) ?_;refine rl ?_;exact nx (i-j,j,iq r (m-i) m j) ⟨(ed _).trans hr,by dsimp only;omega,by dsimp only;omega,hj,hjn,by dsimp only;rw[Hk him (by omega) hlt,heq]⟩
  refine rs ?_;refine cf ?_;refine rc (iN (Cl r (m-i) (m+j-i) i cap (by omega) (by omega) (by omega))) ?_;refine rl ?_;exact nx (i,j-i,iq r (m-i) (m+j-i) i) ⟨(ed _).trans hr,hi,him,by dsimp only;omega,by dsimp only;omega,by dsimp only;rw[I3 him (by omega) (by omega),heq]⟩
 obtain⟨i,j,r⟩:=x;obtain⟨hr,hi,him,hj,hjn,heq⟩:=hv;simp only at h hr hi him hj hjn heq;have e:j=i:=by omega
 subst e;refine oQ (iN (Cl r (m-j) m j cap (by omega) (by omega) (by omega))) ?_;refine re ?_;rw[<-heq,<-Gu him (by omega)];exact⟨rfl,by simp(disch:=decide) only[ae,ab,aa]⟩
structure IJ(l:List Ce)(a m b:Nat):Prop where
 am:a<m
 mb:m<b
 hb:b<=l.length
 hn:l.length<=1000000
 s1:bG ar (dG l a m)
 s2:bG ar (dG l m b)
abbrev Bi(l:List Ce)(a m b cap:Nat):Prop:=Fw Tryz.prog 140 [.int .i64 (a:Nat),.int .i64 (m:Nat),.int .i64 (b:Nat),jG] 58 cap l (.tuple #[]) (bm ar l a b)
theorem At{l:List Ce}{i j:Nat}(hi:i<l.length)(hj:j<l.length)(h:bH ar l i<bH ar l j):jN (ar (l.getD i default)) (ar (l.getD j default))<((0:Nat):Int):=by
 rw[<-gI (key:=ar) hi,<-gI (key:=ar) hj];exact tA h
theorem z6{l:List Ce}{i j:Nat}(hi:i<l.length)(hj:j<l.length)(h:¬bH ar l i<bH ar l j):¬jN (ar (l.getD i default)) (ar (l.getD j default))<((0:Nat):Int):=by
 rw[<-gI (key:=ar) hi,<-gI (key:=ar) hj];exact tj h
theorem Xo(l:List Ce)(a m b cap:Nat)(hg:IJ l a m b)(hm:m=a+1):Bi l a m b cap:=by
 obtain⟨am,mb,hb,hn,s1,s2⟩:=hg;subst hm;refine m3 Tryz.func140 Tryz.results140 (h:=?_);refine rS ?_;refine ct ?_;refine rs ?_;refine rs ?_;refine ak ?_;refine fo (fun x:Nat×Nat=>⟨an [(0,some (gs 0 cap l)),(1,some (.int .i64 (a:Nat))),(4,some jG),(10,some (.int .i64 (x.1:Nat))),(11,some (.int .i64 (x.2:Nat)))],wd [(0,some (ro 58 l))] 1 [] 0,[]⟩)
  (fun x=>a+1<=x.1/\x.1<=x.2/\x.2<=b/\(x.1=a+1\/bH ar l (x.1-1)<bH ar l a)/\(x.2=b\/bH ar l a<=bH ar l x.2)) (fun x=>x.2-x.1) (a+1,b) ⟨Nat.le_refl _,by dsimp only;omega,Nat.le_refl _,.inl rfl,.inl rfl⟩ (fun x hv h=>?_) (fun x hv h=>?_)
 ·obtain⟨i,j⟩:=x;obtain⟨h1,h2,h3,c1,c2⟩:=hv;simp only at h h1 h2 h3 c1 c2;refine aC (rs ?_);by_cases hc:bH ar l ((i+j)/2)<bH ar l a
  ·refine mU (At (by omega) (by omega) hc) (b1 (kx (l.getD ((i+j)/2) default) (l.getD a default))) ?_;refine ct ?_;refine rl ?_;exact nx ((i+j)/2+1,j) ⟨by dsimp only;omega,by dsimp only;omega,h3,.inr (by dsimp only;rw[Zl];exact hc),c2⟩
  refine mU (z6 (by omega) (by omega) hc) (b1 (kx (l.getD ((i+j)/2) default) (l.getD a default))) ?_;refine cf ?_;refine rl ?_;exact nx (i,(i+j)/2) ⟨h1,by dsimp only;omega,by dsimp only;omega,c1,.inr (by dsimp only;omega)⟩
 obtain⟨i,j⟩:=x;obtain⟨h1,h2,h3,c1,c2⟩:=hv;simp only at h h1 h2 h3 c1 c2;have e:j=i:=by omega
 subst e;refine rS ?_;refine fo (fun k:Nat=>⟨an [(0,some (gs 0 cap l)),(1,some (.int .i64 (a:Nat))),(4,some jG),(10,some (.int .i64 (j:Nat))),(13,some (.int .i64 (k:Nat)))],wd [(0,some (ro 58 (bz l a (a+1) (k+1))))] 1 [] 0,[]⟩) (fun k=>a<=k/\k+1<=j) (fun k=>j-k) a ⟨Nat.le_refl _,h1⟩ (fun k hv h=>?_) (fun k hv h=>?_) (h0:=by rw[oA (by omega) (by omega)];exact bg)
 ·have hR:(bz l a (a+1) (k+1)).length=l.length:=eN (by omega) (by omega) (by omega);have hup:gc (bz l a (a+1) (k+1)) k (k+1)=bz l a (a+1) (k+2):=Gx hv.1 (by omega);generalize bz l a (a+1) (k+1)=R at hR hup ⊢;refine bs (wa ?_);refine rl ?_;rw[mj (by omega) (by omega),hup];exact nx (k+1) ⟨by omega,by omega⟩
 have e:k+1=j:=by omega
 rw[e,Hm hb h1 h3 s2 c1 c2];refine rt ?_;exact⟨rfl,by simp(disch:=decide) only[ae,ab,aa]⟩
theorem Xw(l:List Ce)(a m b cap:Nat)(hg:IJ l a m b)(hm0:m≠a+1)(hm:b=m+1):Bi l a m b cap:=by
 obtain⟨am,mb,hb,hn,s1,s2⟩:=hg;subst hm;refine m3 Tryz.func140 Tryz.results140 (h:=?_);refine rS ?_;refine cf ?_;refine sk (rS ?_);refine ct ?_;refine rs ?_;refine rs ?_;refine ak ?_;refine fo (fun x:Nat×Nat=>⟨an [(0,some (gs 0 cap l)),(2,some (.int .i64 (m:Nat))),(4,some jG),(14,some (.int .i64 (x.1:Nat))),(15,some (.int .i64 (x.2:Nat)))],wd [(0,some (ro 58 l))] 1 [] 0,[]⟩)
  (fun x=>a<=x.1/\x.1<=x.2/\x.2<=m/\(x.1=a\/bH ar l (x.1-1)<=bH ar l m)/\(x.2=m\/bH ar l m<bH ar l x.2)) (fun x=>x.2-x.1) (a,m) ⟨Nat.le_refl _,by dsimp only;omega,Nat.le_refl _,.inl rfl,.inl rfl⟩ (fun x hv h=>?_) (fun x hv h=>?_)
 ·obtain⟨i,j⟩:=x;obtain⟨h1,h2,h3,c1,c2⟩:=hv;simp only at h h1 h2 h3 c1 c2;refine aC (rs ?_);by_cases hc:bH ar l m<bH ar l ((i+j)/2)
  ·refine mU (At (by omega) (by omega) hc) (b1 (kx (l.getD m default) (l.getD ((i+j)/2) default))) ?_;refine cf ?_;refine rl ?_;exact nx (i,(i+j)/2) ⟨h1,by dsimp only;omega,by dsimp only;omega,c1,.inr hc⟩
  refine mU (z6 (by omega) (by omega) hc) (b1 (kx (l.getD m default) (l.getD ((i+j)/2) default))) ?_;refine ct ?_;refine rl ?_;exact nx ((i+j)/2+1,j) ⟨by dsimp only;omega,by dsimp only;omega,h3,.inr (by dsimp only;rw[Zl];omega),c2⟩
 obtain⟨i,j⟩:=x;obtain⟨h1,h2,h3,c1,c2⟩:=hv;simp only at h h1 h2 h3 c1 c2;have e:j=i:=by omega
 subst e;refine rS ?_;refine fo (fun k:Nat=>⟨an [(0,some (gs 0 cap l)),(2,some (.int .i64 (m:Nat))),(4,some jG),(14,some (.int .i64 (j:Nat))),(17,some (.int .i64 (k:Nat)))],wd [(0,some (ro 58 (bz l k m (m+1))))] 1 [] 0,[]⟩) (fun k=>j<=k/\k<=m) (fun k=>k) m ⟨h3,Nat.le_refl _⟩ (fun k hv h=>?_) (fun k hv h=>?_) (h0:=by rw[lQ (by omega) (by omega)];exact bg)
 ·have hR:(bz l k m (m+1)).length=l.length:=eN (by omega) (by omega) (by omega);have hdn:gc (bz l k m (m+1)) k (k-1)=bz l (k-1) m (m+1):=qm (by omega) hv.2 (by omega);generalize bz l k m (m+1)=R at hR hdn ⊢;refine bs (wa ?_);refine rl ?_;rw[mj (by omega) (by omega),hdn];exact nx (k-1) ⟨by omega,by omega⟩
 have e:k=j:=by omega
 rw[e,pK hb h1 h3 s1 c1 c2];refine rt ?_;exact⟨rfl,by simp(disch:=decide) only[ae,ab,aa]⟩
set_option maxHeartbeats 2000000 in
theorem XM{n:Nat}(ih:∀(l:List Ce) (a m b cap:Nat),IJ l a m b->b-a<n->Bi l a m b cap)(l:List Ce)(a m b cap:Nat)(hg:IJ l a m b)(hN:b-a<n+1)(hm1:m≠a+1)(hm2:b≠m+1):Bi l a m b cap:=by
 obtain⟨am,mb,hb,hn,s1,s2⟩:=hg;refine m3 Tryz.func140 Tryz.results140 (h:=?_);refine rS ?_;refine cf ?_;refine sk (rS ?_);refine cf ?_;refine sk ?_;obtain⟨mid,hmid⟩:∃mid,mid=(a+b)/2:=⟨_,rfl⟩;obtain⟨lo,hlo⟩:∃lo,lo=if mid<m then mid+m-b else a:=⟨_,rfl⟩
 obtain⟨hi,hhi⟩:∃hi,hi=if mid<m then mid else m:=⟨_,rfl⟩
 have b1':a<=lo:=by split at hlo<;>omega
 have b2':lo<=hi:=by split at hlo<;>split at hhi<;>omega
 have b3':hi<=mid:=by split at hhi<;>omega
 have b4':hi<=m:=by split at hhi<;>omega
 have b5':mid+m<=b+lo:=by split at hlo<;>omega
 refine rs ?_;refine cv [(0,some (gs 0 cap l)),(1,some (.int .i64 (a:Nat))),(2,some (.int .i64 (m:Nat))),(3,some (.int .i64 (b:Nat))),(4,some jG),(18,some (.int .i64 (mid:Nat)))] [(0,some (ro 58 l))] 1 ?_;refine rs ?_;refine rs ?_;refine jP ⟨an [(0,some (gs 0 cap l)),(1,some (.int .i64 (a:Nat))),(2,some (.int .i64 (m:Nat))),(3,some (.int .i64 (b:Nat))),(4,some jG),(18,some (.int .i64 (mid:Nat))),(19,some (.int .i64 ((mid+m:Nat):Int))),(20,some (.int .i64 (lo:Nat))),(21,some (.int .i64 (hi:Nat)))],wd [(0,some (ro 58 l))] 1 [] 0,[]⟩ ?_ ?_
 ·by_cases hmm:mid<m
  ·rw[hlo,if_pos hmm,hhi,if_pos hmm];refine rs ?_;refine ct ?_;refine rs ?_;refine rl ?_;exact bg
  rw[hlo,if_neg hmm,hhi,if_neg hmm];refine rs ?_;refine cf ?_;refine rs ?_;refine rl ?_;exact bg
 refine rs ?_;refine ak ?_;refine fo (fun x:Nat×Nat=>⟨an [(0,some (gs 0 cap l)),(1,some (.int .i64 (a:Nat))),(2,some (.int .i64 (m:Nat))),(3,some (.int .i64 (b:Nat))),(4,some jG),(18,some (.int .i64 (mid:Nat))),(19,some (.int .i64 ((mid+m:Nat):Int))),(20,some (.int .i64 (x.1:Nat))),(21,some (.int .i64 (x.2:Nat))),(22,some (.int .i64 ((mid+m-1:Nat):Int)))],wd [(0,some (ro 58 l))] 1 [] 0,[]⟩)
  (fun x=>lo<=x.1/\x.1<=x.2/\x.2<=hi/\(x.1=lo\/bH ar l (x.1-1)<=bH ar l (mid+m-x.1))/\(x.2=hi\/bH ar l (mid+m-x.2-1)<bH ar l x.2)) (fun x=>x.2-x.1) (lo,hi) ⟨Nat.le_refl _,b2',Nat.le_refl _,.inl rfl,.inl rfl⟩ (fun x hv h=>?_) (fun x hv h=>?_)
 ·obtain⟨s,r⟩:=x;obtain⟨h1,h2,h3,c1,c2⟩:=hv;simp only at h h1 h2 h3 c1 c2;obtain⟨c,hc⟩:∃c,c=(s+r)/2:=⟨_,rfl⟩;refine aC (rs ?_);rw[<-hc];by_cases hcc:bH ar l (mid+m-1-c)<bH ar l c
  ·refine mU (At (by omega) (by omega) hcc) (b1 (kx (l.getD (mid+m-1-c) default) (l.getD c default))) ?_;refine cf ?_;refine rl ?_;exact nx (s,c) ⟨h1,by dsimp only;omega,by dsimp only;omega,c1,.inr (by dsimp only;rw[show mid+m-c-1=mid+m-1-c by omega];exact hcc)⟩
  refine mU (z6 (by omega) (by omega) hcc) (b1 (kx (l.getD (mid+m-1-c) default) (l.getD c default))) ?_;refine ct ?_;refine rl ?_;exact nx (c+1,r) ⟨by dsimp only;omega,by dsimp only;omega,h3,.inr (by dsimp only;rw[Zl,show mid+m-(c+1)=mid+m-1-c by omega];omega),c2⟩
 obtain⟨s,r⟩:=x;obtain⟨h1,h2,h3,c1,c2⟩:=hv;simp only at h h1 h2 h3 c1 c2;have e:r=s:=by omega
 subst e;obtain⟨e,he⟩:∃e,e=mid+m-r:=⟨_,rfl⟩;obtain⟨g1,g2,g3,g4,g5,g6,t1,t2,t3,t4,teq⟩:=BW (key:=ar) (l:=l) (a:=a) (m:=m) (b:=b) (s:=r) ⟨lo,hi,hb,am,mb,by rw[hlo,hmid],by rw[hhi,hmid],h1,h3,by rw[<-hmid];exact c1,by rw[<-hmid];exact c2⟩ s1 s2 e (by rw[he,hmid]);rw[<-hmid]at g2 g6 t2 t3 teq;have hlr:(bz l r m e).length=l.length:=eN g3 g4 (by omega);refine rs ?_;rw[<-he];refine jP ⟨an [(0,some (gs 0 cap l)),(1,some (.int .i64 (a:Nat))),(2,some (.int .i64 (m:Nat))),(3,some (.int .i64 (b:Nat))),(4,some jG),(18,some (.int .i64 (mid:Nat))),(20,some (.int .i64 (r:Nat))),(24,some (.int .i64 (e:Nat)))],wd [(0,some (ro 58 (bz l r m e)))] 1 [] 0,[]⟩ ?_ ?_
 ·by_cases hgo:r<m/\m<e
  ·obtain⟨hg1,hg2⟩:=hgo;refine rs ?_;refine ct ?_;refine oQ (iN (Si l r m e cap hg1 hg2 (by omega) hn)) ?_;exact bg
  have hsame:bz l r m e=l:=by
   by_cases e1:r=m
   ·subst e1;exact lQ (by omega) (by omega)
   have e2:e=m:=by omega
   rw[e2];exact oA (by omega) (by omega)
  rw[hsame];by_cases e1:r<m<;>(
   refine rs ?_;refine cf ?_;exact ap bg)
 generalize bz l r m e=R at t1 t2 t3 t4 teq hlr ⊢;have hl2:(bm ar R a mid).length=l.length:=by rw[dh (by omega) (by omega),hlr]
 have t3':bG ar (dG (bm ar R a mid) mid e):=by rw[kN (by omega) (by omega) (.inr (Nat.le_refl _))];exact t3
 have t4':bG ar (dG (bm ar R a mid) e b):=by rw[kN (by omega) (by omega) (.inr g6)];exact t4
 refine jP ⟨an [(0,some (gs 0 cap l)),(1,some (.int .i64 (a:Nat))),(2,some (.int .i64 (m:Nat))),(3,some (.int .i64 (b:Nat))),(4,some jG),(18,some (.int .i64 (mid:Nat))),(20,some (.int .i64 (r:Nat))),(24,some (.int .i64 (e:Nat)))],wd [(0,some (ro 58 (bm ar R a mid)))] 1 [] 0,[]⟩ ?_ ?_
 ·by_cases e1:a<r
  ·by_cases e2:r<mid
   ·refine rs ?_;refine ct ?_;refine oQ (iN (ih R a r mid cap ⟨e1,e2,by omega,by omega,t1,t2⟩ (by omega))) ?_;exact bg
   rw[gd (by omega) (by omega) (by rw[<-show r=mid by omega];exact t1)];refine rs ?_;refine cf ?_;exact ap bg
  rw[gd (by omega) (by omega) (by rw[show r=a by omega]at t2;exact t2)];refine rs ?_;refine cf ?_;exact ap bg
 generalize bm ar R a mid=S at t3' t4' teq hl2 ⊢;rw[<-teq];by_cases e1:mid<e
 ·by_cases e2:e<b
  ·refine rs ?_;refine ct ?_;refine oQ (iN (ih S mid e b cap ⟨e1,e2,by omega,by omega,t3',t4'⟩ (by omega))) ?_;refine re ?_;exact⟨rfl,by simp(disch:=decide) only[ae,ab,aa]⟩
  rw[gd (by omega) (by omega) (by rw[<-show e=b by omega];exact t3')];refine rs ?_;refine cf ?_;refine ap (re ?_);exact⟨rfl,by simp(disch:=decide) only[ae,ab,aa]⟩
 rw[gd (by omega) (by omega) (by rw[show e=mid by omega]at t4';exact t4')];refine rs ?_;refine cf ?_;refine ap (re ?_);exact⟨rfl,by simp(disch:=decide) only[ae,ab,aa]⟩
theorem xN:∀(n:Nat) (l:List Ce) (a m b cap:Nat),IJ l a m b->b-a<n->Bi l a m b cap
 |0,l,a,m,b,cap,hg,h=>by omega
 |n+1,l,a,m,b,cap,hg,hN=>by
  by_cases h1:m=a+1
  ·exact Xo l a m b cap hg h1
  by_cases h2:b=m+1
  ·exact Xw l a m b cap hg h1 h2
  exact XM (xN n) l a m b cap hg hN h1 h2
set_option maxHeartbeats 2000000 in
theorem Nb(l0:List Ce)(cap:Nat)(hn:l0.length<=1000000):Fw Tryz.prog 117 [.int .i64 (l0.length:Nat),jG] 58 cap l0 (.tuple #[]) (bB ar l0):=by
 obtain⟨n,hnl⟩:∃n,n=l0.length:=⟨_,rfl⟩;refine m3 Tryz.func117 Tryz.results117 (h:=?_);rw[<-hnl];refine rs ?_;refine rs ?_;refine ak ?_;refine fo (fun x:Nat×List Ce=>⟨an [(0,some (gs 0 cap l0)),(1,some (.int .i64 (n:Nat))),(2,some jG),(6,some (.int .i64 ((20:Nat):Int))),(7,some (.int .i64 (x.1:Nat))),(8,some (.int .i64 ((x.1+20:Nat):Int)))],wd [(0,some (ro 58 x.2))] 1 [] 0,[]⟩) (fun x=>x.2.length=n/\x.1<=n/\Nonempty (wQ ar 20 l0 x.2 x.1)) (fun x=>n-x.1) (0,l0) ⟨hnl.symm,Yq _,wq l0⟩ (fun x hv h=>?_) (fun x hv h=>?_)
 ·obtain⟨a,l⟩:=x;obtain⟨hl,ha,hb⟩:=hv;simp only at h hl ha hb;refine aC ?_;refine rc (iN (DI l a (a+20) cap (by omega) (by omega) (by omega))) ?_;refine rs ?_;refine rl ?_;exact nx (a+20,bm ar l a (a+20)) ⟨by dsimp only;rw[dh (by omega) (by omega),hl],by dsimp only;omega,hb.elim fun h=>yq h (by omega)⟩ (by dsimp only;omega)
 obtain⟨a,l⟩:=x;obtain⟨hl,ha,hb⟩:=hv;simp only at h hl ha hb;have hch:fJ ar 20 (bm ar l a n)/\∀k,fk ar k (bm ar l a n)=fk ar k l0:=hb.elim fun h=>by
  rw[<-hl];exact BN h (by omega)
 have hsl:(bm ar l a n).length=n:=by rw[dh (by omega) (by omega),hl]
 refine rc (iN (DI l a n cap (by omega) (by omega) (by omega))) ?_;generalize bm ar l a n=R at hch hsl ⊢;clear h hb ha hl;refine fo (fun x:Nat×List Ce=>⟨an [(0,some (gs 0 cap l0)),(1,some (.int .i64 (n:Nat))),(2,some jG),(6,some (.int .i64 (x.1:Nat)))],wd [(0,some (ro 58 x.2))] 1 [] 0,[]⟩)
  (fun x=>x.2.length=n/\0<x.1/\(x.1=20\/x.1<=2*n)/\fJ ar x.1 x.2/\∀k,fk ar k x.2=fk ar k l0) (fun x=>n-x.1) (20,R) ⟨hsl,by dsimp only;omega,.inl rfl,hch.1,hch.2⟩ (fun x hv h=>?_) (fun x hv h=>?_)
 ·clear hch hsl;obtain⟨bs,l⟩:=x;obtain⟨hl,hp,hb,hc,hf⟩:=hv;simp only at h hl hp hb hc hf;refine aC (rs ?_);refine ak ?_;refine fo (fun x:Nat×List Ce=>⟨an [(0,some (gs 0 cap l0)),(1,some (.int .i64 (n:Nat))),(2,some jG),(6,some (.int .i64 (bs:Nat))),(7,some (.int .i64 (x.1:Nat))),(8,some (.int .i64 ((x.1+2*bs:Nat):Int)))],wd [(0,some (ro 58 x.2))] 1 [] 0,[]⟩)
   (fun x=>x.2.length=n/\x.1<=n/\Nonempty (A5 ar (2*bs) bs l0 x.2 x.1)) (fun x=>n-x.1) (0,l) ⟨hl,Yq _,yy (2*bs) hc hf⟩ (fun x hv h=>?_) (fun x hv h=>?_) (h0:=by simp only[Nat.zero_add];exact bg)
  ·obtain⟨a,r⟩:=x;obtain⟨hl,ha,hk⟩:=hv;simp only at h hl ha hk;obtain⟨s1,s2,h'⟩:=hk.elim fun h=>Ca h hp (by omega)
   refine aC ?_;refine rc (iN (xN (2*bs+1) r a (a+bs) (a+2*bs) cap ⟨by omega,by omega,by omega,by omega,s1,s2⟩ (by omega))) ?_;refine rs ?_;refine rl ?_;exact nx (a+2*bs,bm ar r a (a+2*bs)) ⟨by dsimp only;rw[dh (by omega) (by omega),hl],by dsimp only;omega,h'⟩ (by dsimp only;omega)
  obtain⟨a,r⟩:=x;obtain⟨hl,ha,hk⟩:=hv;simp only at h hl ha hk;obtain⟨R,hRl,hRc,hRf,hRe⟩:∃R,R.length=n/\fJ ar (2*bs) R/\(∀k,fk ar k R=fk ar k l0)/\(a+bs<n->bG ar (dG r a (a+bs))/\bG ar (dG r (a+bs) n)/\R=bm ar r a n)/\(n<=a+bs->R=r):=by
   rcases Yz (a+bs) n with q|q
   ·obtain⟨t1,t2,t3,t4⟩:=hk.elim fun h=>B4 h (by omega) (by omega)
    rw[hl]at t2 t3 t4;exact⟨_,by rw[dh (by omega) (by omega),hl],t3,t4,fun _=>⟨t1,t2,rfl⟩,fun w=>by omega⟩
   obtain⟨t3,t4⟩:=hk.elim fun h=>Ek h (by omega)
   exact⟨r,hl,t3,t4,fun w=>by omega,fun _=>rfl⟩
  refine jP ⟨an [(0,some (gs 0 cap l0)),(1,some (.int .i64 (n:Nat))),(2,some jG),(6,some (.int .i64 (bs:Nat)))],wd [(0,some (ro 58 R))] 1 [] 0,[]⟩ ?_ ?_
  ·by_cases q:a+bs<n
   ·obtain⟨t1,t2,rfl⟩:=hRe.1 q;refine rs ?_;refine rs ?_;refine ct ?_;refine oQ (iN (xN (n+1) r a (a+bs) n cap ⟨by omega,by omega,by omega,by omega,t1,t2⟩ (by omega))) ?_;exact bg
   obtain rfl:=hRe.2 (by omega);refine rs ?_;refine rs ?_;refine cf ?_;exact ap bg
  refine rl ?_;exact nx (bs*2,R) ⟨hRl,by dsimp only;omega,.inr (by dsimp only;omega),by dsimp only;rw[Nat.mul_comm];exact hRc,hRf⟩ (by dsimp only;omega)
 obtain⟨bs,l⟩:=x;obtain⟨hl,hp,hb,hc,hf⟩:=hv;simp only at h hl hp hb hc hf;refine re ?_;rw[<-CC hc hf (by omega)];exact⟨rfl,by simp(disch:=decide) only[ae,ab,aa]⟩
theorem OK(l:List Ce)(cap:Nat)(hn:l.length<=1000000):Fw Tryz.prog 101 [jG] 58 cap l (.tuple #[]) (bB ar l):=by
 refine m3 Tryz.func101 Tryz.results101 (h:=?_);refine oQ (iN (Nb l cap hn)) ?_;refine re ?_;exact⟨rfl,by simp(disch:=decide) only[ae,ab,aa]⟩
section
variable {P:Program} {H:cC} {N k:Nat} {all:Array Oper} {l:List Oper} {o:Oper} {s s1:XS} {Q:XQ}
theorem wt{t et ty:TypeId}{x y:Operand}{c:List Value}{n:Nat}(hw:ia all s.fr o=some true)(hop:o.op=.binOp .eql t x y ty)(hu:P.underlying t=some (.slice et))(hx:ev s.fr x=some (FZ c n))(hy:ev s.fr y=some (.slice none 0 0))
 (q:∀b:Bool,(b=true->c=[]/\n=0)->∃fr',cO N s.fr o.dst (some (.bool b))=some fr'/\gt P N k all l ⟨fr',s.W,s.ds⟩ Q):gt P N k all (o::l) s Q:=fun m ρ0 W0 w0 a w h0 h1 hc=>by
 obtain⟨ρ,⟨g1,g2,g3,g4⟩,g5,g6⟩:=hc;refine wpListIn_step fun K hK=>?_
 rw[if_pos (kq g3 hw)];refine⟨fun _ _=>trivial,?_⟩;rw[show o.semAt Fence.wide.round a.eval=execOp a.eval o from rfl];have hye:=(g3.ev y _ hy).of_flat 1 rfl;have key:∀(a0:Option Addr) (l0 k0:Nat),a.eval x=.slice a0 l0 k0->(execOp a.eval o).run P w=.ok (.value (.bool a0.isNone)) w:=fun a0 l0 k0 e=>by
  have h3:(Op.equal t (.slice a0 l0 k0) (.slice none 0 0)).run P w=.ok a0.isNone w:=by unfold Op.equal Op.maxDepth;rw[Op.equalIn,Yj,aB hu];cases a0<;>rfl
  have h4:(eqGuard .eql t x y (.slice a0 l0 k0) (.slice none 0 0)).run P w=.ok () w:=rfl;have h5:=(yD (P:=P) (x:=.slice a0 l0 k0) rfl h3).1;unfold execOp;rw[hop];show(do pure (Next.value (<-(do eqGuard .eql t x y (a.eval x) (a.eval y);Go.binOp .eql t (a.eval x) (a.eval y)))):Sem _).run P w=_;rw[e,hye,Yj,Yj,h4];show((Go.binOp .eql t (.slice a0 l0 k0) (.slice none 0 0)).run P w).andThen _=_;rw[h5];rfl
 obtain⟨_,_,⟨b,off,cap,c',e',f',_,_,e,_⟩|⟨e1,e2,a0,cap,e⟩⟩:=VR.fzInv (cs:=c.toArray) (g3.ev x _ hx)
 ·rw[key _ _ _ e,Oper.uponIn_value];obtain⟨fr',hp,hq⟩:=q false (fun h=>by cases h);exact hK _ _ (hq m ρ0 W0 w0 _ _ h0 h1 ⟨ρ,⟨g1,g2,FR.putT g3 (fun x e=>by cases e;exact .flat 1 _ rfl) hp,by rw[co];exact g4⟩,g5,trivial⟩)
 rw[key _ _ _ e,Oper.uponIn_value];obtain⟨fr',hp,hq⟩:=q a0.isNone (fun _=>⟨by simpa using congrArg Array.toList e1,e2⟩);exact hK _ _ (hq m ρ0 W0 w0 _ _ h0 h1 ⟨ρ,⟨g1,g2,FR.putT g3 (fun x e=>by cases e;exact .flat 1 _ rfl) hp,by rw[co];exact g4⟩,g5,trivial⟩)
end
section
variable {α:Type} [El α] {P:Program} {W:XW} {e:TypeId} {b cap i off m:Nat} {l:List α}
def Mc(m b i off:Nat):Value:=.pointer (some ⟨b,i*m+off,none⟩)
def I2(P:Program)(e:TypeId)(m i off:Nat):Option ag->Option Value
 |some (.cells c _ _)=>iM P e c (i*m+off)
 |_=>none
def IX(W:XW)(b m i off:Nat)(v:Value)(s:Nat)(_:Option ag):Option XR:=tS W (some (Mc m b i off)) (some v) (some s)
def Ku(m b i d:Nat):Option Nat->Option XR
 |some (_+1)=>val (Mc m b i d)
 |_=>none
def TB(P:Program)(m b i:Nat):Option Field->Option XR
 |some fd=>Ku m b i fd.offset (sz P fd.type)
 |none=>none
theorem QI:iQ P W e (Mc m b i off)=I2 P e m i off (W.get b):=by
 show(match W.get b with
  |some (.cells c _ _)=>iM P e c (i*m+off)
  |_=>none)=_
 cases W.get b with
 |none=>rfl
 |some o=>cases o<;>rfl
theorem Rk{s:Nat}{v:Value}:tS W (some (Mc m b i off)) (some v) (some s)=IX W b m i off v s (W.get b):=rfl
theorem QJ{f:Nat}{fs:Array Field}:qP P f (some (.struct fs)) (some (ep m b i))=TB P m b i fs[f]?:=by
 show xw P b (i*m) fs[f]?=_;cases fs[f]? with
 |none=>rfl
 |some fd=>
  show E6 b (i*m) fd.offset (sz P fd.type)=Ku m b i fd.offset (sz P fd.type);cases sz P fd.type with
  |none=>rfl
  |some n=>cases n<;>rfl
theorem Rb[Inhabited α](h:i<l.length)(ho:off<El.m α):(l.flatMap El.enc)[i*El.m α+off]?=(El.enc (l.getD i default))[off]?:=by
 rw[<-zJ h,YT,if_pos ho,Y1]
theorem VU[Inhabited α]{v:Value}{y:α}(h:i<l.length)(ho:off<El.m α)(hy:El.enc y=(El.enc (l.getD i default)).set off v):wr (l.flatMap El.enc) (i*El.m α+off) [v]=(l.set i y).flatMap El.enc:=by
 have hl:(wr (l.flatMap El.enc) (i*El.m α+off) [v])=(l.flatMap El.enc).set (i*El.m α+off) v:=by
  unfold wr;rw[List.set_eq_take_append_cons_drop,if_pos (by
   rw[cM];have:(i+1)*El.m α<=l.length*El.m α:=Zg _ h;rw[Za]at this;omega)]
  rfl
 rw[hl,<-Jd h];have e1:=zJ h;have hlen:i*El.m α+El.m α<=(l.flatMap El.enc).length:=by rw[cM];have:(i+1)*El.m α<=l.length*El.m α:=Zg _ h;rw[Za]at this;exact this
 generalize l.flatMap El.enc=c at e1 hlen ⊢;unfold wr;rw[hy,<-e1];have hc:c=c.take (i*El.m α)++((c.drop (i*El.m α)).take (El.m α)++c.drop (i*El.m α+El.m α)):=by rw[<-Zo,ZF,ZF]
 have h1:(c.take (i*El.m α)).length=i*El.m α:=by rw[Yk];omega
 have h2:((c.drop (i*El.m α)).take (El.m α)).length=El.m α:=by rw[Yk,Ym];omega
 rw[Yo,h2]
 conv=>lhs;rw[hc]
 rw[Zr _ _ (by omega),h1,Zh,List.set_append_left _ _ (by omega)]
theorem Al[Inhabited α]{e':TypeId}{v:Value}(hm:m=El.m α)(h:i<l.length)(ha:bw P e=some false)(ho:off<El.m α)(hv:(El.enc (l.getD i default))[off]?=some v):I2 P e m i off (some (ro e' l))=some v:=by
 subst hm;show iM P e (l.flatMap El.enc) (i*El.m α+off)=_;unfold iM;rw[ha];simp only;rw[Rb h ho,hv]
theorem Au[Inhabited α]{v:Value}{s:Nat}{y:α}(hg:W.get b=some (ro e l))(h:i<l.length)(ho:off<El.m α)(hm:m=El.m α)(hs:s=1)(hv:v.cells=#[v])(h1:de v=true)(hy:El.enc y=(El.enc (l.getD i default)).set off v)(o:Option ag):IX W b m i off v s o=some (.mod undef (W.put b (some (ro e (l.set i y))))):=by
 subst hs hm;show(bif Nat.beq v.cells.size 1 then lZ undef (dV W b (i*El.m α+off) v.cells.toList)else none)=_;rw[hv];show lZ undef (dV W b (i*El.m α+off) [v])=_;unfold dV;rw[hg];show lZ undef (bif Nat.ble (i*El.m α+off+1) (l.flatMap El.enc).length&&!mS (0,0) _ _&&([v].all de)then some (W.put b (some (.cells (wr (l.flatMap El.enc) (i*El.m α+off) [v]) e (0,0))))else none)=_;rw[cM,nk (by
  have:(i+1)*El.m α<=l.length*El.m α:=Zg _ h;rw[Za]at this;omega),VU h ho hy]
 simp only[List.all_cons,List.all_nil,h1];rfl
end
attribute [go_sem high] QI Rk QJ
attribute [go_sem] TB.eq_1 Ku.eq_1
theorem Uk{e':TypeId}{m i:Nat}{l:List Ce}(hm:m=3)(h:i<l.length):I2 Tryz.prog 3 m i 0 (some (ro e' l))=some (.int .i64 (l.getD i default).id):=Al hm h LH (by decide) rfl
theorem Nz{e':TypeId}{m i:Nat}{l:List Ce}(hm:m=3)(h:i<l.length):I2 Tryz.prog 3 m i 1 (some (ro e' l))=some (.int .i64 (l.getD i default).dim):=Al hm h LH (by decide) rfl
theorem SE{e':TypeId}{m i:Nat}{l:List Ce}(hm:m=3)(h:i<l.length):I2 Tryz.prog 56 m i 2 (some (ro e' l))=some (sl (l.getD i default).sd):=Al hm h MI (by decide) rfl
theorem QT{W:XW}{e:TypeId}{b i s m:Nat}{l:List Ce}{y:Int}(hg:W.get b=some (ro e l))(h:i<l.length)(hm:m=3)(hs:s=1):IX W b m i 0 (.int .i64 y) s (some (ro e l))=some (.mod undef (W.put b (some (ro e (l.set i ⟨y,(l.getD i default).dim,(l.getD i default).sd⟩))))):=Au hg h (by decide) hm hs rfl rfl rfl _
theorem MP{W:XW}{e:TypeId}{b i s m:Nat}{l:List Ce}{y:Int}(hg:W.get b=some (ro e l))(h:i<l.length)(hm:m=3)(hs:s=1):IX W b m i 1 (.int .i64 y) s (some (ro e l))=some (.mod undef (W.put b (some (ro e (l.set i ⟨(l.getD i default).id,y,(l.getD i default).sd⟩))))):=Au hg h (by decide) hm hs rfl rfl rfl _
theorem Rx{W:XW}{e:TypeId}{b i s m:Nat}{l:List Ce}{y:List Sd}(hg:W.get b=some (ro e l))(h:i<l.length)(hm:m=3)(hs:s=1):IX W b m i 2 (sl y) s (some (ro e l))=some (.mod undef (W.put b (some (ro e (l.set i ⟨(l.getD i default).id,(l.getD i default).dim,y⟩))))):=Au hg h (by decide) hm hs rfl rfl rfl _
attribute [go_sem] Uk Nz SE QT MP Rx
section
variable {P:Program} {k:Nat} {F F':List (Nat×Option Value)} {L L':List (Nat×Option ag)} {n n' nl nl':Nat} {lg lg':List Nat}
theorem Gl{n:Nat}{c:List Value}:TV (dq n c) (.pointer (some ⟨n,0,none⟩)) (FP c):=by
 have h:=EA (n:=n) (o:=0) (q:=c.length) (c:=c);rwa [List.drop_zero,List.take_length]at h
theorem DS(x:Nat){c:List Value}{e:TypeId}{fr:Nat×Nat}(hx:lk L x=some (.cells c e fr):=by repeat (first|exact ab|refine Eq.trans (aa (by decide)) ?_))(hn:x<n:=by decide)(hn2:x<16383:=by decide)
 (hF:cY (dq x c) F F':=by
  try dsimp only
  repeat' (first|exact dx|refine bS (by decide) (by repeat (first|exact ab|refine Eq.trans (aa (by decide)) ?_)) (by first|exact gO|exact Gl|exact vu rfl (by first|rfl|simp) (by simp only[Yh,List.length_cons,List.length_nil,Yk,Ym,aq,aH]<;>omega)) ?_))
 (hL:jD P x c n L L':=by
  try dsimp only
  repeat' (first|exact GI|exact DV|refine DK (by decide) (by decide) (by decide) (by repeat (first|exact ab|refine Eq.trans (aa (by decide)) ?_)) (by first|exact sV|(refine cg ?_;repeat (first|exact aR|refine au (by first|exact gO|exact Gl|exact vu rfl (by first|rfl|simp) (by simp only[Yh,List.length_cons,List.length_nil,Yk,Ym,aq,aH]<;>omega)) ?_))) ?_)) (hnn:n<=n':=by decide) :
 aX P k ⟨an F,wd L n lg nl,[]⟩ ⟨an F',wd L' n' lg' nl',[]⟩:=fz x hx hn hn2 hF hL hnn
theorem AW{T:RT}{b:Nat}{α:Type}:TV T (.slice none 0 0) (gs b aq ([]:List α)):=fun ρ ρ' x ht h=>by rw[h.of_flat 1 rfl];exact .sliceN _ _
theorem sw(R:List (Nat×Nat)){R1 R2:List (Nat×Option Nat)}(e1:R.map (fun p=>(p.1,some p.2))=R1:=by simp only[YM,Y9]<;>rfl)(e2:R.map (fun p=>(p.2,some p.1))=R2:=by simp only[YM,Y9]<;>rfl)
 (hR:jZ k n' R2 R1=true:=by decide) (hRi:∀p∈R2,p.1<n':=by decide) (hk:k<=n':=by decide)
 (hF:cY (aL (lk R1)) F F':=by
  try dsimp only
  repeat' (first|exact dx|refine bS (by decide) (by repeat (first|exact ab|refine Eq.trans (aa (by decide)) ?_)) (by first|exact fR (by decide) (by first|rfl|simp)|exact tv_gv (by decide) (by first|rfl|simp)|exact ca (by decide)|exact bN (by decide)|exact cz (by decide)|exact Br.h _ aj) ?_))
 (hL:fT P (aL (lk R1)) R1 n L L':=by
  try dsimp only
  repeat' (first|exact gT|exact ln|refine px (by first|exact ab|exact ah ab (by decide)|exact ah (ah ab (by decide)) (by decide)|exact ah (ah (ah ab (by decide)) (by decide)) (by decide)|exact ah (ah (ah (ah ab (by decide)) (by decide)) (by decide)) (by decide)|exact ah (ah (ah (ah (ah ab (by decide)) (by decide)) (by decide)) (by decide)) (by decide)|exact ah (ah (ah (ah (ah (ah ab (by decide)) (by decide)) (by decide)) (by decide)) (by decide)) (by decide)) (by first|decide|omega) (by decide) (by repeat (first|exact ab|refine Eq.trans (aa (by decide)) ?_)) (by first|exact bd aj (aF b7.h)|exact bd aj lA.h|exact jF (by decide)|exact iw .nil|(refine cg ?_;repeat (first|exact aR|refine au (by first|exact AW|exact fR (by decide) (by first|rfl|simp)|exact tv_gv (by decide) (by first|rfl|simp)|exact ca (by decide)|exact bN (by decide)|exact cz (by decide)|exact Br.h _ aj) ?_))) ?_)) :
 aX P k ⟨an F,wd L n lg nl,[]⟩ ⟨an F',wd L' n' lg' nl',[]⟩:=fA R1 R2 hR hRi hk hF hL .nil
end
theorem XY{P:Program}[hM:kJ P]{f:FuncId}{args:List Value}{S:aZ->XW->Prop}{fn:Func}{c:Code}{F:List (Nat×Option Value)}{N:Nat}{R:Array ResultVar}(hf:P.funcs[f]?=some fn)(hR:fn.results=R)(hc:fn.body=some c:=by rfl)(hN:fn.ntmps=N:=by rfl)(hl:args.length<=fn.ntmps:=by exact Nat.le_of_ble_eq_true rfl)
 (hF:bA 0 args []=F:=by simp only[bA.eq_1,bA.eq_2,Nat.reduceAdd]<;>with_reducible rfl) (h:ay P N 0 c ⟨an F,wd [] 0 [] 0,[]⟩ (qO P R.toList S)):aT P f args (wd [] 0 [] 0) S:=by
 subst hN hF hR;exact cy b0 hf hc hl (fh (fun ex s ⟨p,e',W',h1,h2,h3⟩=>⟨p,e',W',h1,by rw[<-l6];exact h2,h3⟩) h)
attribute [go_sem] Ah
theorem NN(l:List Ce)(hl:l.length<=1000000):Fr Tryz.prog 100 [sl l] 58 l:=by
 refine Gj Tryz.func100 Tryz.results100 (h:=?_);refine rs ?_;refine ak (ak (cm ?_));refine bq b0 1 (s1:=⟨an [(3,some (sl l)),(2,some (.slice none 0 0)),(0,some (sl l))],wd [] 0 [] 0,[]⟩) (by simp(disch:=decide) only[go_sem]<;>with_reducible rfl) ?_;refine wt (c:=l.flatMap El.enc) (n:=l.length) (et:=58) (by simp(disch:=decide) only[go_sem]<;>with_reducible rfl) rfl (by simp(disch:=decide) only[go_sem]<;>with_reducible rfl) (by show _=some (sl l);simp(disch:=decide) only[go_sem]<;>with_reducible rfl) (by simp(disch:=decide) only[go_sem]<;>with_reducible rfl) (fun b hb=>⟨an [(4,some (.bool b)),(3,some (sl l)),(2,some (.slice none 0 0)),(0,some (sl l))],by simp(disch:=decide) only[go_sem]<;>with_reducible rfl,cQ ?_⟩);refine cb (fun h=>?_) (fun h=>?_)
 ·have e:l=[]:=Yx (hb h).2;subst e;refine rs ?_;refine cv [(2,some (gs 9 aq ([]:List Ce)))] [(9,some (ro 58 ([]:List Ce)))] 10 ?_;refine rt ?_;exact⟨9,rfl,(ae (by decide) (by decide)).trans ab⟩
 refine sk (rs ?_);refine cv [(2,some (gs 1 aq l))] [(1,some (ro 58 l))] 2 ?_;refine rt ?_;exact⟨1,rfl,(ae (by decide) (by decide)).trans ab⟩
theorem O7(l:List Ce)(hl:l.length<=1000000):Fr Tryz.prog 65 [sl l,MN] 58 (bB ar l):=by
 have hsl:(bB ar l).length=l.length:=bO;refine Gj Tryz.func65 Tryz.results65 (h:=?_);refine rs ?_;refine rc (bh (rI (NN l hl))) ?_;refine cv [(3,some (FP [MN])),(5,some (gs 1 aq l))] [(1,some (ro 58 l))] 2 ?_ (hl:=DS 0);refine rc (iN (OK l aq hl)) ?_;refine cv [(5,some (gs 1 aq (bB ar l)))] [(1,some (ro 58 (bB ar l)))] 2 ?_;refine rs ?_;refine rt ?_;exact⟨1,rfl,by simp(disch:=decide) only[ae,ab,aa]⟩
def az(x:Sd):Int:=x.1
abbrev MM:Value:=.func (.func 68) #[] #[]
abbrev jI:Value:=.func (.func 106) #[] #[FP [MM]]
theorem NO(x:Sd):Fn Tryz.prog 68 [Jw x] (.ret (.int .i64 (az x))):=by
 refine ir Tryz.func68 Tryz.results68 (h:=?_);refine rs ?_;refine rs ?_;refine rt ?_;rfl
def WJ(a:List Value)(e:aZ):Prop:=∃x:Sd,a=[Jw x]/\e=.ret (.int .i64 (az x))
theorem Pn:bQ Tryz.prog 68 (rQ WJ):=zY (enters_of (by kernel_rfl)) fun a e ⟨x,h1,h2⟩=>by subst h1 h2;exact NO x
theorem O3{x:Sd}{W:XW}:rQ WJ [Jw x] W=some (.ret (.int .i64 (az x)),W):=BG ⟨x,rfl,rfl⟩ fun e' ⟨y,h2,h3⟩=>by
 simp only[List.cons.injEq,Value.agg.injEq,and_true]at h2;replace h2:=congrArg Array.toList h2;simp only[List.cons.injEq,Value.int.injEq,true_and,and_true]at h2;rw[h3];unfold az;rw[h2.1]
attribute [go_sem] O3
theorem ky(x y:Sd):Fn Tryz.prog 106 [Jw x,Jw y,FP [MM]] (.ret (.int .i64 (jN (az x) (az y)))):=by
 refine ir Tryz.func106 Tryz.results106 (h:=?_);refine rs ?_;refine Ia (ur Pn (nL (G4 (az x) (az y)))) ?_;refine rt ?_;rfl
set_option maxHeartbeats 1000000 in
theorem DZ(l:List Sd)(a b cap:Nat)(hab:a<=b)(hb:b<=l.length)(hn:l.length<=1000000):Fw Tryz.prog 141 [.int .i64 (a:Nat),.int .i64 (b:Nat),jI] 60 cap l (.tuple #[]) (bm az l a b):=by
 refine m3 Tryz.func141 Tryz.results141 (h:=?_);refine rs ?_;refine fo (fun i:Nat=>⟨an [(0,some (gs 0 cap l)),(1,some (.int .i64 (a:Nat))),(2,some (.int .i64 (b:Nat))),(3,some jI),(8,some (.int .i64 (i:Nat)))],wd [(0,some (ro 60 (bm az l a (min i b))))] 1 [] 0,[]⟩) (fun i=>a+1<=i/\(i<=b\/i=a+1)) (fun i=>b-i) (a+1) ⟨Nat.le_refl _,.inr rfl⟩ (fun i hv h=>?_) (fun i hv h=>?_) (h0:=by rw[vh (by omega) (by omega) (by omega)];exact bg)
 ·obtain⟨h1,h2⟩:=hv;rw[Zc (by omega)];have hS:(bm az l a i).length=l.length:=dh (by omega) (by omega);have hsrt:bG az (dG (bm az l a i) a i):=by rw[Bp (by omega) (by omega)];exact fu
  have hnest:bm az (bm az l a i) a (i+1)=bm az l a (i+1):=yr (by omega) (by omega) (by omega);generalize bm az l a i=S at hS hsrt hnest ⊢;refine bs (rs ?_);refine aC ?_;refine lp (fun j:Nat=>⟨an [(0,some (gs 0 cap l)),(1,some (.int .i64 (a:Nat))),(2,some (.int .i64 (b:Nat))),(3,some jI),(8,some (.int .i64 (i:Nat))),(9,some (.int .i64 (j:Nat)))],wd [(0,some (ro 60 (bz S j i (i+1))))] 1 [] 0,[]⟩) (fun j=>a<=j/\j<=i/\(j=i\/bH az S i<bH az S j)) (fun j=>j) i ⟨by omega,Nat.le_refl _,.inl rfl⟩ (fun j hv=>?_) (h0:=by rw[lQ (by omega) (by omega)];exact bg);obtain⟨j1,j2,jc⟩:=hv;have hR:(bz S j i (i+1)).length=l.length:=by rw[eN j2 (by omega) (by omega),hS]
  have g1:(bz S j i (i+1)).getD j default=S.getD i default:=to (by rw[eH (l:=S) j2 (show i<=i+1 by omega) (by omega) j,if_neg (by omega),if_pos (by omega),show j+(i-j)=i by omega]);have hdone:¬(a<j/\bH az S i<bH az S (j-1))->bz S j i (i+1)=bm az S a (i+1):=fun q=>pK (by omega) j1 j2 hsrt (by omega) jc
  by_cases haj:a<j
  ·have g2:(bz S j i (i+1)).getD (j-1) default=S.getD (j-1) default:=to (by rw[eH (l:=S) j2 (show i<=i+1 by omega) (by omega) (j-1),if_pos (by omega)]);have hdn:gc (bz S j i (i+1)) j (j-1)=bz S (j-1) i (i+1):=qm (by omega) j2 (by omega);by_cases hlt:bH az S i<bH az S (j-1)
   ·have hk:jN (az ((bz S j i (i+1)).getD j default)) (az ((bz S j i (i+1)).getD (j-1) default))<((0:Nat):Int):=by
     rw[g1,g2,<-gI (key:=az) (by omega),<-gI (key:=az) (by omega)];exact tA hlt
    generalize bz S j i (i+1)=R at hR hdn hk ⊢;refine E1 hk (b1 (ky (R.getD j default) (R.getD (j-1) default))) ?_;refine ct ?_;refine ap (bs (wa ?_));refine rl ?_;rw[mj (by omega) (by omega),hdn];exact nx (j-1) ⟨by omega,by omega,.inr hlt⟩
   have hk:¬jN (az ((bz S j i (i+1)).getD j default)) (az ((bz S j i (i+1)).getD (j-1) default))<((0:Nat):Int):=by rw[g1,g2,<-gI (key:=az) (by omega),<-gI (key:=az) (by omega)];exact tj hlt
   have hdone:=hdone fun q=>hlt q.2
   generalize bz S j i (i+1)=R at hR hdn hk hdone ⊢;refine E1 hk (b1 (ky (R.getD j default) (R.getD (j-1) default))) ?_;refine cf ?_;refine xe ?_;refine rl ?_;refine nx (i+1) ⟨by omega,.inl (by omega)⟩ (by omega) ?_;rw[hdone,hnest,Zc (by omega)];exact bg
  have hdone:=hdone fun q=>haj q.1
  refine rD ?_;refine cf ?_;refine xe ?_;refine rl ?_;refine nx (i+1) ⟨by omega,.inl (by omega)⟩ (by omega) ?_;rw[hdone,hnest,Zc (by omega)];exact bg
 rw[Nat.min_eq_right (by omega)];refine re ?_;exact⟨rfl,by simp(disch:=decide) only[ae,ab,aa]⟩
theorem AQ(l:List Sd)(a b n cap:Nat)(h1:a+n<=b)(h2:b+n<=l.length)(hn:l.length<=1000000):Fw Tryz.prog 156 [.int .i64 (a:Nat),.int .i64 (b:Nat),.int .i64 (n:Nat),jI] 60 cap l (.tuple #[]) (iq l a b n):=by
 refine m3 Tryz.func156 Tryz.results156 (h:=?_);refine rs ?_;refine fo (fun i:Nat=>⟨an [(0,some (gs 0 cap l)),(1,some (.int .i64 (a:Nat))),(2,some (.int .i64 (b:Nat))),(3,some (.int .i64 (n:Nat))),(10,some (.int .i64 (i:Nat)))],wd [(0,some (ro 60 (iq l a b i)))] 1 [] 0,[]⟩) (fun i=>i<=n) (fun i=>n-i) 0 (Yq _) (fun i hv h=>?_) (fun i hv h=>?_)
 ·have hR:(iq l a b i).length=l.length:=ed _;have hnx:iq l a b (i+1)=gc (iq l a b i) (a+i) (b+i):=rfl;generalize iq l a b i=R at hR hnx ⊢;refine bs (wa ?_);refine rl ?_;rw[mj (by omega) (by omega)];refine nx (i+1) (by omega) (by omega) ?_;rw[hnx];exact bg
 refine re ?_;rw[show i=n by omega];exact⟨rfl,by simp(disch:=decide) only[ae,ab,aa]⟩
theorem Ux(l:List Sd)(a m b cap:Nat)(h1:a<m)(h2:m<b)(h3:b<=l.length)(hn:l.length<=1000000):Fw Tryz.prog 152 [.int .i64 (a:Nat),.int .i64 (m:Nat),.int .i64 (b:Nat),jI] 60 cap l (.tuple #[]) (bz l a m b):=by
 refine m3 Tryz.func152 Tryz.results152 (h:=?_);refine rs ?_;refine rs ?_;refine ak ?_;refine fo (fun x:Nat×Nat×List Sd=>⟨an [(0,some (gs 0 cap l)),(2,some (.int .i64 (m:Nat))),(4,some jI),(10,some (.int .i64 (x.1:Nat))),(11,some (.int .i64 (x.2.1:Nat)))],wd [(0,some (ro 60 x.2.2))] 1 [] 0,[]⟩)
  (fun x=>x.2.2.length=l.length/\0<x.1/\x.1<=m/\0<x.2.1/\m+x.2.1<=l.length/\bz x.2.2 (m-x.1) m (m+x.2.1)=bz l a m b) (fun x=>x.1+x.2.1) (m-a,b-m,l) ⟨rfl,by dsimp only;omega,by dsimp only;omega,by dsimp only;omega,by dsimp only;omega,by dsimp only;rw[show m-(m-a)=a by omega,show m+(b-m)=b by omega]⟩ (fun x hv h=>?_) (fun x hv h=>?_)
 ·obtain⟨i,j,r⟩:=x;obtain⟨hr,hi,him,hj,hjn,heq⟩:=hv;simp only at h hr hi him hj hjn heq;refine aC ?_;by_cases hlt:j<i
  ·refine rs ?_;refine ct ?_;refine rc (iN (AQ r (m-i) m j cap (by omega) (by omega) (by omega))) ?_;refine rl ?_;exact nx (i-j,j,iq r (m-i) m j) ⟨(ed _).trans hr,by dsimp only;omega,by dsimp only;omega,hj,hjn,by dsimp only;rw[Hk him (by omega) hlt,heq]⟩
  refine rs ?_;refine cf ?_;refine rc (iN (AQ r (m-i) (m+j-i) i cap (by omega) (by omega) (by omega))) ?_;refine rl ?_;exact nx (i,j-i,iq r (m-i) (m+j-i) i) ⟨(ed _).trans hr,hi,him,by dsimp only;omega,by dsimp only;omega,by dsimp only;rw[I3 him (by omega) (by omega),heq]⟩
 obtain⟨i,j,r⟩:=x;obtain⟨hr,hi,him,hj,hjn,heq⟩:=hv;simp only at h hr hi him hj hjn heq;have e:j=i:=by omega
 subst e;refine oQ (iN (AQ r (m-j) m j cap (by omega) (by omega) (by omega))) ?_;refine re ?_;rw[<-heq,<-Gu him (by omega)];exact⟨rfl,by simp(disch:=decide) only[ae,ab,aa]⟩
structure Hp(l:List Sd)(a m b:Nat):Prop where
 am:a<m
 mb:m<b
 hb:b<=l.length
 hn:l.length<=1000000
 s1:bG az (dG l a m)
 s2:bG az (dG l m b)
abbrev Cb(l:List Sd)(a m b cap:Nat):Prop:=Fw Tryz.prog 142 [.int .i64 (a:Nat),.int .i64 (m:Nat),.int .i64 (b:Nat),jI] 60 cap l (.tuple #[]) (bm az l a b)
theorem AD{l:List Sd}{i j:Nat}(hi:i<l.length)(hj:j<l.length)(h:bH az l i<bH az l j):jN (az (l.getD i default)) (az (l.getD j default))<((0:Nat):Int):=by
 rw[<-gI (key:=az) hi,<-gI (key:=az) hj];exact tA h
theorem A6{l:List Sd}{i j:Nat}(hi:i<l.length)(hj:j<l.length)(h:¬bH az l i<bH az l j):¬jN (az (l.getD i default)) (az (l.getD j default))<((0:Nat):Int):=by
 rw[<-gI (key:=az) hi,<-gI (key:=az) hj];exact tj h
theorem W9(l:List Sd)(a m b cap:Nat)(hg:Hp l a m b)(hm:m=a+1):Cb l a m b cap:=by
 obtain⟨am,mb,hb,hn,s1,s2⟩:=hg;subst hm;refine m3 Tryz.func142 Tryz.results142 (h:=?_);refine rS ?_;refine ct ?_;refine rs ?_;refine rs ?_;refine ak ?_;refine fo (fun x:Nat×Nat=>⟨an [(0,some (gs 0 cap l)),(1,some (.int .i64 (a:Nat))),(4,some jI),(10,some (.int .i64 (x.1:Nat))),(11,some (.int .i64 (x.2:Nat)))],wd [(0,some (ro 60 l))] 1 [] 0,[]⟩)
  (fun x=>a+1<=x.1/\x.1<=x.2/\x.2<=b/\(x.1=a+1\/bH az l (x.1-1)<bH az l a)/\(x.2=b\/bH az l a<=bH az l x.2)) (fun x=>x.2-x.1) (a+1,b) ⟨Nat.le_refl _,by dsimp only;omega,Nat.le_refl _,.inl rfl,.inl rfl⟩ (fun x hv h=>?_) (fun x hv h=>?_)
 ·obtain⟨i,j⟩:=x;obtain⟨h1,h2,h3,c1,c2⟩:=hv;simp only at h h1 h2 h3 c1 c2;refine aC (rs ?_);by_cases hc:bH az l ((i+j)/2)<bH az l a
  ·refine mU (AD (by omega) (by omega) hc) (b1 (ky (l.getD ((i+j)/2) default) (l.getD a default))) ?_;refine ct ?_;refine rl ?_;exact nx ((i+j)/2+1,j) ⟨by dsimp only;omega,by dsimp only;omega,h3,.inr (by dsimp only;rw[Zl];exact hc),c2⟩
  refine mU (A6 (by omega) (by omega) hc) (b1 (ky (l.getD ((i+j)/2) default) (l.getD a default))) ?_;refine cf ?_;refine rl ?_;exact nx (i,(i+j)/2) ⟨h1,by dsimp only;omega,by dsimp only;omega,c1,.inr (by dsimp only;omega)⟩
 obtain⟨i,j⟩:=x;obtain⟨h1,h2,h3,c1,c2⟩:=hv;simp only at h h1 h2 h3 c1 c2;have e:j=i:=by omega
 subst e;refine rS ?_;refine fo (fun k:Nat=>⟨an [(0,some (gs 0 cap l)),(1,some (.int .i64 (a:Nat))),(4,some jI),(10,some (.int .i64 (j:Nat))),(13,some (.int .i64 (k:Nat)))],wd [(0,some (ro 60 (bz l a (a+1) (k+1))))] 1 [] 0,[]⟩) (fun k=>a<=k/\k+1<=j) (fun k=>j-k) a ⟨Nat.le_refl _,h1⟩ (fun k hv h=>?_) (fun k hv h=>?_) (h0:=by rw[oA (by omega) (by omega)];exact bg)
 ·have hR:(bz l a (a+1) (k+1)).length=l.length:=eN (by omega) (by omega) (by omega);have hup:gc (bz l a (a+1) (k+1)) k (k+1)=bz l a (a+1) (k+2):=Gx hv.1 (by omega);generalize bz l a (a+1) (k+1)=R at hR hup ⊢;refine bs (wa ?_);refine rl ?_;rw[mj (by omega) (by omega),hup];exact nx (k+1) ⟨by omega,by omega⟩
 have e:k+1=j:=by omega
 rw[e,Hm hb h1 h3 s2 c1 c2];refine rt ?_;exact⟨rfl,by simp(disch:=decide) only[ae,ab,aa]⟩
theorem WZ(l:List Sd)(a m b cap:Nat)(hg:Hp l a m b)(hm0:m≠a+1)(hm:b=m+1):Cb l a m b cap:=by
 obtain⟨am,mb,hb,hn,s1,s2⟩:=hg;subst hm;refine m3 Tryz.func142 Tryz.results142 (h:=?_);refine rS ?_;refine cf ?_;refine sk (rS ?_);refine ct ?_;refine rs ?_;refine rs ?_;refine ak ?_;refine fo (fun x:Nat×Nat=>⟨an [(0,some (gs 0 cap l)),(2,some (.int .i64 (m:Nat))),(4,some jI),(14,some (.int .i64 (x.1:Nat))),(15,some (.int .i64 (x.2:Nat)))],wd [(0,some (ro 60 l))] 1 [] 0,[]⟩)
  (fun x=>a<=x.1/\x.1<=x.2/\x.2<=m/\(x.1=a\/bH az l (x.1-1)<=bH az l m)/\(x.2=m\/bH az l m<bH az l x.2)) (fun x=>x.2-x.1) (a,m) ⟨Nat.le_refl _,by dsimp only;omega,Nat.le_refl _,.inl rfl,.inl rfl⟩ (fun x hv h=>?_) (fun x hv h=>?_)
 ·obtain⟨i,j⟩:=x;obtain⟨h1,h2,h3,c1,c2⟩:=hv;simp only at h h1 h2 h3 c1 c2;refine aC (rs ?_);by_cases hc:bH az l m<bH az l ((i+j)/2)
  ·refine mU (AD (by omega) (by omega) hc) (b1 (ky (l.getD m default) (l.getD ((i+j)/2) default))) ?_;refine cf ?_;refine rl ?_;exact nx (i,(i+j)/2) ⟨h1,by dsimp only;omega,by dsimp only;omega,c1,.inr hc⟩
  refine mU (A6 (by omega) (by omega) hc) (b1 (ky (l.getD m default) (l.getD ((i+j)/2) default))) ?_;refine ct ?_;refine rl ?_;exact nx ((i+j)/2+1,j) ⟨by dsimp only;omega,by dsimp only;omega,h3,.inr (by dsimp only;rw[Zl];omega),c2⟩
 obtain⟨i,j⟩:=x;obtain⟨h1,h2,h3,c1,c2⟩:=hv;simp only at h h1 h2 h3 c1 c2;have e:j=i:=by omega
 subst e;refine rS ?_;refine fo (fun k:Nat=>⟨an [(0,some (gs 0 cap l)),(2,some (.int .i64 (m:Nat))),(4,some jI),(14,some (.int .i64 (j:Nat))),(17,some (.int .i64 (k:Nat)))],wd [(0,some (ro 60 (bz l k m (m+1))))] 1 [] 0,[]⟩) (fun k=>j<=k/\k<=m) (fun k=>k) m ⟨h3,Nat.le_refl _⟩ (fun k hv h=>?_) (fun k hv h=>?_) (h0:=by rw[lQ (by omega) (by omega)];exact bg)
 ·have hR:(bz l k m (m+1)).length=l.length:=eN (by omega) (by omega) (by omega);have hdn:gc (bz l k m (m+1)) k (k-1)=bz l (k-1) m (m+1):=qm (by omega) hv.2 (by omega);generalize bz l k m (m+1)=R at hR hdn ⊢;refine bs (wa ?_);refine rl ?_;rw[mj (by omega) (by omega),hdn];exact nx (k-1) ⟨by omega,by omega⟩
 have e:k=j:=by omega
 rw[e,pK hb h1 h3 s1 c1 c2];refine rt ?_;exact⟨rfl,by simp(disch:=decide) only[ae,ab,aa]⟩
set_option maxHeartbeats 2000000 in
theorem XE{n:Nat}(ih:∀(l:List Sd) (a m b cap:Nat),Hp l a m b->b-a<n->Cb l a m b cap)(l:List Sd)(a m b cap:Nat)(hg:Hp l a m b)(hN:b-a<n+1)(hm1:m≠a+1)(hm2:b≠m+1):Cb l a m b cap:=by
 obtain⟨am,mb,hb,hn,s1,s2⟩:=hg;refine m3 Tryz.func142 Tryz.results142 (h:=?_);refine rS ?_;refine cf ?_;refine sk (rS ?_);refine cf ?_;refine sk ?_;obtain⟨mid,hmid⟩:∃mid,mid=(a+b)/2:=⟨_,rfl⟩;obtain⟨lo,hlo⟩:∃lo,lo=if mid<m then mid+m-b else a:=⟨_,rfl⟩
 obtain⟨hi,hhi⟩:∃hi,hi=if mid<m then mid else m:=⟨_,rfl⟩
 have b1':a<=lo:=by split at hlo<;>omega
 have b2':lo<=hi:=by split at hlo<;>split at hhi<;>omega
 have b3':hi<=mid:=by split at hhi<;>omega
 have b4':hi<=m:=by split at hhi<;>omega
 have b5':mid+m<=b+lo:=by split at hlo<;>omega
 refine rs ?_;refine cv [(0,some (gs 0 cap l)),(1,some (.int .i64 (a:Nat))),(2,some (.int .i64 (m:Nat))),(3,some (.int .i64 (b:Nat))),(4,some jI),(18,some (.int .i64 (mid:Nat)))] [(0,some (ro 60 l))] 1 ?_;refine rs ?_;refine rs ?_;refine jP ⟨an [(0,some (gs 0 cap l)),(1,some (.int .i64 (a:Nat))),(2,some (.int .i64 (m:Nat))),(3,some (.int .i64 (b:Nat))),(4,some jI),(18,some (.int .i64 (mid:Nat))),(19,some (.int .i64 ((mid+m:Nat):Int))),(20,some (.int .i64 (lo:Nat))),(21,some (.int .i64 (hi:Nat)))],wd [(0,some (ro 60 l))] 1 [] 0,[]⟩ ?_ ?_
 ·by_cases hmm:mid<m
  ·rw[hlo,if_pos hmm,hhi,if_pos hmm];refine rs ?_;refine ct ?_;refine rs ?_;refine rl ?_;exact bg
  rw[hlo,if_neg hmm,hhi,if_neg hmm];refine rs ?_;refine cf ?_;refine rs ?_;refine rl ?_;exact bg
 refine rs ?_;refine ak ?_;refine fo (fun x:Nat×Nat=>⟨an [(0,some (gs 0 cap l)),(1,some (.int .i64 (a:Nat))),(2,some (.int .i64 (m:Nat))),(3,some (.int .i64 (b:Nat))),(4,some jI),(18,some (.int .i64 (mid:Nat))),(19,some (.int .i64 ((mid+m:Nat):Int))),(20,some (.int .i64 (x.1:Nat))),(21,some (.int .i64 (x.2:Nat))),(22,some (.int .i64 ((mid+m-1:Nat):Int)))],wd [(0,some (ro 60 l))] 1 [] 0,[]⟩)
  (fun x=>lo<=x.1/\x.1<=x.2/\x.2<=hi/\(x.1=lo\/bH az l (x.1-1)<=bH az l (mid+m-x.1))/\(x.2=hi\/bH az l (mid+m-x.2-1)<bH az l x.2)) (fun x=>x.2-x.1) (lo,hi) ⟨Nat.le_refl _,b2',Nat.le_refl _,.inl rfl,.inl rfl⟩ (fun x hv h=>?_) (fun x hv h=>?_)
 ·obtain⟨s,r⟩:=x;obtain⟨h1,h2,h3,c1,c2⟩:=hv;simp only at h h1 h2 h3 c1 c2;obtain⟨c,hc⟩:∃c,c=(s+r)/2:=⟨_,rfl⟩;refine aC (rs ?_);rw[<-hc];by_cases hcc:bH az l (mid+m-1-c)<bH az l c
  ·refine mU (AD (by omega) (by omega) hcc) (b1 (ky (l.getD (mid+m-1-c) default) (l.getD c default))) ?_;refine cf ?_;refine rl ?_;exact nx (s,c) ⟨h1,by dsimp only;omega,by dsimp only;omega,c1,.inr (by dsimp only;rw[show mid+m-c-1=mid+m-1-c by omega];exact hcc)⟩
  refine mU (A6 (by omega) (by omega) hcc) (b1 (ky (l.getD (mid+m-1-c) default) (l.getD c default))) ?_;refine ct ?_;refine rl ?_;exact nx (c+1,r) ⟨by dsimp only;omega,by dsimp only;omega,h3,.inr (by dsimp only;rw[Zl,show mid+m-(c+1)=mid+m-1-c by omega];omega),c2⟩
 obtain⟨s,r⟩:=x;obtain⟨h1,h2,h3,c1,c2⟩:=hv;simp only at h h1 h2 h3 c1 c2;have e:r=s:=by omega
 subst e;obtain⟨e,he⟩:∃e,e=mid+m-r:=⟨_,rfl⟩;obtain⟨g1,g2,g3,g4,g5,g6,t1,t2,t3,t4,teq⟩:=BW (key:=az) (l:=l) (a:=a) (m:=m) (b:=b) (s:=r) ⟨lo,hi,hb,am,mb,by rw[hlo,hmid],by rw[hhi,hmid],h1,h3,by rw[<-hmid];exact c1,by rw[<-hmid];exact c2⟩ s1 s2 e (by rw[he,hmid]);rw[<-hmid]at g2 g6 t2 t3 teq;have hlr:(bz l r m e).length=l.length:=eN g3 g4 (by omega);refine rs ?_;rw[<-he];refine jP ⟨an [(0,some (gs 0 cap l)),(1,some (.int .i64 (a:Nat))),(2,some (.int .i64 (m:Nat))),(3,some (.int .i64 (b:Nat))),(4,some jI),(18,some (.int .i64 (mid:Nat))),(20,some (.int .i64 (r:Nat))),(24,some (.int .i64 (e:Nat)))],wd [(0,some (ro 60 (bz l r m e)))] 1 [] 0,[]⟩ ?_ ?_
 ·by_cases hgo:r<m/\m<e
  ·obtain⟨hg1,hg2⟩:=hgo;refine rs ?_;refine ct ?_;refine oQ (iN (Ux l r m e cap hg1 hg2 (by omega) hn)) ?_;exact bg
  have hsame:bz l r m e=l:=by
   by_cases e1:r=m
   ·subst e1;exact lQ (by omega) (by omega)
   have e2:e=m:=by omega
   rw[e2];exact oA (by omega) (by omega)
  rw[hsame];by_cases e1:r<m<;>(
   refine rs ?_;refine cf ?_;exact ap bg)
 generalize bz l r m e=R at t1 t2 t3 t4 teq hlr ⊢;have hl2:(bm az R a mid).length=l.length:=by rw[dh (by omega) (by omega),hlr]
 have t3':bG az (dG (bm az R a mid) mid e):=by rw[kN (by omega) (by omega) (.inr (Nat.le_refl _))];exact t3
 have t4':bG az (dG (bm az R a mid) e b):=by rw[kN (by omega) (by omega) (.inr g6)];exact t4
 refine jP ⟨an [(0,some (gs 0 cap l)),(1,some (.int .i64 (a:Nat))),(2,some (.int .i64 (m:Nat))),(3,some (.int .i64 (b:Nat))),(4,some jI),(18,some (.int .i64 (mid:Nat))),(20,some (.int .i64 (r:Nat))),(24,some (.int .i64 (e:Nat)))],wd [(0,some (ro 60 (bm az R a mid)))] 1 [] 0,[]⟩ ?_ ?_
 ·by_cases e1:a<r
  ·by_cases e2:r<mid
   ·refine rs ?_;refine ct ?_;refine oQ (iN (ih R a r mid cap ⟨e1,e2,by omega,by omega,t1,t2⟩ (by omega))) ?_;exact bg
   rw[gd (by omega) (by omega) (by rw[<-show r=mid by omega];exact t1)];refine rs ?_;refine cf ?_;exact ap bg
  rw[gd (by omega) (by omega) (by rw[show r=a by omega]at t2;exact t2)];refine rs ?_;refine cf ?_;exact ap bg
 generalize bm az R a mid=S at t3' t4' teq hl2 ⊢;rw[<-teq];by_cases e1:mid<e
 ·by_cases e2:e<b
  ·refine rs ?_;refine ct ?_;refine oQ (iN (ih S mid e b cap ⟨e1,e2,by omega,by omega,t3',t4'⟩ (by omega))) ?_;refine re ?_;exact⟨rfl,by simp(disch:=decide) only[ae,ab,aa]⟩
  rw[gd (by omega) (by omega) (by rw[<-show e=b by omega];exact t3')];refine rs ?_;refine cf ?_;refine ap (re ?_);exact⟨rfl,by simp(disch:=decide) only[ae,ab,aa]⟩
 rw[gd (by omega) (by omega) (by rw[show e=mid by omega]at t4';exact t4')];refine rs ?_;refine cf ?_;refine ap (re ?_);exact⟨rfl,by simp(disch:=decide) only[ae,ab,aa]⟩
theorem wG:∀(n:Nat) (l:List Sd) (a m b cap:Nat),Hp l a m b->b-a<n->Cb l a m b cap
 |0,l,a,m,b,cap,hg,h=>by omega
 |n+1,l,a,m,b,cap,hg,hN=>by
  by_cases h1:m=a+1
  ·exact W9 l a m b cap hg h1
  by_cases h2:b=m+1
  ·exact WZ l a m b cap hg h1 h2
  exact XE (wG n) l a m b cap hg hN h1 h2
set_option maxHeartbeats 2000000 in
theorem OS(l0:List Sd)(cap:Nat)(hn:l0.length<=1000000):Fw Tryz.prog 119 [.int .i64 (l0.length:Nat),jI] 60 cap l0 (.tuple #[]) (bB az l0):=by
 obtain⟨n,hnl⟩:∃n,n=l0.length:=⟨_,rfl⟩;refine m3 Tryz.func119 Tryz.results119 (h:=?_);rw[<-hnl];refine rs ?_;refine rs ?_;refine ak ?_;refine fo (fun x:Nat×List Sd=>⟨an [(0,some (gs 0 cap l0)),(1,some (.int .i64 (n:Nat))),(2,some jI),(6,some (.int .i64 ((20:Nat):Int))),(7,some (.int .i64 (x.1:Nat))),(8,some (.int .i64 ((x.1+20:Nat):Int)))],wd [(0,some (ro 60 x.2))] 1 [] 0,[]⟩) (fun x=>x.2.length=n/\x.1<=n/\Nonempty (wQ az 20 l0 x.2 x.1)) (fun x=>n-x.1) (0,l0) ⟨hnl.symm,Yq _,wq l0⟩ (fun x hv h=>?_) (fun x hv h=>?_)
 ·obtain⟨a,l⟩:=x;obtain⟨hl,ha,hb⟩:=hv;simp only at h hl ha hb;refine aC ?_;refine rc (iN (DZ l a (a+20) cap (by omega) (by omega) (by omega))) ?_;refine rs ?_;refine rl ?_;exact nx (a+20,bm az l a (a+20)) ⟨by dsimp only;rw[dh (by omega) (by omega),hl],by dsimp only;omega,hb.elim fun h=>yq h (by omega)⟩ (by dsimp only;omega)
 obtain⟨a,l⟩:=x;obtain⟨hl,ha,hb⟩:=hv;simp only at h hl ha hb;have hch:fJ az 20 (bm az l a n)/\∀k,fk az k (bm az l a n)=fk az k l0:=hb.elim fun h=>by
  rw[<-hl];exact BN h (by omega)
 have hsl:(bm az l a n).length=n:=by rw[dh (by omega) (by omega),hl]
 refine rc (iN (DZ l a n cap (by omega) (by omega) (by omega))) ?_;generalize bm az l a n=R at hch hsl ⊢;clear h hb ha hl;refine fo (fun x:Nat×List Sd=>⟨an [(0,some (gs 0 cap l0)),(1,some (.int .i64 (n:Nat))),(2,some jI),(6,some (.int .i64 (x.1:Nat)))],wd [(0,some (ro 60 x.2))] 1 [] 0,[]⟩)
  (fun x=>x.2.length=n/\0<x.1/\(x.1=20\/x.1<=2*n)/\fJ az x.1 x.2/\∀k,fk az k x.2=fk az k l0) (fun x=>n-x.1) (20,R) ⟨hsl,by dsimp only;omega,.inl rfl,hch.1,hch.2⟩ (fun x hv h=>?_) (fun x hv h=>?_)
 ·clear hch hsl;obtain⟨bs,l⟩:=x;obtain⟨hl,hp,hb,hc,hf⟩:=hv;simp only at h hl hp hb hc hf;refine aC (rs ?_);refine ak ?_;refine fo (fun x:Nat×List Sd=>⟨an [(0,some (gs 0 cap l0)),(1,some (.int .i64 (n:Nat))),(2,some jI),(6,some (.int .i64 (bs:Nat))),(7,some (.int .i64 (x.1:Nat))),(8,some (.int .i64 ((x.1+2*bs:Nat):Int)))],wd [(0,some (ro 60 x.2))] 1 [] 0,[]⟩)
   (fun x=>x.2.length=n/\x.1<=n/\Nonempty (A5 az (2*bs) bs l0 x.2 x.1)) (fun x=>n-x.1) (0,l) ⟨hl,Yq _,yy (2*bs) hc hf⟩ (fun x hv h=>?_) (fun x hv h=>?_) (h0:=by simp only[Nat.zero_add];exact bg)
  ·obtain⟨a,r⟩:=x;obtain⟨hl,ha,hk⟩:=hv;simp only at h hl ha hk;obtain⟨s1,s2,h'⟩:=hk.elim fun h=>Ca h hp (by omega)
   refine aC ?_;refine rc (iN (wG (2*bs+1) r a (a+bs) (a+2*bs) cap ⟨by omega,by omega,by omega,by omega,s1,s2⟩ (by omega))) ?_;refine rs ?_;refine rl ?_;exact nx (a+2*bs,bm az r a (a+2*bs)) ⟨by dsimp only;rw[dh (by omega) (by omega),hl],by dsimp only;omega,h'⟩ (by dsimp only;omega)
  obtain⟨a,r⟩:=x;obtain⟨hl,ha,hk⟩:=hv;simp only at h hl ha hk;obtain⟨R,hRl,hRc,hRf,hRe⟩:∃R,R.length=n/\fJ az (2*bs) R/\(∀k,fk az k R=fk az k l0)/\(a+bs<n->bG az (dG r a (a+bs))/\bG az (dG r (a+bs) n)/\R=bm az r a n)/\(n<=a+bs->R=r):=by
   rcases Yz (a+bs) n with q|q
   ·obtain⟨t1,t2,t3,t4⟩:=hk.elim fun h=>B4 h (by omega) (by omega)
    rw[hl]at t2 t3 t4;exact⟨_,by rw[dh (by omega) (by omega),hl],t3,t4,fun _=>⟨t1,t2,rfl⟩,fun w=>by omega⟩
   obtain⟨t3,t4⟩:=hk.elim fun h=>Ek h (by omega)
   exact⟨r,hl,t3,t4,fun w=>by omega,fun _=>rfl⟩
  refine jP ⟨an [(0,some (gs 0 cap l0)),(1,some (.int .i64 (n:Nat))),(2,some jI),(6,some (.int .i64 (bs:Nat)))],wd [(0,some (ro 60 R))] 1 [] 0,[]⟩ ?_ ?_
  ·by_cases q:a+bs<n
   ·obtain⟨t1,t2,rfl⟩:=hRe.1 q;refine rs ?_;refine rs ?_;refine ct ?_;refine oQ (iN (wG (n+1) r a (a+bs) n cap ⟨by omega,by omega,by omega,by omega,t1,t2⟩ (by omega))) ?_;exact bg
   obtain rfl:=hRe.2 (by omega);refine rs ?_;refine rs ?_;refine cf ?_;exact ap bg
  refine rl ?_;exact nx (bs*2,R) ⟨hRl,by dsimp only;omega,.inr (by dsimp only;omega),by dsimp only;rw[Nat.mul_comm];exact hRc,hRf⟩ (by dsimp only;omega)
 obtain⟨bs,l⟩:=x;obtain⟨hl,hp,hb,hc,hf⟩:=hv;simp only at h hl hp hb hc hf;refine re ?_;rw[<-CC hc hf (by omega)];exact⟨rfl,by simp(disch:=decide) only[ae,ab,aa]⟩
theorem NP(l:List Sd)(cap:Nat)(hn:l.length<=1000000):Fw Tryz.prog 105 [jI] 60 cap l (.tuple #[]) (bB az l):=by
 refine m3 Tryz.func105 Tryz.results105 (h:=?_);refine oQ (iN (OS l cap hn)) ?_;refine re ?_;exact⟨rfl,by simp(disch:=decide) only[ae,ab,aa]⟩
attribute [go_sem] Ah
theorem N1(l:List Sd)(hl:l.length<=1000000):Fr Tryz.prog 104 [sl l] 60 l:=by
 refine Gj Tryz.func104 Tryz.results104 (h:=?_);refine rs ?_;refine ak (ak (cm ?_));refine bq b0 1 (s1:=⟨an [(3,some (sl l)),(2,some (.slice none 0 0)),(0,some (sl l))],wd [] 0 [] 0,[]⟩) (by simp(disch:=decide) only[go_sem]<;>with_reducible rfl) ?_;refine wt (c:=l.flatMap El.enc) (n:=l.length) (et:=60) (by simp(disch:=decide) only[go_sem]<;>with_reducible rfl) rfl (by simp(disch:=decide) only[go_sem]<;>with_reducible rfl) (by show _=some (sl l);simp(disch:=decide) only[go_sem]<;>with_reducible rfl) (by simp(disch:=decide) only[go_sem]<;>with_reducible rfl) (fun b hb=>⟨an [(4,some (.bool b)),(3,some (sl l)),(2,some (.slice none 0 0)),(0,some (sl l))],by simp(disch:=decide) only[go_sem]<;>with_reducible rfl,cQ ?_⟩);refine cb (fun h=>?_) (fun h=>?_)
 ·have e:l=[]:=Yx (hb h).2;subst e;refine rs ?_;refine cv [(2,some (gs 9 aq ([]:List Sd)))] [(9,some (ro 60 ([]:List Sd)))] 10 ?_;refine rt ?_;exact⟨9,rfl,(ae (by decide) (by decide)).trans ab⟩
 refine sk (rs ?_);refine cv [(2,some (gs 1 aq l))] [(1,some (ro 60 l))] 2 ?_;refine rt ?_;exact⟨1,rfl,(ae (by decide) (by decide)).trans ab⟩
theorem Ox(l:List Sd)(hl:l.length<=1000000):Fn Tryz.prog 67 [sl l,MM] (.ret (sl (bB az l))):=by
 have hsl:(bB az l).length=l.length:=bO;refine ir Tryz.func67 Tryz.results67 (h:=?_);refine rs ?_;refine rc (bh (rI (N1 l hl))) ?_;refine cv [(3,some (FP [MM])),(5,some (gs 1 aq l))] [(1,some (ro 60 l))] 2 ?_ (hl:=DS 0);refine rc (iN (NP l aq hl)) ?_;refine cv [(5,some (gs 1 aq (bB az l)))] [(1,some (ro 60 (bB az l)))] 2 ?_;refine rs ?_;refine cv [(4,some (sl (bB az l)))] [] 2 ?_ (hl:=fz 1);refine rt ?_;rfl
end Go.Proofs.YthlkgmdkabelpaaGreat.X
