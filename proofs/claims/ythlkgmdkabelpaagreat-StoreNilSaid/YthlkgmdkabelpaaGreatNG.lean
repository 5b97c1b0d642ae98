/-
  Packed by program (tools/pack.py) out of the texts Y0 Y1 Y2 Y3 UK0 UK1 UKC UKD UKC2 UKD2 UKC3 UKD3 UKC4 UKD4. No condition.
-/
import Derived.Test.YthlkgmdkabelpaaGreatNS
import Derived.Test.YthlkgmdkabelpaaGreatNF
set_option linter.all false
open Nat(reduceAdd reduceMul reduceSub)
namespace Go.Proofs.YthlkgmdkabelpaaGreat.St
section
variable {α:Type} (key:α->Int)
def dP:List α->Prop
 |[]=>True
 |x::l=>(∀y∈l,key x<=key y)/\dP l
def fk(k:Int)(l:List α):List α:=l.filter fun x=>decide (key x=k)
def xC(l m:List α):Prop:=dP key m/\∀k,fk key k m=fk key k l
def mM(x:α):List α->List α
 |[]=>[x]
 |y::l=>if key y<key x then y::mM x l else x::y::l
def cg:List α->List α
 |[]=>[]
 |x::l=>mM key x (cg l)
end
section
variable {α:Type} {key:α->Int}
theorem m6{k:Int}{a b:List α}:fk key k (a++b)=fk key k a++fk key k b:=List.filter_append ..
theorem I1{k:Int}:fk key k []=[]:=rfl
theorem im{k:Int}{x:α}{l:List α}:fk key k (x::l)=if key x=k then x::fk key k l else fk key k l:=by
 unfold fk;rw[aaV];by_cases h:key x=k<;>simp[h]
theorem EY{k:Int}{l:List α}(h:∀x∈l,key x≠k):fk key k l=[]:=by
 unfold fk;rw[List.filter_eq_nil_iff];intro x hx;simpa using h x hx
theorem mY{k:Int}{l:List α}{x:α}:x∈fk key k l↔x∈l/\key x=k:=by
 unfold fk;rw[List.mem_filter];simp
theorem xC.mem{l m:List α}(h:xC key l m){x:α}:x∈m↔x∈l:=by
 have:=h.2 (key x);constructor
 ·intro hx;have:x∈fk key (key x) l:=by rw[<-this];exact mY.2 ⟨hx,rfl⟩
  exact(mY.1 this).1
 intro hx;have:x∈fk key (key x) m:=by rw[this];exact mY.2 ⟨hx,rfl⟩
 exact(mY.1 this).1
theorem kP{a b:List α}:dP key (a++b)↔dP key a/\dP key b/\∀x∈a,∀y∈b,key x<=key y:=by
 induction a with
 |nil=>simp[dP]
 |cons x a ih=>
  simp only[List.cons_append,dP,ih,List.mem_append,ZU];constructor
  ·rintro ⟨h1,h2,h3,h4⟩;refine⟨⟨fun y hy=>h1 y (.inl hy),h2⟩,h3,?_⟩;rintro z (rfl|hz) y hy
   ·exact h1 y (.inr hy)
   exact h4 z hz y hy
  rintro ⟨⟨h1,h2⟩,h3,h4⟩;refine⟨?_,h2,h3,fun z hz=>h4 z (.inr hz)⟩;rintro y (hy|hy)
  ·exact h1 y hy
  exact h4 x (.inl rfl) y hy
theorem dP.head{x:α}{l:List α}(h:dP key (x::l)):∀y∈l,key x<=key y:=h.1
theorem ro:∀{a b:List α},dP key a->dP key b->(∀k,fk key k a=fk key k b)->a=b
 |[],[],_,_,_=>rfl
 |[],y::b,_,_,h=>by
  have:=h (key y);rw[I1,im,if_pos rfl]at this;cases this
 |x::a,[],_,_,h=>by
  have:=h (key x);rw[I1,im,if_pos rfl]at this;cases this
 |x::a,y::b,ha,hb,h=>by
  have hx:x∈y::b:=(mY.1 (h (key x)▸mY.2 ⟨aaf,rfl⟩)).1;have hy:y∈x::a:=(mY.1 ((h (key y)).symm▸mY.2 ⟨aaf,rfl⟩)).1;have h1:key y<=key x:=by
   rcases List.mem_cons.1 hx with e|e
   ·rw[e];exact Int.le_refl _
   exact hb.1 x e
  have h2:key x<=key y:=by
   rcases List.mem_cons.1 hy with e|e
   ·rw[e];exact Int.le_refl _
   exact ha.1 y e
  have he:key x=key y:=Int.le_antisymm h2 h1;have:=h (key x);rw[im,im,if_pos rfl,if_pos he.symm]at this;obtain⟨rfl,_⟩:=List.cons.inj this;refine congrArg (x::·) (ro ha.2 hb.2 fun k=>?_);have:=h k;rw[im,im]at this;split at this
  ·exact(List.cons.inj this).2
  exact this
theorem EW{k:Int}{x:α}:∀{l:List α},fk key k (mM key x l)=fk key k (x::l)
 |[]=>rfl
 |y::l=>by
  unfold mM;split
  ·rename_i h;rw[im,EW,im,im,im];by_cases h1:key y=k
   ·rw[if_pos h1,if_neg (by omega),if_neg (by omega),if_pos h1]
   simp[h1]
  rfl
theorem Da{x z:α}:∀{l:List α},z∈mM key x l↔z=x\/z∈l
 |[]=>by simp[mM]
 |y::l=>by
  unfold mM;split
  ·rw[ZU,Da,ZU];constructor<;>(rintro (h|h|h)<;>simp[h])
  rw[ZU,ZU]
theorem DD{x:α}:∀{l:List α},dP key l->dP key (mM key x l)
 |[],_=>⟨fun _ h=>(by cases h),trivial⟩
 |y::l,h=>by
  unfold mM;split
  ·rename_i hlt;refine⟨fun z hz=>?_,DD h.2⟩;rcases Da.1 hz with rfl|hz
   ·omega
   exact h.1 z hz
  rename_i hlt;refine⟨fun z hz=>?_,h⟩;rcases List.mem_cons.1 hz with rfl|hz
  ·omega
  have:=h.1 z hz;omega
theorem gN:∀(l:List α),xC key l (cg key l)
 |[]=>⟨trivial,fun _=>rfl⟩
 |x::l=>by
  obtain⟨h1,h2⟩:=gN l;refine⟨DD h1,fun k=>?_⟩;show fk key k (mM key x (cg key l))=_;rw[EW,im,im,h2]
theorem xC.eq{l m:List α}(h:xC key l m):m=cg key l:=
 ro h.1 (gN l).1 fun k=>(h.2 k).trans ((gN l).2 k).symm
theorem xC.refl{l:List α}(h:dP key l):xC key l l:=⟨h,fun _=>rfl⟩
theorem j6{l:List α}(h:dP key l):cg key l=l:=(xC.refl h).eq.symm
theorem DX{l m:List α}(h:∀k,fk key k l=fk key k m):cg key l=cg key m:=
 ro (gN l).1 (gN m).1 fun k=>((gN l).2 k).trans ((h k).trans ((gN m).2 k).symm)
theorem oz{k:Int}{l:List α}:fk key k (cg key l)=fk key k l:=(gN l).2 k
theorem iG{l:List α}:dP key (cg key l):=(gN l).1
theorem ud{l:List α}{x:α}:x∈cg key l↔x∈l:=(gN l).mem
theorem vp{x:α}:∀{l:List α},(mM key x l).length=l.length+1
 |[]=>rfl
 |y::l=>by
  unfold mM;split
  ·rw[List.length_cons,vp,List.length_cons]
  rfl
theorem cZ:∀{l:List α},(cg key l).length=l.length
 |[]=>rfl
 |x::l=>by
  show(mM key x (cg key l)).length=_;rw[vp,cZ];rfl
theorem pV{u1 u2 v1 v2:List α}(hu:∀x∈u1,∀y∈u2,key x<=key y)(hv:∀x∈v1,∀y∈v2,key x<=key y)(h1:∀x∈u1,∀y∈v2,key x<=key y)(h2:∀x∈v1,∀y∈u2,key x<key y) :
 cg key (u1++u2++(v1++v2))=cg key (u1++v1)++cg key (u2++v2):=by
 refine ro iG ?_ fun k=>?_
 ·rw[kP];refine⟨iG,iG,fun x hx y hy=>?_⟩;rw[ud,List.mem_append]at hx hy;rcases hx with hx|hx<;>rcases hy with hy|hy
  ·exact hu x hx y hy
  ·exact h1 x hx y hy
  ·exact Int.le_of_lt (h2 x hx y hy)
  exact hv x hx y hy
 rw[oz,m6 (a:=cg key _),oz,oz];simp only[m6,Z7];congr 1;rw[<-Z7,<-Z7];congr 1;by_cases h:∃x∈v1,key x=k
 ·obtain⟨x,hx,rfl⟩:=h;rw[EY (l:=u2) fun y hy e=>by have:=h2 x hx y hy;omega];simp
 rw[EY (l:=v1) fun y hy e=>h ⟨y,hy,e⟩];simp
def bH(key:α->Int)(l:List α)(a b:Nat):List α:=l.take a++cg key ((l.take b).drop a)++l.drop b
theorem ew{l:List α}{a b:Nat}(h:a<=b)(hb:b<=l.length):(bH key l a b).length=l.length:=by
 unfold bH;simp only[ZM,ZR,ZV,cZ];omega
end
section
variable {α:Type}
def eS(l:List α)(i j:Nat):List α:=match l[i]?,l[j]? with
 |some x,some y=>(l.set i y).set j x
 |_,_=>l
def cy(l:List α)(a m b:Nat):List α:=l.take a++((l.drop m).take (b-m)++((l.drop a).take (m-a)++l.drop b))
def fI(l:List α)(a b:Nat):Nat->List α
 |0=>l
 |n+1=>eS (fI l a b n) (a+n) (b+n)
theorem Dr{l:List α}{i j:Nat}:(eS l i j).length=l.length:=by
 unfold eS;split<;>simp
theorem ur{l:List α}{i j:Nat}(hi:i<l.length)(hj:j<l.length)(q:Nat):(eS l i j)[q]?=if q=j then l[i]? else if q=i then l[j]? else l[q]?:=by
 unfold eS;rw[ZP hi,ZP hj];simp only;rw[List.getElem?_set,List.getElem?_set];by_cases h1:q=j
 ·subst h1;simp[hj]
 rw[if_neg (fun e=>h1 e.symm),if_neg h1];by_cases h2:q=i
 ·subst h2;simp[hi]
 rw[if_neg (fun e=>h2 e.symm),if_neg h2]
theorem fH{l:List α}{a b:Nat}:∀n,(fI l a b n).length=l.length
 |0=>rfl
 |n+1=>by rw[fI,Dr,fH]
theorem uE{l:List α}{a b:Nat}:∀{n:Nat},a+n<=b->b+n<=l.length->∀q,(fI l a b n)[q]?=if a<=q/\q<a+n then l[q-a+b]? else if b<=q/\q<b+n then l[q-b+a]? else l[q]?
 |0,_,_,q=>by rw[fI,if_neg (by omega),if_neg (by omega)]
 |n+1,h1,h2,q=>by
  rw[fI,ur (by rw[fH];omega) (by rw[fH];omega)];simp only[uE (show a+n<=b by omega) (show b+n<=l.length by omega)];by_cases e1:q=b+n
  ·subst e1;rw[if_pos rfl,if_neg (by omega),if_neg (by omega),if_neg (by omega),if_pos (by omega)];congr 1;omega
  rw[if_neg e1];by_cases e2:q=a+n
  ·subst e2;rw[if_pos rfl,if_neg (by omega),if_neg (by omega),if_pos (by omega)];congr 1;omega
  rw[if_neg e2]
  repeat' split
  all_goals first|omega|rfl|(congr 1;omega)
theorem gj{l:List α}{a m b:Nat}(h1:a<=m)(h2:m<=b)(h3:b<=l.length):(cy l a m b).length=l.length:=by
 unfold cy;simp only[ZM,ZR,ZV];omega
theorem fw{l:List α}{a m b:Nat}(h1:a<=m)(h2:m<=b)(h3:b<=l.length)(q:Nat):(cy l a m b)[q]?=if q<a then l[q]? else if q<a+(b-m)then l[q+(m-a)]? else if q<b then l[q-(b-m)]? else l[q]?:=by
 unfold cy;rw[aax,ZR,aai (by omega)];by_cases c1:q<a
 ·rw[if_pos c1,if_pos c1,aaj,if_pos c1]
 rw[if_neg c1,if_neg c1,aax,ZR,ZV,aai (by omega)];by_cases c2:q<a+(b-m)
 ·rw[if_pos (by omega),if_pos c2,aaj,if_pos (by omega),aas];congr 1;omega
 rw[if_neg (by omega),if_neg c2,aax,ZR,ZV,aai (by omega)];by_cases c3:q<b
 ·rw[if_pos (by omega),if_pos c3,aaj,if_pos (by omega),aas];congr 1;omega
 rw[if_neg (by omega),if_neg c3,aas];congr 1;omega
theorem mL{l:List α}{a b:Nat}(h:a<=b)(hb:b<=l.length):cy l a a b=l:=by
 refine aao fun q=>?_
 rw[fw (Nat.le_refl _) h hb];split
 ·rfl
 split
 ·congr 1;omega
 split
 ·omega
 rfl
theorem pA{l:List α}{a b:Nat}(h:a<=b)(hb:b<=l.length):cy l a b b=l:=by
 refine aao fun q=>?_
 rw[fw h (Nat.le_refl _) hb];split
 ·rfl
 split
 ·omega
 split
 ·congr 1;omega
 rfl
theorem IH{l:List α}{m i j:Nat}(hi:i<=m)(hj:m+j<=l.length)(h:j<i):cy (fI l (m-i) m j) (m-(i-j)) m (m+j)=cy l (m-i) m (m+j):=by
 refine aao fun q=>?_
 rw[fw (by omega) (by omega) (by rw[fH];omega),fw (by omega) (by omega) hj];simp only[uE (show m-i+j<=m by omega) hj]
 repeat' split
 all_goals first|omega|rfl|(congr 1;omega)
theorem If{l:List α}{m i j:Nat}(hi:i<=m)(hj:m+j<=l.length)(h:i<j):cy (fI l (m-i) (m+j-i) i) (m-i) m (m+(j-i))=cy l (m-i) m (m+j):=by
 refine aao fun q=>?_
 rw[fw (by omega) (by omega) (by rw[fH];omega),fw (by omega) (by omega) hj];simp only[uE (show m-i+i<=m+j-i by omega) (show m+j-i+i<=l.length by omega)]
 repeat' split
 all_goals first|omega|rfl|(congr 1;omega)
theorem IC{l:List α}{m i:Nat}(hi:i<=m)(hj:m+i<=l.length):fI l (m-i) m i=cy l (m-i) m (m+i):=by
 refine aao fun q=>?_
 rw[fw (by omega) (by omega) hj];simp only[uE (show m-i+i<=m by omega) hj]
 repeat' split
 all_goals first|omega|rfl|(congr 1;omega)
theorem H3{l:List α}{a k:Nat}(h:a<=k)(hk:k+2<=l.length):eS (cy l a (a+1) (k+1)) k (k+1)=cy l a (a+1) (k+2):=by
 have hl:(cy l a (a+1) (k+1)).length=l.length:=gj (by omega) (by omega) (by omega);refine aao fun q=>?_
 rw[ur (by omega) (by omega)];simp only[fw (show a<=a+1 by omega) (show a+1<=k+1 by omega) (show k+1<=l.length by omega),fw (show a<=a+1 by omega) (show a+1<=k+2 by omega) (show k+2<=l.length by omega)]
 repeat' split
 all_goals first|omega|rfl|(congr 1;omega)
theorem rM{l:List α}{k m:Nat}(hk:0<k)(h:k<=m)(hm:m+1<=l.length):eS (cy l k m (m+1)) k (k-1)=cy l (k-1) m (m+1):=by
 have hl:(cy l k m (m+1)).length=l.length:=gj (by omega) (by omega) (by omega);refine aao fun q=>?_
 rw[ur (by omega) (by omega)];simp only[fw (show k<=m by omega) (show m<=m+1 by omega) (show m+1<=l.length by omega),fw (show k-1<=m by omega) (show m<=m+1 by omega) (show m+1<=l.length by omega)]
 repeat' split
 all_goals first|omega|rfl|(congr 1;omega)
end
section
variable {α:Type} {key:α->Int}
theorem JY{p x q:List α}:((p++(x++q)).take (p.length+x.length)).drop p.length=x:=by
 rw[<-Z7,aa7 (by rw[ZM]),aaS rfl]
theorem eD{p x q:List α}{a b:Nat}(ha:a=p.length)(hb:b=p.length+x.length):bH key (p++(x++q)) a b=p++(cg key x++q):=by
 subst ha hb;unfold bH;rw[JY,aa7 rfl,<-Z7 p x q,aaS (by rw[ZM]),Z7]
theorem uB{p u v q:List α}{a m b:Nat}(ha:a=p.length)(hm:m=a+u.length)(hb:b=m+v.length):cy (p++(u++(v++q))) a m b=p++(v++(u++q)):=by
 subst ha hm hb;unfold cy;rw[aa7 rfl,aaS rfl,aaM,aaM,aa7 rfl];rw[show p++(u++(v++q))=(p++u)++(v++q) by simp,aaS (by rw[ZM]),aa7 rfl];rw[show p++u++(v++q)=(p++u++v)++q by simp,aaS (by rw[ZM,ZM])]
theorem x9{l:List α}{a b:Nat}(h1:a<=b)(h2:b<=l.length):∃p x q,l=p++(x++q)/\p.length=a/\x.length=b-a:=
 ⟨l.take a,(l.drop a).take (b-a),l.drop b,by
  rw[show l.drop b=(l.drop a).drop (b-a) by rw[List.drop_drop];congr 1;omega,aa9,aa9],by rw[ZR];omega,by rw[ZR,ZV];omega⟩
theorem getElem?_mid{p x q:List α}{i:Nat}(h1:p.length<=i)(h2:i<p.length+x.length):(p++(x++q))[i]?=x[i-p.length]?:=by
 rw[aax,if_neg (by omega),aax,if_pos (by omega)]
theorem dP.le_last{l:List α}(h:dP key l){z:α}(hz:l[l.length-1]?=some z):∀x∈l,key x<=key z:=by
 induction l with
 |nil=>intro x hx;cases hx
 |cons y l ih=>
  intro x hx;cases l with
  |nil=>
   simp at hz hx;subst hz hx;exact Int.le_refl _
  |cons w l'=>
   have hz':(w::l')[(w::l').length-1]?=some z:=by rw[<-hz];simp
   rcases List.mem_cons.1 hx with rfl|hx
   ·exact h.1 z (aaC hz')
   exact ih h.2 hz' x hx
theorem dP.first_le{l:List α}(h:dP key l){z:α}(hz:l[0]?=some z):∀x∈l,key z<=key x:=by
 cases l with
 |nil=>intro x hx;cases hx
 |cons y l=>
  simp at hz;subst hz;intro x hx;rcases List.mem_cons.1 hx with rfl|hx
  ·exact Int.le_refl _
  exact h.1 x hx
end
section
variable {α:Type} {key:α->Int}
def eU(l:List α)(a b:Nat):List α:=(l.take b).drop a
def dh(key:α->Int)(l:List α)(i:Nat):Int:=(l[i]?.map key).getD 0
theorem eW{p x q:List α}{a b:Nat}(ha:a=p.length)(hb:b=p.length+x.length):eU (p++(x++q)) a b=x:=by
 subst ha hb;exact JY
theorem sw{l:List α}{a b:Nat}(hb:b<=l.length):(eU l a b).length=b-a:=by
 unfold eU;rw[ZV,ZR,aai hb]
theorem Fa{l:List α}{a b:Nat}:bH key l a b=l.take a++(cg key (eU l a b)++l.drop b):=by
 unfold bH eU;rw[Z7]
theorem E7{l:List α}{a b i:Nat}:(eU l a b)[i]?=if a+i<b then l[a+i]? else none:=by
 unfold eU;rw[aas,aaj]
theorem Ci{l:List α}{a b q:Nat}(h1:a<=b)(h2:b<=l.length)(h:q<a\/b<=q):(bH key l a b)[q]?=l[q]?:=by
 rw[Fa,aax,ZR,aai (by omega)];rcases h with h|h
 ·rw[if_pos h,aaj,if_pos h]
 rw[if_neg (by omega),aax,cZ,sw h2,if_neg (by omega),aas];congr 1;omega
theorem I5{l m:List α}{a b:Nat}(h:∀q,a<=q->q<b->l[q]?=m[q]?):eU l a b=eU m a b:=by
 refine aao fun i=>?_
 rw[E7,E7];split
 ·exact h _ (by omega) (by omega)
 rfl
theorem ml{l:List α}{a b c d:Nat}(h1:a<=b)(h2:b<=l.length)(h:d<=a\/b<=c):eU (bH key l a b) c d=eU l c d:=
 I5 fun q g1 g2=>Ci h1 h2 (by omega)
theorem BV{l:List α}{a b:Nat}(h1:a<=b)(h2:b<=l.length):eU (bH key l a b) a b=cg key (eU l a b):=by
 rw[Fa];exact eW (by rw[ZR];omega) (by rw[ZR,cZ,sw h2];omega)
theorem is{l:List α}{a b:Nat}(h1:a<=b)(h2:b<=l.length)(h:dP key (eU l a b)):bH key l a b=l:=by
 obtain⟨p,x,q,rfl,hp,hx⟩:=x9 h1 h2;have hb:b=p.length+x.length:=by omega
 rw[eW hp.symm hb]at h;rw[eD hp.symm hb,j6 h]
theorem xd{l:List α}{a b:Nat}(h:b<=a+1)(h1:a<=b)(h2:b<=l.length):bH key l a b=l:=is h1 h2 (by
 have hl:=sw (a:=a) h2
 match hs:eU l a b with
 |[]=>exact trivial
 |[x]=>exact⟨fun _ h=>(by cases h),trivial⟩
 |x::y::t=>rw[hs]at hl;simp at hl;omega)
theorem L5{l:List α}{a s m e b:Nat}(h1:a<=s)(h2:s<=m)(h3:m<=e)(h4:e<=b)(h5:b<=l.length) :
 ∃p u1 u2 v1 v2 q,l=p++(u1++(u2++(v1++(v2++q))))/\p.length=a/\u1.length=s-a/\u2.length=m-s/\v1.length=e-m/\v2.length=b-e:=by
 obtain⟨p,x,q,rfl,hp,hx⟩:=x9 (show a<=b by omega) h5;obtain⟨u,v,w,rfl,hu,hv⟩:=x9 (l:=x) (a:=s-a) (b:=m-a) (by omega) (by omega);have hw:w.length=b-m:=by simp only[ZM]at hx;omega
 refine⟨p,u,v,w.take (e-m),w.drop (e-m),q,?_,hp,hu,by omega,by rw[ZR];omega,by rw[ZV];omega⟩;simp only[Z7];rw[<-Z7 (w.take _),aa9]
theorem uq{l:List α}{i:Nat}{x:α}(h:l[i]?=some x):dh key l i=key x:=by unfold dh;rw[h];rfl
theorem lL{p x q:List α}{i:Nat}(h1:p.length<=i)(h2:i<p.length+x.length):∃y∈x,x[i-p.length]?=some y/\dh key (p++(x++q)) i=key y:=by
 have h:i-p.length<x.length:=by omega
 refine⟨x[i-p.length],aay h,ZP h,?_⟩;refine uq ?_;rw[getElem?_mid h1 h2,ZP h]
structure Uf(key:α->Int)(l:List α)(a m b s:Nat) where
 lo:Nat
 hi:Nat
 hb:b<=l.length
 am:a<m
 mb:m<b
 elo:lo=if(a+b)/2<m then(a+b)/2+m-b else a
 ehi:hi=if(a+b)/2<m then(a+b)/2 else m
 h1:lo<=s
 h2:s<=hi
 c1:s=lo\/dh key l (s-1)<=dh key l ((a+b)/2+m-s)
 c2:s=hi\/dh key l ((a+b)/2+m-s-1)<dh key l s
theorem DK{l:List α}{a m b s:Nat}(h:Uf key l a m b s)(hs1:dP key (eU l a m))(hs2:dP key (eU l m b)) :
 ∀e,e=(a+b)/2+m-s->a<=s/\s<=(a+b)/2/\s<=m/\m<=e/\e<=b/\(a+b)/2<=e/\dP key (eU (cy l s m e) a s)/\dP key (eU (cy l s m e) s ((a+b)/2))/\dP key (eU (cy l s m e) ((a+b)/2) e)/\dP key (eU (cy l s m e) e b) /\
  bH key (bH key (cy l s m e) a ((a+b)/2)) ((a+b)/2) b=bH key l a b:=by
 obtain⟨lo,hi,hb,am,mb,elo,ehi,g1,g2,c1,c2⟩:=h;intro e he;obtain⟨mid,hmid⟩:∃mid,mid=(a+b)/2:=⟨_,rfl⟩;rw[<-hmid]at elo ehi c1 c2 he ⊢;have b1:a<=s:=by split at elo<;>omega
 have b2:s<=mid:=by split at ehi<;>omega
 have b3:s<=m:=by split at ehi<;>omega
 have b4:m<=e:=by omega
 have b5:e<=b:=by split at elo<;>omega
 have b6:mid<=e:=by omega
 refine⟨b1,b2,b3,b4,b5,b6,?_⟩;obtain⟨p,u1,u2,v1,v2,q,rfl,hp,hu1,hu2,hv1,hv2⟩:=L5 b1 b3 b4 b5 hb;have es:s=(p++u1).length:=by rw[ZM];omega
 have hr:cy (p++(u1++(u2++(v1++(v2++q))))) s m e=p++(u1++(v1++(u2++(v2++q)))):=by rw[<-Z7,uB (p:=p++u1) (u:=u2) (v:=v1) (q:=v2++q) es (by omega) (by omega),Z7]
 rw[hr];have q1:eU (p++(u1++(u2++(v1++(v2++q))))) a m=u1++u2:=by rw[<-Z7 u1];exact eW hp.symm (by rw[ZM];omega)
 have q2:eU (p++(u1++(u2++(v1++(v2++q))))) m b=v1++v2:=by rw[<-Z7 v1,<-Z7 p,<-Z7 (p++u1)];exact eW (by simp only[ZM];omega) (by simp only[ZM];omega)
 rw[q1]at hs1;rw[q2]at hs2;obtain⟨su1,su2,sux⟩:=kP.1 hs1;obtain⟨sv1,sv2,svx⟩:=kP.1 hs2;refine⟨?_,?_,?_,?_,?_⟩
 ·rw[eW hp.symm (by omega)];exact su1
 ·rw[<-Z7,eW es (by rw[ZM];omega)];exact sv1
 ·rw[<-Z7 u1,<-Z7,eW (by simp only[ZM];omega) (by simp only[ZM];omega)];exact su2
 ·rw[<-Z7 v1,<-Z7 u1,<-Z7,eW (by simp only[ZM];omega) (by simp only[ZM];omega)];exact sv2
 have hx:∀x∈u1,∀y∈v2,key x<=key y:=fun x hx y hy=>by
  have hlu:u1.length≠0:=fun e=>by rw[List.length_eq_zero_iff.1 e]at hx;cases hx
  have hlv:v2.length≠0:=fun e=>by rw[List.length_eq_zero_iff.1 e]at hy;cases hy
  have c:dh key (p++(u1++(u2++(v1++(v2++q))))) (s-1)<=dh key (p++(u1++(u2++(v1++(v2++q))))) e:=by
   rcases c1 with c|c
   ·split at elo<;>omega
   rw[he];exact c
  obtain⟨z,hz,hz1,hz2⟩:=lL (key:=key) (p:=p) (x:=u1) (q:=u2++(v1++(v2++q))) (i:=s-1) (by omega) (by omega);have hz3:=su1.le_last (show u1[u1.length-1]?=some z by rw[<-hz1];congr 1;omega) x hx;rw[hz2]at c;have heq:p++(u1++(u2++(v1++(v2++q))))=(p++(u1++(u2++v1)))++(v2++q):=by simp
  rw[heq]at c;obtain⟨w,hw,hw1,hw2⟩:=lL (key:=key) (p:=p++(u1++(u2++v1))) (x:=v2) (q:=q) (i:=e) (by simp only[ZM];omega) (by simp only[ZM];omega);have hw3:=sv2.first_le (show v2[0]?=some w by rw[<-hw1];congr 1;simp only[ZM];omega) y hy
  rw[hw2]at c;omega
 have hy:∀x∈v1,∀y∈u2,key x<key y:=fun x hx y hy=>by
  have hlu:u2.length≠0:=fun e=>by rw[List.length_eq_zero_iff.1 e]at hy;cases hy
  have hlv:v1.length≠0:=fun e=>by rw[List.length_eq_zero_iff.1 e]at hx;cases hx
  have c:dh key (p++(u1++(u2++(v1++(v2++q))))) (e-1)<dh key (p++(u1++(u2++(v1++(v2++q))))) s:=by
   rcases c2 with c|c
   ·split at ehi<;>omega
   rw[he];exact c
  have heq:p++(u1++(u2++(v1++(v2++q))))=(p++u1)++(u2++(v1++(v2++q))):=by simp
  have heq2:p++(u1++(u2++(v1++(v2++q))))=(p++(u1++u2))++(v1++(v2++q)):=by simp
  obtain⟨w,hw,hw1,hw2⟩:=lL (key:=key) (p:=p++u1) (x:=u2) (q:=v1++(v2++q)) (i:=s) (by simp only[ZM];omega) (by simp only[ZM];omega);have hw3:=su2.first_le (show u2[0]?=some w by rw[<-hw1];congr 1;simp only[ZM];omega) y hy
  obtain⟨z,hz,hz1,hz2⟩:=lL (key:=key) (p:=p++(u1++u2)) (x:=v1) (q:=v2++q) (i:=e-1) (by simp only[ZM];omega) (by simp only[ZM];omega);have hz3:=sv1.le_last (show v1[v1.length-1]?=some z by rw[<-hz1];congr 1;simp only[ZM];omega) x hx;rw[<-heq2]at hz2;rw[<-heq]at hw2;rw[hz2,hw2]at c;omega
 rw[show p++(u1++(v1++(u2++(v2++q))))=p++((u1++v1)++(u2++(v2++q))) by simp,eD hp.symm (by rw[ZM];omega)];rw[show p++(cg key (u1++v1)++(u2++(v2++q)))=(p++cg key (u1++v1))++((u2++v2)++q) by simp,eD (by rw[ZM,cZ,ZM];omega) (by rw[ZM,cZ];simp only[ZM];omega)];rw[show p++(u1++(u2++(v1++(v2++q))))=p++((u1++u2++(v1++v2))++q) by simp,eD hp.symm (by simp only[ZM];omega),pV sux svx hx hy];simp
theorem Jg{l:List α}{a b i:Nat}(hb:b<=l.length)(h1:a+1<=i)(h2:i<=b)(hs:dP key (eU l (a+1) b))(c1:i=a+1\/dh key l (i-1)<dh key l a)(c2:i=b\/dh key l a<=dh key l i) :
 cy l a (a+1) i=bH key l a b:=by
 obtain⟨p,u1,x,v1,v2,q,rfl,hp,hu1,hx,hv1,hv2⟩:=L5 (Nat.le_refl a) (show a<=a+1 by omega) h1 h2 hb;have:u1=[]:=List.length_eq_zero_iff.1 (by omega);subst this;obtain⟨x,rfl⟩:∃y,x=[y]:=List.length_eq_one_iff.1 (by omega);simp only[List.nil_append];have hs':dP key (v1++v2):=by
  have:eU (p++([]++([x]++(v1++(v2++q))))) (a+1) b=v1++v2:=by rw[show p++([]++([x]++(v1++(v2++q))))=(p++[x])++((v1++v2)++q) by simp];exact eW (by rw[ZM];simp;omega) (by simp only[ZM,List.length_cons,List.length_nil];omega)
  rw[this]at hs;exact hs
 obtain⟨sv1,sv2,svx⟩:=kP.1 hs';rw[uB hp.symm (by simp) (by omega)];rw[show p++([x]++(v1++(v2++q)))=p++(([]++[x]++(v1++v2))++q) by simp,eD hp.symm (by simp only[ZM,List.length_cons,List.length_nil];omega)];have ex:∀w:List α,dh key (p++([]++([x]++w))) a=key x:=fun w=>uq (by rw[List.nil_append,aax,if_neg (by omega),hp,Nat.sub_self];rfl)
 rw[ex]at c1 c2;have hlt:∀z∈v1,∀y∈[x],key z<key y:=fun z hz y hy=>by
  rw[List.mem_singleton]at hy;subst hy;have hl:v1.length≠0:=fun e=>by rw[List.length_eq_zero_iff.1 e]at hz;cases hz
  rcases c1 with c|c
  ·omega
  rw[show p++([]++([y]++(v1++(v2++q))))=(p++[y])++(v1++(v2++q)) by simp]at c;obtain⟨w,hw,hw1,hw2⟩:=lL (key:=key) (p:=p++[y]) (x:=v1) (q:=v2++q) (i:=i-1) (by simp only[ZM,List.length_cons,List.length_nil];omega) (by simp only[ZM,List.length_cons,List.length_nil];omega);have:=sv1.le_last (show v1[v1.length-1]?=some w by rw[<-hw1];congr 1;simp only[ZM,List.length_cons,List.length_nil];omega) z hz;omega
 have hle:∀y∈v2,key x<=key y:=fun y hy=>by
  have hl:v2.length≠0:=fun e=>by rw[List.length_eq_zero_iff.1 e]at hy;cases hy
  rcases c2 with c|c
  ·omega
  rw[show p++([]++([x]++(v1++(v2++q))))=(p++([x]++v1))++(v2++q) by simp]at c;obtain⟨w,hw,hw1,hw2⟩:=lL (key:=key) (p:=p++([x]++v1)) (x:=v2) (q:=q) (i:=i) (by simp only[ZM,List.length_cons,List.length_nil];omega) (by simp only[ZM,List.length_cons,List.length_nil];omega);have:=sv2.first_le (show v2[0]?=some w by rw[<-hw1];congr 1;simp only[ZM,List.length_cons,List.length_nil];omega) y hy
  omega
 rw[pV (fun _ h=>by cases h) svx (fun _ h=>by cases h) hlt,List.nil_append,j6 sv1,j6 (l:=[x]++v2) ⟨hle,sv2⟩];simp
theorem rJ{l:List α}{a b i:Nat}(hb:b+1<=l.length)(h1:a<=i)(h2:i<=b)(hs:dP key (eU l a b))(c1:i=a\/dh key l (i-1)<=dh key l b)(c2:i=b\/dh key l b<dh key l i) :
 cy l i b (b+1)=bH key l a (b+1):=by
 obtain⟨p,u1,u2,x,v2,q,rfl,hp,hu1,hu2,hx,hv2⟩:=L5 h1 h2 (show b<=b+1 by omega) (Nat.le_refl _) hb;have:v2=[]:=List.length_eq_zero_iff.1 (by omega);subst this;obtain⟨x,rfl⟩:∃y,x=[y]:=List.length_eq_one_iff.1 (by omega);simp only[List.nil_append];have hs':dP key (u1++u2):=by
  have:eU (p++(u1++(u2++([x]++([]++q))))) a b=u1++u2:=by rw[show p++(u1++(u2++([x]++([]++q))))=p++((u1++u2)++([x]++q)) by simp];exact eW hp.symm (by simp only[ZM];omega)
  rw[this]at hs;exact hs
 obtain⟨su1,su2,sux⟩:=kP.1 hs';rw[show p++(u1++(u2++([x]++q)))=(p++u1)++(u2++([x]++q)) by simp,uB (by rw[ZM];omega) (by omega) (by simp)];rw[show p++u1++(u2++([x]++q))=p++((u1++u2++([x]++[]))++q) by simp,eD hp.symm (by simp only[ZM,List.length_cons,List.length_nil];omega)];have ex:dh key (p++(u1++(u2++([x]++([]++q))))) b=key x:=uq (by
  rw[show p++(u1++(u2++([x]++([]++q))))=(p++(u1++u2))++([x]++q) by simp,aax,if_neg (by simp only[ZM];omega),show b-(p++(u1++u2)).length=0 by simp only[ZM];omega];rfl)
 rw[ex]at c1 c2;have hle:∀y∈u1,∀z∈[x],key y<=key z:=fun y hy z hz=>by
  rw[List.mem_singleton]at hz;subst hz;have hl:u1.length≠0:=fun e=>by rw[List.length_eq_zero_iff.1 e]at hy;cases hy
  rcases c1 with c|c
  ·omega
  obtain⟨w,hw,hw1,hw2⟩:=lL (key:=key) (p:=p) (x:=u1) (q:=u2++([z]++([]++q))) (i:=i-1) (by omega) (by omega);have:=su1.le_last (show u1[u1.length-1]?=some w by rw[<-hw1];congr 1;omega) y hy;omega
 have hlt:∀z∈[x],∀y∈u2,key z<key y:=fun z hz y hy=>by
  rw[List.mem_singleton]at hz;subst hz;have hl:u2.length≠0:=fun e=>by rw[List.length_eq_zero_iff.1 e]at hy;cases hy
  rcases c2 with c|c
  ·omega
  rw[show p++(u1++(u2++([z]++([]++q))))=(p++u1)++(u2++([z]++([]++q))) by simp]at c;obtain⟨w,hw,hw1,hw2⟩:=lL (key:=key) (p:=p++u1) (x:=u2) (q:=[z]++([]++q)) (i:=i) (by simp only[ZM];omega) (by simp only[ZM];omega);have:=su2.first_le (show u2[0]?=some w by rw[<-hw1];congr 1;simp only[ZM];omega) y hy
  omega
 rw[pV sux (fun _ _ _ h=>by cases h) (fun _ _ _ h=>by cases h) hlt,j6 (l:=u1++[x]) (kP.2 ⟨su1,⟨fun _ h=>(by cases h),trivial⟩,hle⟩),List.append_nil,j6 su2];simp
end
section
variable {α:Type}
inductive yH(key:α->Int)(bs:Nat):List α->Prop
 |nil:yH key bs []
 |snoc {p x:List α}:yH key bs p->x.length=bs->dP key x->yH key bs (p++x)
inductive gY(key:α->Int)(bs:Nat):List α->Prop
 |last {x:List α}:x.length<=bs->dP key x->gY key bs x
 |cons {x r:List α}:x.length=bs->dP key x->gY key bs r->gY key bs (x++r)
variable {key:α->Int} {bs:Nat}
theorem gY.of_full{p r:List α}(h:yH key bs p):gY key bs r->gY key bs (p++r):=by
 induction h generalizing r with
 |nil=>exact id
 |snoc _ h2 h3 ih=>intro hr;rw[Z7];exact ih (.cons h2 h3 hr)
theorem gY.small{r:List α}(h:gY key bs r)(hr:r.length<=bs):dP key r:=by
 cases h with
 |last _ h=>exact h
 |cons h1 h2 h3=>
  rename_i x r;have:r=[]:=List.length_eq_zero_iff.1 (by rw[ZM]at hr;omega);subst this;rwa [List.append_nil]
theorem gY.two{r:List α}(h:gY key bs r)(hr:bs<r.length):∃x y,r=x++y/\x.length=bs/\dP key x/\gY key bs y:=by
 cases h with
 |last h _=>omega
 |cons h1 h2 h3=>exact⟨_,_,rfl,h1,h2,h3⟩
theorem gY.pair{r:List α}(h:gY key bs r)(hb:0<bs)(hr:2*bs<=r.length):∃x y z,r=x++(y++z)/\x.length=bs/\y.length=bs/\dP key x/\dP key y/\gY key bs z:=by
 obtain⟨x,w,rfl,h1,h2,h3⟩:=h.two (by omega);rw[ZM]at hr;cases h3 with
 |last g1 g2=>exact⟨x,w,[],by simp,h1,by omega,h2,g2,.last (Z3 _) trivial⟩
 |cons g1 g2 g3=>exact⟨x,_,_,rfl,h1,g1,h2,g2,g3⟩
theorem gY.tail{r:List α}(h:gY key bs r)(h1:bs<r.length)(h2:r.length<2*bs):∃x y,r=x++y/\x.length=bs/\dP key x/\dP key y:=by
 obtain⟨x,w,rfl,g1,g2,g3⟩:=h.two h1;rw[ZM]at h2;exact⟨x,w,rfl,g1,g2,g3.small (by omega)⟩
structure C4(key:α->Int)(b1 b2:Nat)(l0 l:List α)(a:Nat) where
 p:List α
 r:List α
 eq:l=p++r
 ha:p.length=a
 full:yH key b1 p
 rest:gY key b2 r
 fk:∀k,fk key k l=fk key k l0
theorem wH{l:List α}{a b:Nat}(h1:a<=b)(h2:b<=l.length)(k:Int):fk key k (bH key l a b)=fk key k l:=by
 obtain⟨p,x,q,rfl,hp,hx⟩:=x9 h1 h2;rw[eD hp.symm (by omega)];simp only[m6,oz]
theorem zY(bs2:Nat){l0 l:List α}(h:gY key bs l)(hf:∀k,Go.Proofs.YthlkgmdkabelpaaGreat.St.fk key k l=Go.Proofs.YthlkgmdkabelpaaGreat.St.fk key k l0):Nonempty (C4 key bs2 bs l0 l 0):=⟨[],l,rfl,rfl,.nil,h,hf⟩
theorem Cg{l0 l:List α}{a:Nat}(h:C4 key (2*bs) bs l0 l a)(hb:0<bs)(hl:a+2*bs<=l.length):dP key (eU l a (a+bs))/\dP key (eU l (a+bs) (a+2*bs))/\Nonempty (C4 key (2*bs) bs l0 (bH key l a (a+2*bs)) (a+2*bs)):=by
 obtain⟨p,r,rfl,rfl,hf,hr,hk⟩:=h;rw[ZM]at hl;obtain⟨x,y,z,rfl,h1,h2,h3,h4,h5⟩:=hr.pair hb (by omega);refine⟨?_,?_,⟨⟨p++cg key (x++y),z,?_,?_,.snoc hf ?_ iG,h5,fun k=>?_⟩⟩⟩
 ·rw[eW rfl (by omega)];exact h3
 ·rw[<-Z7,eW (by rw[ZM];omega) (by rw[ZM];omega)];exact h4
 ·rw[<-Z7 x,eD rfl (by rw[ZM];omega),Z7]
 ·rw[ZM,cZ,ZM];omega
 ·rw[cZ,ZM];omega
 rw[wH (by omega) (by simp only[ZM];omega)];exact hk k
theorem BI{l0 l:List α}{a:Nat}(h:C4 key (2*bs) bs l0 l a)(hl:l.length<a+2*bs)(hm:a+bs<l.length):dP key (eU l a (a+bs))/\dP key (eU l (a+bs) l.length)/\gY key (2*bs) (bH key l a l.length)/\∀k,Go.Proofs.YthlkgmdkabelpaaGreat.St.fk key k (bH key l a l.length)=Go.Proofs.YthlkgmdkabelpaaGreat.St.fk key k l0:=by
 obtain⟨p,r,rfl,rfl,hf,hr,hk⟩:=h;rw[ZM]at hl hm;obtain⟨x,y,rfl,h1,h3,h4⟩:=hr.tail (by omega) (by omega);refine⟨?_,?_,?_,fun k=>?_⟩
 ·rw[eW rfl (by omega)];exact h3
 ·rw[show p++(x++y)=(p++x)++(y++[]) by simp,eW (by rw[ZM];omega) (by simp only[ZM,List.length_nil];omega)];exact h4
 ·rw[show p++(x++y)=p++((x++y)++[]) by simp,eD rfl (by simp only[ZM,List.length_nil];omega),List.append_nil];exact gY.of_full hf (.last (by rw[cZ];omega) iG)
 rw[wH (by rw[ZM];omega) (Nat.le_refl _)];exact hk k
theorem EX{l0 l:List α}{a:Nat}(h:C4 key (2*bs) bs l0 l a)(hm:l.length<=a+bs):gY key (2*bs) l/\∀k,Go.Proofs.YthlkgmdkabelpaaGreat.St.fk key k l=Go.Proofs.YthlkgmdkabelpaaGreat.St.fk key k l0:=by
 obtain⟨p,r,rfl,rfl,hf,hr,hk⟩:=h;rw[ZM]at hm;exact⟨gY.of_full hf (.last (by omega) (hr.small (by omega))),hk⟩
theorem Dk{l0 l:List α}(h:gY key bs l)(hf:∀k,Go.Proofs.YthlkgmdkabelpaaGreat.St.fk key k l=Go.Proofs.YthlkgmdkabelpaaGreat.St.fk key k l0)(hl:l.length<=bs):l=cg key l0:=xC.eq ⟨h.small hl,hf⟩
structure yy(key:α->Int)(bs:Nat)(l0 l:List α)(a:Nat) where
 p:List α
 r:List α
 eq:l=p++r
 ha:p.length=a
 full:yH key bs p
 fk:∀k,fk key k l=fk key k l0
theorem xL(l0:List α):Nonempty (yy key bs l0 l0 0):=⟨[],l0,rfl,rfl,.nil,fun _=>rfl⟩
theorem zX{l0 l:List α}{a:Nat}(h:yy key bs l0 l a)(hl:a+bs<=l.length):Nonempty (yy key bs l0 (bH key l a (a+bs)) (a+bs)):=by
 obtain⟨p,r,rfl,rfl,hf,hk⟩:=h;rw[ZM]at hl;have hr:r=r.take bs++r.drop bs:=(aa9 ..).symm;have ht:(r.take bs).length=bs:=by rw[ZR];omega
 refine⟨⟨p++cg key (r.take bs),r.drop bs,?_,?_,.snoc hf ?_ iG,fun k=>?_⟩⟩
 ·conv=>lhs;rw[hr]
  rw[eD rfl (by omega),Z7]
 ·rw[ZM,cZ,ht]
 ·rw[cZ,ht]
 rw[wH (by omega) (by rw[ZM];omega)];exact hk k
theorem C9{l0 l:List α}{a:Nat}(h:yy key bs l0 l a)(hl:l.length<a+bs):gY key bs (bH key l a l.length)/\∀k,Go.Proofs.YthlkgmdkabelpaaGreat.St.fk key k (bH key l a l.length)=Go.Proofs.YthlkgmdkabelpaaGreat.St.fk key k l0:=by
 obtain⟨p,r,rfl,rfl,hf,hk⟩:=h;rw[ZM]at hl;refine⟨?_,fun k=>?_⟩
 ·rw[show p++r=p++(r++[]) by simp,eD rfl (by simp only[ZM,List.length_nil];omega),List.append_nil];exact gY.of_full hf (.last (by rw[cZ];omega) iG)
 rw[wH (by rw[ZM];omega) (Nat.le_refl _)];exact hk k
end
end Go.Proofs.YthlkgmdkabelpaaGreat.St
namespace Go.Proofs.YthlkgmdkabelpaaGreat.X
open Go Go.RowKit
section
variable {P:Program} {α:Type} {g:α->List Value} {m:Nat}
theorem dF(hl:∀x,(g x).length=m):∀l:List α,(l.flatMap g).length=l.length*m
 |[]=>by simp
 |a::l=>by rw[Z8,ZM,hl,dF hl l,List.length_cons,aaO,aau]
theorem CT(hl:∀x,(g x).length=m):∀{l:List α} {i:Nat},i<l.length->∀x,wr (l.flatMap g) (i*m) (g x)=(l.set i x).flatMap g
 |[],i,h,x=>absurd h (aaN i)
 |a::l,0,h,x=>by
  unfold wr;rw[aab,List.take_zero,Nat.zero_add,hl,Z8,aaS (hl a),aa6,Z8];rfl
 |a::l,i+1,h,x=>by
  have ih:=CT hl (l:=l) (i:=i) (by rw[List.length_cons]at h;omega) x;unfold wr at ih ⊢;rw[List.set_cons_succ,Z8,Z8,<-ih,aaO,aau (i*m) m];rw[List.take_append,List.drop_append,hl,aaM,List.take_of_length_le (by rw[hl];omega),Z5 (by rw[hl];omega),List.nil_append,Z7,aa5,aaM]
theorem Fe{t:TypeId}(ha:cS P t=some true)(hs:sz P t=some m)(hl:∀x,(g x).length=m){l:List α}{i:Nat}(h:i<l.length):mw P t (l.flatMap g) (i*m)=some (.agg (g l[i]).toArray):=by
 unfold mw;rw[ha,hs];simp only;rw[wP (fun x _=>hl x) h,hl,ZY,cond_true]
theorem I3{e:TypeId}{b n cap i:Nat}{j:IntKind}(hs:sz P e=some m)(h:i<n):dB P (some (.slice e)) (some (.slice (some ⟨b,0,none⟩) n cap)) (some (.int j ((i:Nat):Int)))=some (.val (some (.pointer (some ⟨b,i*m,none⟩)))):=by
 show qT b 0 i n (sz P e)=_;rw[hs];show(bif Nat.blt i n then val (.pointer (some ⟨b,0+i*m,none⟩))else none)=_;rw[jQ h,cond_true,Nat.zero_add];rfl
theorem mG(h1:∀x,(g x).all bk=true):∀l:List α,(l.flatMap g).all bk=true
 |[]=>rfl
 |a::l=>by rw[Z8,Z9,h1,mG h1 l];rfl
theorem mW{o s:Nat}:tV (0,0) o s=false:=rfl
theorem EZ(hl:∀x,(g x).length=m){l:List α}{i:Nat}(h:i<l.length):Nat.ble (i*m+m) (l.flatMap g).length=true:=by
 rw[dF hl];refine wR ?_;rw[<-aaO];exact abb m h
end
open Classical in
noncomputable def cN{α:Type}(enc:α->List Value)(f:α->Value)(xs:List Value):Option Value:=if h:∃a,xs=enc a then some (f (Classical.choose h))else none
theorem Sx{α:Type}{enc:α->List Value}{f:α->Value}{a:α}(hf:∀b,enc b=enc a->f b=f a):cN enc f (enc a)=some (f a):=by
 have h:∃b,enc a=enc b:=⟨a,rfl⟩;unfold cN;rw[dif_pos h,hf _ (ZQ h).symm]
theorem EM{α:Type}{enc:α->List Value}{f:α->Value}{xs:List Value}{v:Value}(h:cN enc f xs=some v):∃a,xs=enc a/\v=f a:=by
 unfold cN at h;split at h
 ·rename_i hx;cases h;exact⟨_,ZQ hx,rfl⟩
 cases h
theorem fa{P:Program}{fn:FuncId}{α:Type}{enc:α->List Value}{f:α->Value}(he:fi P fn)(hx:∀a,dt (enc a))(hv:∀a,dG (f a))(hl:∀a,aN P fn (enc a) (wd [] 0 [] 0) fun e W'=>e=.ret (f a)):bD P fn (bu (cN enc f)):=
 wt he (fun xs v h=>by obtain⟨a,rfl,rfl⟩:=EM h;exact⟨hx a,hv a⟩) (fun xs v h=>by obtain⟨a,rfl,rfl⟩:=EM h;exact hl a)
theorem eu{α:Type}{enc:α->List Value}{f:α->Value}{a:α}{W:XW}(hf:∀b,enc b=enc a->f b=f a):bu (cN enc f) (enc a) W=some (.ret (f a),W):=by
 rw[A5,Sx hf];rfl
structure nw(α β:Type) where
 args:Nat->α->β->List Value
 row:β->bb
 inj:∀n a b n' a' b',args n a b=args n' a' b'->n=n'/\a=a'
 rinj:∀b b',row b=row b'->b=b'
open Classical in
noncomputable def dr{α β:Type}(E:nw α β)(f:α->β->Option (Value×β)):HF:=fun args W=>
 if h:∃n a b,args=E.args n a b/\W.get n=some (E.row b)then
  (f (Classical.choose (ZQ h)) (Classical.choose (ZQ (ZQ h)))).map fun r=>(.ret r.1,W.put (Classical.choose h) (some (E.row r.2)))
 else none
theorem u3{α β:Type}{E:nw α β}{f:α->β->Option (Value×β)}{args:List Value}{W W':XW}{e:cz}(h:dr E f args W=some (e,W')) :
 ∃n a b v b',args=E.args n a b/\W.get n=some (E.row b)/\f a b=some (v,b')/\e=.ret v/\W'=W.put n (some (E.row b')):=by
 unfold dr at h;split at h
 ·rename_i hx;obtain⟨r,h1,h2⟩:=Option.map_eq_some_iff.1 h;cases h2;exact⟨_,_,_,r.1,r.2,(ZQ (ZQ (ZQ hx))).1,(ZQ (ZQ (ZQ hx))).2,h1,rfl,rfl⟩
 cases h
theorem ng{α β:Type}{E:nw α β}{f:α->β->Option (Value×β)}{W:XW}{n:Nat}{a:α}{b b':β}{v:Value}(hW:W.get n=some (E.row b))(hf:f a b=some (v,b')):dr E f (E.args n a b) W=some (.ret v,W.put n (some (E.row b'))):=by
 have hx:∃n' a' b2,E.args n a b=E.args n' a' b2/\W.get n'=some (E.row b2):=⟨n,a,b,rfl,hW⟩;have e:dr E f (E.args n a b) W=(f (Classical.choose (ZQ hx)) (Classical.choose (ZQ (ZQ hx)))).map fun r=>(.ret r.1,W.put (Classical.choose hx) (some (E.row r.2))):=dif_pos hx
 rw[e];obtain⟨h1,h2⟩:=ZQ (ZQ (ZQ hx));generalize Classical.choose (ZQ (ZQ hx))=b2 at h1 h2 ⊢;generalize Classical.choose (ZQ hx)=a2 at h1 ⊢;generalize Classical.choose hx=n2 at h1 h2 ⊢;have e1:=(E.inj _ _ _ _ _ _ h1).1;subst e1;have e2:b=b2:=E.rinj _ _ (Option.some.inj (hW.symm.trans h2));subst e2;obtain⟨_,rfl⟩:=E.inj _ _ _ _ _ _ h1;rw[hf];rfl
theorem jS{P:Program}{fn:FuncId}{α β:Type}{E:nw α β}{f:α->β->Option (Value×β)}(he:fi P fn)(ha:∀n a b,iP (cM (only n)) (E.args n a b) (E.args 0 a b))(hr:∀b,fY P (E.row b))(hv:∀a b v b',f a b=some (v,b')->dG v)
 (hl:∀a b v b',f a b=some (v,b')->aN P fn (E.args 0 a b) (wd [(0,some (E.row b))] 1 [] 0) fun e W'=>e=.ret v/\W'.get 0=some (E.row b')):bD P fn (dr E f):=by
 refine⟨he,fun args W e W' h=>?_,fun args W e W' h=>?_⟩
 ·obtain⟨n,a,b,v,b',_,_,_,_,rfl⟩:=u3 h;exact .put _ _ _
 obtain⟨n,a,b,v,b',rfl,h2,h3,rfl,rfl⟩:=u3 h;exact Mv h2 (hr b) (ha n a b) (hl _ _ _ _ h3) (fun e' W' hS=>hS) (hr b') (hv _ _ _ _ h3)
section
variable {P:Program} {H:dX} {N k:Nat} {c d:Code} {s S:XS} {Q:XQ}
def xO(P:Program)(k:Nat)(S:XS):XQ:=fun e s'=>e=.norm/\db P k s' S
theorem jy(S:XS)(h:bA P N k c s (xO P k S))(q:bA P N k d S Q):bA P N k (.seq c d) s Q:=ae (jb (fun e s' ⟨he,hl⟩=>by subst he;exact aU hl q) h)
theorem gQ(h:db P k s S):xO P k S .norm s:=⟨rfl,h⟩
end
def al{α:Type}(g:α->List Value):Option (List α)->Value
 |none=>.slice none 0 0
 |some l=>FZ (l.flatMap g) l.length
def ao{α:Type}(o:Option (List α)):List α:=o.getD []
section
variable {α:Type} {g:α->List Value} {m:Nat}
theorem aB(h:∀x,dt (g x)):∀o:Option (List α),dG (al g o)
 |none=>aG 1 rfl
 |some l=>Ft (br h l)
theorem bL:∀o:Option (List α),bk (al g o)=true
 |none=>rfl
 |some _=>rfl
theorem da{W:XW}{e:TypeId}(o:Option (List α)):fm W (al g o) (some (.slice e))=some (.val (some (.int .i64 ((ao o).length:Int)))):=by cases o<;>rfl
theorem Qd{P:Program}{e:TypeId}{o:Option (List α)}{i:Nat}{j:IntKind}(h:i<(ao o).length):dB P (some (.slice e)) (some (al g o)) (some (.int j ((i:Nat):Int)))=mD ((ao o).flatMap g) i (ao o).length (sz P e):=by
 cases o with
 |none=>exact absurd h (aaN i)
 |some l=>rfl
theorem mR(hl:∀x,(g x).length=m)(hi:∀x y,g x=g y->x=y)(hm:0<m):∀{l l':List α},l.flatMap g=l'.flatMap g->l=l'
 |[],[],_=>rfl
 |[],y::l,h=>by have:=congrArg List.length h;rw[Z8,ZM,hl]at this;simp at this;omega
 |x::l,[],h=>by have:=congrArg List.length h;rw[Z8,ZM,hl]at this;simp at this;omega
 |x::l,y::l',h=>by
  rw[Z8,Z8]at h;obtain⟨h1,h2⟩:=List.append_inj h (by rw[hl,hl]);rw[hi _ _ h1,mR hl hi hm h2]
theorem fQ(hl:∀x,(g x).length=m)(hi:∀x y,g x=g y->x=y)(hm:0<m):∀{o o':Option (List α)},al g o=al g o'->o=o'
 |none,none,_=>rfl
 |none,some l,h=>by cases h
 |some l,none,h=>by cases h
 |some l,some l',h=>by rw[mR hl hi hm (Is h).1]
end
abbrev bC:=Int×Int
def az(p:bC):List Value:=[.int .i64 p.1,.int .i64 p.2]
theorem cW(p:bC):(az p).length=2:=rfl
theorem iD(p:bC):(az p).all bk=true:=rfl
theorem bB(p:bC):dt (az p):=aw (aG 1 rfl) (aw (aG 1 rfl) aQ)
theorem lE(x y:bC)(h:az x=az y):x=y:=by
 unfold az at h;injection h with h1 h2;injection h2 with h2 _;injection h1 with _ h1;injection h2 with _ h2;exact Prod.ext h1 h2
structure aC where
 id:Int
 dim:Int
 sides:Option (List bC)
def an(x:aC):List Value:=[.int .i64 x.id,.int .i64 x.dim,al az x.sides]
theorem cD(x:aC):(an x).length=3:=rfl
theorem gh(x:aC):(an x).all bk=true:=by
 show(true&&(true&&(bk (al az x.sides)&&true)))=true;rw[bL];rfl
theorem aW(x:aC):dt (an x):=aw (aG 1 rfl) (aw (aG 1 rfl) (aw (aB bB _) aQ))
theorem gP(x y:aC)(h:an x=an y):x=y:=by
 obtain⟨a,b,c⟩:=x;obtain⟨a',b',c'⟩:=y;unfold an at h;injection h with h1 h2;injection h2 with h2 h3;injection h3 with h3 _;injection h1 with _ h1;injection h2 with _ h2;have h3:=fQ cW lE (by decide) h3;simp only at h1 h2 h3;rw[h1,h2,h3]
def jP(o:Option (List aC)):Value:=.agg #[al an o]
def dW(a b:Int):Int:=if a<b then -1 else if b<a then 1 else 0
def sJ(p:Int×Int):List Value:=[.int .i64 p.1,.int .i64 p.2]
theorem Hj(a:Int):aN Tryz.prog 118 [.int .i64 a] (wd [] 0 [] 0) fun e W'=>e=.ret (.bool false):=by
 refine be av Tryz.func118 rfl (Nat.le_of_ble_eq_true rfl) ?_;simp only[aY.eq_1,aY.eq_2,bf,Tryz.ntmps118,reduceAdd];refine ae (ac (e:=?e1) (s':=?s1) av ?h1 ?q1)
 case h1=>simp(disch:=decide) only[go_sem];all_goals rfl
 have hx:(a !=a)=false:=by simp
 refine ae (ac (e:=?e2) (s':=?s2) av ?h2 ?q2)
 case h2=>simp(disch:=decide) only[hx,go_sem];all_goals rfl
 refine bh ?_;refine⟨_,?e3,?W3,rfl,?h3,?q3⟩
 case h3=>simp(disch:=decide) only[Tryz.results118,go_sem];all_goals rfl
 rfl
def au(a:Int):List Value:=[.int .i64 a]
theorem WG:bD Tryz.prog 118 (bu (cN au fun _=>.bool false)):=fa (enters_of (by kernel_rfl)) (fun a=>aw (aG 1 rfl) aQ) (fun a=>aG 1 rfl) Hj
theorem I0{a:Int}{W:XW}:bu (cN au fun _=>Value.bool false) [.int .i64 a] W=some (.ret (.bool false),W):=eu (enc:=au) (a:=a) fun b h=>rfl
noncomputable def Rw:List (FuncId×HF):=[(118,bu (cN au fun _=>.bool false))]
theorem iV:dv Tryz.prog (cE Rw []):=⟨mixed,bU (.cons _ _ _ WG .nil) .nil⟩
theorem LU(p:Int×Int):aN Tryz.prog 103 (sJ p) (wd [] 0 [] 0) fun e W'=>e=.ret (.int .i64 (dW p.1 p.2)):=by
 obtain⟨a,b⟩:=p;show aN _ _ [.int .i64 a,.int .i64 b] _ _;refine be iV Tryz.func103 rfl (Nat.le_of_ble_eq_true rfl) ?_;simp only[aY.eq_1,aY.eq_2,bf,Tryz.ntmps103,reduceAdd];refine ae (ac (e:=?e4) (s':=?s4) iV ?h4 ?q4)
 case h4=>simp(disch:=decide) only[go_sem];all_goals rfl
 refine ae (ac (e:=?e5) (s':=?s5) iV ?h5 ?q5)
 case h5=>simp(disch:=decide) only[Rw,I0,go_sem];all_goals rfl
 refine ae (ac (e:=?e6) (s':=?s6) iV ?h6 ?q6)
 case h6=>simp(disch:=decide) only[Rw,I0,go_sem];all_goals rfl
 refine ae ?_;refine ae (ac (e:=?e7) (s':=?s7) iV ?h7 ?q7)
 case h7=>simp(disch:=decide) only[go_sem];all_goals rfl
 refine aO ?h8 ?q8
 case h8=>simp(disch:=decide) only[go_sem];all_goals rfl
 refine aH ?_;refine ae ?_;refine ae (ac (e:=?e9) (s':=?s9) iV ?h9 ?q9)
 case h9=>simp(disch:=decide) only[go_sem];all_goals rfl
 refine aO ?h10 ?q10
 case h10=>simp(disch:=decide) only[go_sem];all_goals rfl
 refine aH ?_;unfold dW;by_cases h1:a<b
 ·refine ae ?_;refine ae (ac (e:=?e11) (s':=?s11) iV ?h11 ?q11)
  case h11=>simp(disch:=decide) only[go_sem];all_goals rfl
  refine aZ (by simp(disch:=first|decide|omega) only[go_sem]<;>with_reducible rfl) ?_;refine ae (ac (e:=?e13) (s':=?s13) iV ?h13 ?q13)
  case h13=>simp(disch:=decide) only[go_sem];all_goals rfl
  refine bh ?_;refine⟨_,?e14,?W14,rfl,?h14,?q14⟩
  case h14=>simp(disch:=decide) only[Tryz.results103,go_sem];all_goals rfl
  simp only[if_pos h1]
 refine ae ?_;refine ae (ac (e:=?e15) (s':=?s15) iV ?h15 ?q15)
 case h15=>simp(disch:=decide) only[go_sem];all_goals rfl
 refine aO (by simp(disch:=first|decide|omega) only[go_sem]<;>with_reducible rfl) ?_;refine aH ?_;by_cases h2:b<a
 ·refine ae ?_;refine ae (ac (e:=?e17) (s':=?s17) iV ?h17 ?q17)
  case h17=>simp(disch:=decide) only[go_sem];all_goals rfl
  refine aZ (by simp(disch:=first|decide|omega) only[go_sem]<;>with_reducible rfl) ?_;refine ae (ac (e:=?e19) (s':=?s19) iV ?h19 ?q19)
  case h19=>simp(disch:=decide) only[go_sem];all_goals rfl
  refine bh ?_;refine⟨_,?e20,?W20,rfl,?h20,?q20⟩
  case h20=>simp(disch:=decide) only[Tryz.results103,go_sem];all_goals rfl
  simp only[if_neg h1,if_pos h2];rfl
 refine ae ?_;refine ae (ac (e:=?e21) (s':=?s21) iV ?h21 ?q21)
 case h21=>simp(disch:=decide) only[go_sem];all_goals rfl
 refine aO (by simp(disch:=first|decide|omega) only[go_sem]<;>with_reducible rfl) ?_;refine aH ?_;refine ae (ac (e:=?e23) (s':=?s23) iV ?h23 ?q23)
 case h23=>simp(disch:=decide) only[go_sem];all_goals rfl
 refine bh ?_;refine⟨_,?e24,?W24,rfl,?h24,?q24⟩
 case h24=>simp(disch:=decide) only[Tryz.results103,go_sem];all_goals rfl
 simp only[if_neg h1,if_neg h2];rfl
open Go.Proofs.YthlkgmdkabelpaaGreat.St
def bi(x:aC):Int:=x.id
def nN:Value:=.func (.func 66) #[] #[]
def bT:Value:=.func (.func 102) #[] #[FP [nN]]
def vB(x:aC):Value:=.agg (an x).toArray
theorem mN:dG bT:=fun T hT=>lJ (xs:=[]) (cs:=[FP [nN]]) aX (ax (Hi hT (ax (ar 1 rfl) aX)) aX)
theorem ww(x:aC):dG (vB x):=fK (aW x)
theorem yS{x y:aC}(h:vB x=vB y):x=y:=by
 unfold vB at h;injection h with h;exact gP _ _ (by simpa using congrArg Array.toList h)
def ui(x:aC):List Value:=[vB x]
theorem Km(x:aC):aN Tryz.prog 66 (ui x) (wd [] 0 [] 0) fun e W'=>e=.ret (.int .i64 (bi x)):=by
 have h1:=gh x;show aN _ _ [.agg #[.int .i64 x.id,.int .i64 x.dim,al az x.sides]] _ _;refine be av Tryz.func66 rfl (Nat.le_of_ble_eq_true rfl) ?_;simp only[aY.eq_1,aY.eq_2,bf,Tryz.ntmps66,reduceAdd];refine ae (ac (e:=?e1) (s':=?s1) av ?h1 ?q1)
 case h1=>simp(disch:=decide) only[bL,go_sem];all_goals rfl
 refine ae (ac (e:=?e2) (s':=?s2) av ?h2 ?q2)
 case h2=>simp(disch:=decide) only[go_sem];all_goals rfl
 refine bh ?_;refine⟨_,?e3,?W3,rfl,?h3,?q3⟩
 case h3=>simp(disch:=decide) only[Tryz.results66,go_sem];all_goals rfl
 rfl
theorem Ux:bD Tryz.prog 66 (bu (cN ui fun x=>.int .i64 (bi x))):=fa (enters_of (by kernel_rfl)) (fun x=>aw (ww x) aQ) (fun x=>aG 1 rfl) Km
theorem Od{x:aC}{W:XW}:bu (cN ui fun x=>.int .i64 (bi x)) [vB x] W=some (.ret (.int .i64 (bi x)),W):=eu (enc:=ui) (a:=x) fun b h=>by
 unfold ui at h;injection h with h _;rw[yS h]
theorem Ix{a b:Int}{W:XW}:bu (cN sJ fun p=>.int .i64 (dW p.1 p.2)) [.int .i64 a,.int .i64 b] W=some (.ret (.int .i64 (dW a b)),W):=eu (enc:=sJ) (a:=(a,b)) fun p h=>by
 unfold sJ at h;injection h with h1 h2;injection h2 with h2 _;injection h1 with _ h1;injection h2 with _ h2;rw[h1,h2]
theorem Nw:bD Tryz.prog 103 (bu (cN sJ fun p=>.int .i64 (dW p.1 p.2))):=fa (enters_of (by kernel_rfl)) (fun p=>aw (aG 1 rfl) (aw (aG 1 rfl) aQ)) (fun p=>aG 1 rfl) LU
noncomputable def UP:List (FuncId×HF):=[(66,bu (cN ui fun x=>.int .i64 (bi x))),(103,bu (cN sJ fun p=>.int .i64 (dW p.1 p.2)))]
theorem yl:dv Tryz.prog (cE UP []):=⟨mixed,bU (.cons _ _ _ Ux (.cons _ _ _ Nw .nil)) .nil⟩
def uy(p:aC×aC):List Value:=[vB p.1,vB p.2,FP [nN]]
theorem Js(p:aC×aC):aN Tryz.prog 102 (uy p) (wd [] 0 [] 0) fun e W'=>e=.ret (.int .i64 (dW (bi p.1) (bi p.2))):=by
 obtain⟨x,y⟩:=p;have h1:=gh x;have h2:=gh y;have h3:=cD x;have h4:=cD y;show aN _ _ [.agg (an x).toArray,.agg (an y).toArray,FP [.func (.func 66) #[] #[]]] _ _;have hk1:∀W,bu (cN ui fun x=>Value.int .i64 (bi x)) [.agg (an x).toArray] W=some (.ret (.int .i64 (bi x)),W):=fun W=>Od (x:=x)
 have hk2:∀W,bu (cN ui fun x=>Value.int .i64 (bi x)) [.agg (an y).toArray] W=some (.ret (.int .i64 (bi y)),W):=fun W=>Od (x:=y)
 refine be yl Tryz.func102 rfl (Nat.le_of_ble_eq_true rfl) ?_;simp only[aY.eq_1,aY.eq_2,bf,Tryz.ntmps102,reduceAdd];refine ae (ac yl (by simp(disch:=decide) only[h1,h2,h3,h4,go_sem]<;>with_reducible rfl) ?_);refine bl yl ⟨aI [(5,some (.int .i64 (dW (bi x) (bi y))))],wd [] 2 [] 0,[]⟩ ?hda ?qda
 case hda=>
  refine⟨?rsa,?sxa,?hxa,?kxa,?lxa⟩
  case hxa=>simp(disch:=first|decide|omega) only[aE.eq_1,aE.eq_2,cm.eq_1,bd.eq_1,bd.eq_2,fB,h3,h4,UP,hk1,hk2,Ix,List.take_of_length_le,go_sem]<;>with_reducible rfl
  case kxa=>kernel_rfl
  case lxa=>exact ak (by simp(disch:=decide) [ai,ab,aa,ag]) (by simp(disch:=decide) [ai,ab,aa,ag]) (by decide)
 refine bh ?_;refine⟨_,?e5,?W5,rfl,?h5,?q5⟩
 case h5=>simp(disch:=decide) only[Tryz.results102,go_sem];all_goals rfl
 rfl
theorem xE:bD Tryz.prog 102 (bu (cN uy fun p=>.int .i64 (dW (bi p.1) (bi p.2)))):=fa (enters_of (by kernel_rfl)) (fun p=>aw (ww _) (aw (ww _) (aw (EF (aw (aG 1 rfl) aQ)) aQ))) (fun p=>aG 1 rfl) Js
theorem Wj{x y:aC}{W:XW}:bu (cN uy fun p=>.int .i64 (dW (bi p.1) (bi p.2))) [vB x,vB y,FP [nN]] W=some (.ret (.int .i64 (dW (bi x) (bi y))),W):=eu (enc:=uy) (a:=(x,y)) fun p h=>by
 unfold uy at h;injection h with h1 h2;injection h2 with h2 _;rw[yS h1,yS h2]
noncomputable def Nb:List (FuncId×HF):=[(102,bu (cN uy fun p=>.int .i64 (dW (bi p.1) (bi p.2))))]
theorem jE:dv Tryz.prog (cE Nb []):=⟨mixed,bU (.cons _ _ _ xE .nil) .nil⟩
def bg(x:bC):Int:=x.1
def nS:Value:=.func (.func 68) #[] #[]
def bS:Value:=.func (.func 106) #[] #[FP [nS]]
def vE(x:bC):Value:=.agg (az x).toArray
theorem mF:dG bS:=fun T hT=>lJ (xs:=[]) (cs:=[FP [nS]]) aX (ax (Hi hT (ax (ar 1 rfl) aX)) aX)
theorem vP(x:bC):dG (vE x):=fK (bB x)
theorem yC{x y:bC}(h:vE x=vE y):x=y:=by
 unfold vE at h;injection h with h;exact lE _ _ (by simpa using congrArg Array.toList h)
def tO(x:bC):List Value:=[vE x]
theorem Ic(x:bC):aN Tryz.prog 68 (tO x) (wd [] 0 [] 0) fun e W'=>e=.ret (.int .i64 (bg x)):=by
 have h1:=iD x;show aN _ _ [.agg #[.int .i64 x.1,.int .i64 x.2]] _ _;refine be av Tryz.func68 rfl (Nat.le_of_ble_eq_true rfl) ?_;simp only[aY.eq_1,aY.eq_2,bf,Tryz.ntmps68,reduceAdd];refine ae (ac (e:=?e1) (s':=?s1) av ?h1 ?q1)
 case h1=>simp(disch:=decide) only[bL,go_sem];all_goals rfl
 refine ae (ac (e:=?e2) (s':=?s2) av ?h2 ?q2)
 case h2=>simp(disch:=decide) only[go_sem];all_goals rfl
 refine bh ?_;refine⟨_,?e3,?W3,rfl,?h3,?q3⟩
 case h3=>simp(disch:=decide) only[Tryz.results68,go_sem];all_goals rfl
 rfl
theorem RE:bD Tryz.prog 68 (bu (cN tO fun x=>.int .i64 (bg x))):=fa (enters_of (by kernel_rfl)) (fun x=>aw (vP x) aQ) (fun x=>aG 1 rfl) Ic
theorem Ol{x:bC}{W:XW}:bu (cN tO fun x=>.int .i64 (bg x)) [vE x] W=some (.ret (.int .i64 (bg x)),W):=eu (enc:=tO) (a:=x) fun b h=>by
 unfold tO at h;injection h with h _;rw[yC h]
noncomputable def Su:List (FuncId×HF):=[(68,bu (cN tO fun x=>.int .i64 (bg x))),(103,bu (cN sJ fun p=>.int .i64 (dW p.1 p.2)))]
theorem y4:dv Tryz.prog (cE Su []):=⟨mixed,bU (.cons _ _ _ RE (.cons _ _ _ Nw .nil)) .nil⟩
def tP(p:bC×bC):List Value:=[vE p.1,vE p.2,FP [nS]]
theorem KL(p:bC×bC):aN Tryz.prog 106 (tP p) (wd [] 0 [] 0) fun e W'=>e=.ret (.int .i64 (dW (bg p.1) (bg p.2))):=by
 obtain⟨x,y⟩:=p;have h1:=iD x;have h2:=iD y;have h3:=cW x;have h4:=cW y;show aN _ _ [.agg (az x).toArray,.agg (az y).toArray,FP [.func (.func 68) #[] #[]]] _ _;have hk1:∀W,bu (cN tO fun x=>Value.int .i64 (bg x)) [.agg (az x).toArray] W=some (.ret (.int .i64 (bg x)),W):=fun W=>Ol (x:=x)
 have hk2:∀W,bu (cN tO fun x=>Value.int .i64 (bg x)) [.agg (az y).toArray] W=some (.ret (.int .i64 (bg y)),W):=fun W=>Ol (x:=y)
 refine be y4 Tryz.func106 rfl (Nat.le_of_ble_eq_true rfl) ?_;simp only[aY.eq_1,aY.eq_2,bf,Tryz.ntmps106,reduceAdd];refine ae (ac y4 (by simp(disch:=decide) only[h1,h2,h3,h4,go_sem]<;>with_reducible rfl) ?_);refine bl y4 ⟨aI [(5,some (.int .i64 (dW (bg x) (bg y))))],wd [] 2 [] 0,[]⟩ ?hda ?qda
 case hda=>
  refine⟨?rsa,?sxa,?hxa,?kxa,?lxa⟩
  case hxa=>simp(disch:=first|decide|omega) only[aE.eq_1,aE.eq_2,cm.eq_1,bd.eq_1,bd.eq_2,fB,h3,h4,Su,hk1,hk2,Ix,List.take_of_length_le,go_sem]<;>with_reducible rfl
  case kxa=>kernel_rfl
  case lxa=>exact ak (by simp(disch:=decide) [ai,ab,aa,ag]) (by simp(disch:=decide) [ai,ab,aa,ag]) (by decide)
 refine bh ?_;refine⟨_,?e5,?W5,rfl,?h5,?q5⟩
 case h5=>simp(disch:=decide) only[Tryz.results106,go_sem];all_goals rfl
 rfl
theorem xH:bD Tryz.prog 106 (bu (cN tP fun p=>.int .i64 (dW (bg p.1) (bg p.2)))):=fa (enters_of (by kernel_rfl)) (fun p=>aw (vP _) (aw (vP _) (aw (EF (aw (aG 1 rfl) aQ)) aQ))) (fun p=>aG 1 rfl) KL
theorem Vy{x y:bC}{W:XW}:bu (cN tP fun p=>.int .i64 (dW (bg p.1) (bg p.2))) [vE x,vE y,FP [nS]] W=some (.ret (.int .i64 (dW (bg x) (bg y))),W):=eu (enc:=tP) (a:=(x,y)) fun p h=>by
 unfold tP at h;injection h with h1 h2;injection h2 with h2 _;rw[yC h1,yC h2]
noncomputable def Nu:List (FuncId×HF):=[(106,bu (cN tP fun p=>.int .i64 (dW (bg p.1) (bg p.2))))]
theorem jz:dv Tryz.prog (cE Nu []):=⟨mixed,bU (.cons _ _ _ xH .nil) .nil⟩
def aS(l:List aC):bb:=.cells (l.flatMap an) 58 (0,0)
theorem rR(l l':List aC)(h:aS l=aS l'):l=l':=by
 unfold aS at h;injection h with h;exact mR cD gP (by decide) h
theorem gL(l:List aC):fY Tryz.prog (aS l):=bc (br aW l)
theorem nK{R:List aC}{q:Nat}(h:q<R.length):mw Tryz.prog 58 (R.flatMap an) (q*3)=some (.agg (an R[q]).toArray):=Fe Oe Gd cD h
theorem G3{R:List aC}{q:Nat}(h:q<R.length):Nat.ble (q*3+3) (R.flatMap an).length=true:=EZ cD h
theorem NM{R:List aC}{q:Nat}{x:aC}(h:q<R.length):wr (R.flatMap an) (q*3) (an x)=(R.set q x).flatMap an:=CT cD h x
theorem mf{b n cap i:Nat}{j:IntKind}(h:i<n):dB Tryz.prog (some (.slice 58)) (some (.slice (some ⟨b,0,none⟩) n cap)) (some (.int j ((i:Nat):Int)))=some (.val (some (.pointer (some ⟨b,i*3,none⟩)))):=I3 Gd h
theorem tv{R:List aC}{q:Nat}(h:q<R.length):dh bi R q=bi R[q]:=uq (ZP h)
theorem AY{R:List aC}{i j:Nat}(hi:i<R.length)(hj:j<R.length):(R.set i R[j]).set j R[i]=eS R i j:=by
 unfold eS;rw[ZP hi,ZP hj]
theorem zz{x y:aC}{W:XW}:bu (cN uy fun p=>.int .i64 (dW (bi p.1) (bi p.2))) [.agg (an x).toArray,.agg (an y).toArray,FP [nN]] W=some (.ret (.int .i64 (dW (bi x) (bi y))),W):=Wj
def Ld(n:Nat)(a:Nat×Nat×Nat)(l:List aC):List Value:=[.slice (some ⟨n,0,none⟩) l.length a.2.2,.int .i64 (a.1:Int),.int .i64 (a.2.1:Int),bT]
structure Yy(l:List aC)(a b:Nat) where
 i:Nat
 h1:a+1<=i
 h2:i<=b\/i=a+1
structure XZ(S:List aC)(a i:Nat) where
 j:Nat
 h1:a<=j
 h2:j<=i
 c:j=i\/dh bi S i<dh bi S j
theorem zG{α:Type}{key:α->Int}{l:List α}{a i b:Nat}(h1:a<=i)(h2:i<=b)(hb:b<=l.length):bH key (bH key l a i) a b=bH key l a b:=by
 have hl:(bH key l a i).length=l.length:=ew h1 (by omega);obtain⟨p,x,q,rfl,hp,hx⟩:=x9 (l:=l) (a:=a) (b:=b) (by omega) hb;obtain⟨y,z,w,hyz,hy,hz⟩:=x9 (l:=x) (a:=0) (b:=i-a) (by omega) (by omega);have:y=[]:=List.length_eq_zero_iff.1 hy;subst this;rw[List.nil_append]at hyz;subst hyz;rw[ZM]at hx;rw[show p++(z++w++q)=p++(z++(w++q)) by simp,eD hp.symm (by omega),show p++(cg key z++(w++q))=p++((cg key z++w)++q) by simp,eD hp.symm (by rw[ZM,cZ];omega),show p++(z++(w++q))=p++((z++w)++q) by simp,eD hp.symm (by rw[ZM];omega)];congr 2;exact DX fun k=>by rw[m6,m6,oz]
set_option maxHeartbeats 1000000 in
theorem J3(l:List aC)(a b cap:Nat)(hab:a<=b)(hb:b<=l.length)(hn:l.length<=1152921504606846976) :
 aN Tryz.prog 139 (Ld 0 (a,b,cap) l) (wd [(0,some (aS l))] 1 [] 0) fun e W'=>e=.ret (.tuple #[])/\W'.get 0=some (aS (bH bi l a b)):=by
 obtain⟨n,hnl⟩:∃n,n=l.length:=⟨_,rfl⟩;have hbc:=mN;have hoc:bk bT=true:=rfl;show aN _ _ [.slice (some ⟨0,0,none⟩) l.length cap,.int .i64 (a:Int),.int .i64 (b:Int),bT] _ _;rw[<-hnl];refine be jE Tryz.func139 rfl (Nat.le_of_ble_eq_true rfl) ?_;simp only[aY.eq_1,aY.eq_2,bf,Tryz.ntmps139,reduceAdd];have hi1:IntKind.i64.wrap ((a:Int)+((1:Nat):Int))=((a+1:Nat):Int):=by rw[wrap_i64 (by omega) (by omega)];omega
 refine ae (ac jE (by simp(disch:=first|decide|omega) only[hoc,hi1,go_sem]<;>with_reducible rfl) ?_);refine aD ?_;refine aU (s':=⟨aI [(0,some (.slice (some ⟨0,0,none⟩) n cap)),(1,some (.int .i64 (a:Int))),(2,some (.int .i64 (b:Int))),(3,some bT),(8,some (.int .i64 ((a+1:Nat):Int)))],wd [(0,some (aS (bH bi l a (min (a+1) b))))] 1 [] 0,[]⟩) (ak (by simp(disch:=decide) [ai,ab,aa,ag]) (by rw[xd (by omega) (by omega) (by omega)];simp(disch:=decide) [ai,ab,aa,ag]) (by decide)) ?_;refine bw (α:=Yy l a b) (fun y=>⟨aI [(0,some (.slice (some ⟨0,0,none⟩) n cap)),(1,some (.int .i64 (a:Int))),(2,some (.int .i64 (b:Int))),(3,some bT),(8,some (.int .i64 (y.i:Int)))],wd [(0,some (aS (bH bi l a (min y.i b))))] 1 [] 0,[]⟩) (fun y=>b-y.i) ?_ ⟨a+1,Nat.le_refl _,.inr rfl⟩;intro ⟨i,h1,h2⟩;simp only;by_cases hlt:i<b
 ·rw[aai (Nat.le_of_lt hlt)];have hS:(bH bi l a i).length=n:=by rw[ew (by omega) (by omega),hnl]
  have hsrt:dP bi (eU (bH bi l a i) a i):=by rw[BV (by omega) (by omega)];exact iG
  have hnest:bH bi (bH bi l a i) a (i+1)=bH bi l a (i+1):=zG (by omega) (by omega) (by omega);obtain⟨S,hSe⟩:∃S,S=bH bi l a i:=⟨_,rfl⟩;rw[<-hSe]at hS hsrt hnest ⊢;refine ae ?_;refine ae (ac (e:=?e2) (s':=?s2) jE ?h2 ?q2)
  case h2=>simp(disch:=decide) only[hoc,go_sem];all_goals rfl
  refine aZ (by simp(disch:=first|decide|omega) only[go_sem]<;>with_reducible rfl) ?_;refine aH ?_;refine ae (aD ?_);refine ae (ac jE (by simp(disch:=decide) only[hoc,go_sem]<;>with_reducible rfl) ?_);refine aD ?_;refine aU (s':=⟨aI [(0,some (.slice (some ⟨0,0,none⟩) n cap)),(1,some (.int .i64 (a:Int))),(2,some (.int .i64 (b:Int))),(3,some bT),(8,some (.int .i64 (i:Int))),(9,some (.int .i64 (i:Int)))],wd [(0,some (aS (cy S i i (i+1))))] 1 [] 0,[]⟩) (ak (by simp(disch:=decide) [ai,ab,aa,ag]) (by rw[mL (by omega) (by omega)];simp(disch:=decide) [ai,ab,aa,ag]) (by decide)) ?_;refine bw (α:=XZ S a i) (fun y=>⟨aI [(0,some (.slice (some ⟨0,0,none⟩) n cap)),(1,some (.int .i64 (a:Int))),(2,some (.int .i64 (b:Int))),(3,some bT),(8,some (.int .i64 (i:Int))),(9,some (.int .i64 (y.j:Int)))],wd [(0,some (aS (cy S y.j i (i+1))))] 1 [] 0,[]⟩) (fun y=>y.j) ?_ ⟨i,by omega,Nat.le_refl _,.inl rfl⟩;intro ⟨j,j1,j2,jc⟩;simp only;have hR:(cy S j i (i+1)).length=n:=by rw[gj j2 (by omega) (by omega),hS]
  have g1:(cy S j i (i+1))[j]'(by omega)=S[i]'(by omega):=by have:=fw (l:=S) j2 (show i<=i+1 by omega) (by omega) j;rw[if_neg (by omega),if_pos (by omega),show j+(i-j)=i by omega,ZP (by omega),ZP (by omega)]at this;exact Option.some.inj this
  by_cases hgo:a<j/\dh bi S i<dh bi S (j-1)
  ·obtain⟨haj,hlt2⟩:=hgo;obtain⟨j',rfl⟩:∃j',j=j'+1:=⟨j-1,by omega⟩;have g2:(cy S (j'+1) i (i+1))[j']'(by omega)=S[j']'(by omega):=by
    have:=fw (l:=S) j2 (show i<=i+1 by omega) (by omega) j';rw[if_pos (by omega),ZP (by omega),ZP (by omega)]at this;exact Option.some.inj this
   have hdn:eS (cy S (j'+1) i (i+1)) (j'+1) (j'+1-1)=cy S (j'+1-1) i (i+1):=rM (by omega) j2 (by omega);rw[aaA]at hdn hlt2;have hk:dW (bi (cy S (j'+1) i (i+1))[j'+1]) (bi (cy S (j'+1) i (i+1))[j'])<((0:Nat):Int):=by rw[g1,g2,<-tv,<-tv,dW,if_pos hlt2];decide
   have hsub:IntKind.i64.wrap (((j'+1:Nat):Int)-((1:Nat):Int))=((j':Nat):Int):=by rw[wrap_i64 (by omega) (by omega)];omega
   obtain⟨R,hRe⟩:∃R,R=cy S (j'+1) i (i+1):=⟨_,rfl⟩;rw[<-hRe]at hdn;simp only[<-hRe]at hR hk ⊢;have hset:(R.set (j'+1) R[j']).length=n:=by rw[aaT,hR]
   refine ae ?_;refine bl jE ⟨aI [(0,some (.slice (some ⟨0,0,none⟩) n cap)),(1,some (.int .i64 (a:Int))),(2,some (.int .i64 (b:Int))),(3,some bT),(8,some (.int .i64 (i:Int))),(9,some (.int .i64 ((j'+1:Nat):Int))),(34,some (.bool true))],wd [(0,some (aS R))] 1 [] 0,[]⟩ ?hda ?qda
   case hda=>
    refine⟨?rsa,?sxa,?hxa,?kxa,?lxa⟩
    case hxa=>simp(disch:=first|decide|omega) only[aE.eq_1,aE.eq_2,cm.eq_1,bd.eq_1,bd.eq_2,hoc,hsub,aS,mf,nK,Nb,bT,zz,hk,go_sem]<;>with_reducible rfl
    case kxa=>kernel_rfl
    case lxa=>exact ak (by simp(disch:=decide) [ai,ab,aa,ag,bT]) (by simp(disch:=decide) [ai,ab,aa,ag,aS]) (by decide)
   refine aZ (by simp(disch:=decide) only[go_sem]<;>with_reducible rfl) ?_;refine aH ?_;refine fU jE ⟨aI [(0,some (.slice (some ⟨0,0,none⟩) n cap)),(1,some (.int .i64 (a:Int))),(2,some (.int .i64 (b:Int))),(3,some bT),(8,some (.int .i64 (i:Int))),(9,some (.int .i64 ((j'+1:Nat):Int)))],wd [(0,some (aS (eS R (j'+1) j')))] 1 [] 0,[]⟩ ?hdb ?qdb
   case hdb=>
    refine⟨?rsb,?sxb,?hxb,?kxb,?lxb⟩
    case hxb=>simp(disch:=first|decide|omega) only[aE.eq_1,aE.eq_2,cm.eq_1,bd.eq_1,bd.eq_2,hoc,hsub,aS,mf,nK,G3,mW,NM,cD,gh,go_sem]<;>with_reducible rfl
    case kxb=>kernel_rfl
    case lxb=>exact ak (by simp(disch:=decide) [ai,ab,aa,ag]) (by rw[<-AY (by omega) (by omega)];simp(disch:=decide) [ai,ab,aa,ag,aS]) (by decide)
   refine ac jE (by simp(disch:=first|decide|omega) only[hoc,hsub,go_sem]<;>with_reducible rfl) ?_;refine⟨⟨j',by omega,by omega,.inr hlt2⟩,by simp only;omega,?_⟩;rw[hdn];exact ak (by simp(disch:=decide) [ai,ab,aa,ag]) (by simp(disch:=decide) [ai,ab,aa,ag]) (by decide)
  refine ae ?_;refine bl jE ⟨aI [(0,some (.slice (some ⟨0,0,none⟩) n cap)),(1,some (.int .i64 (a:Int))),(2,some (.int .i64 (b:Int))),(3,some bT),(8,some (.int .i64 (i:Int))),(34,some (.bool false))],wd [(0,some (aS (cy S j i (i+1))))] 1 [] 0,[]⟩ ?hdc ?qdc
  case hdc=>
   rcases aaa a j with haj|haj
   ·obtain⟨j',rfl⟩:∃j',j=j'+1:=⟨j-1,by omega⟩;have g2:(cy S (j'+1) i (i+1))[j']'(by omega)=S[j']'(by omega):=by
     have:=fw (l:=S) j2 (show i<=i+1 by omega) (by omega) j';rw[if_pos (by omega),ZP (by omega),ZP (by omega)]at this;exact Option.some.inj this
    have hk:¬dW (bi (cy S (j'+1) i (i+1))[j'+1]) (bi (cy S (j'+1) i (i+1))[j'])<((0:Nat):Int):=by rw[aaA]at hgo;rw[g1,g2,<-tv,<-tv,dW,if_neg (fun h=>hgo ⟨haj,h⟩)];split<;>decide
    have hsub:IntKind.i64.wrap (((j'+1:Nat):Int)-((1:Nat):Int))=((j':Nat):Int):=by rw[wrap_i64 (by omega) (by omega)];omega
    obtain⟨R,hRe⟩:∃R,R=cy S (j'+1) i (i+1):=⟨_,rfl⟩;simp only[<-hRe]at hR hk ⊢;refine⟨?rsc,?sxc,?hxc,?kxc,?lxc⟩
    case hxc=>simp(disch:=first|decide|omega) only[aE.eq_1,aE.eq_2,cm.eq_1,bd.eq_1,bd.eq_2,hoc,hsub,aS,mf,nK,Nb,bT,zz,hk,go_sem]<;>with_reducible rfl
    case kxc=>kernel_rfl
    case lxc=>exact ak (by simp(disch:=decide) [ai,ab,aa,ag,bT]) (by simp(disch:=decide) [ai,ab,aa,ag,aS]) (by decide)
   refine⟨?rsd,?sxd,?hxd,?kxd,?lxd⟩
   case hxd=>simp(disch:=first|decide|omega) only[aE.eq_1,aE.eq_2,cm.eq_1,bd.eq_1,bd.eq_2,hoc,go_sem]<;>with_reducible rfl
   case kxd=>kernel_rfl
   case lxd=>exact ak (by simp(disch:=decide) [ai,ab,aa,ag]) (by simp(disch:=decide) [ai,ab,aa,ag,aS]) (by decide)
  refine aO ?h7 ?q7
  case h7=>simp(disch:=decide) only[go_sem];all_goals rfl
  refine bp ?_;show bA _ _ _ _ _ _;have hdone:cy S j i (i+1)=bH bi S a (i+1):=rJ (by omega) j1 j2 hsrt (by omega) jc;have hi2:IntKind.i64.wrap ((i:Int)+((1:Nat):Int))=((i+1:Nat):Int):=by rw[wrap_i64 (by omega) (by omega)];omega
  refine ac jE (by simp(disch:=first|decide|omega) only[hoc,hi2,go_sem]<;>with_reducible rfl) ?_;refine⟨⟨i+1,by omega,.inl (by omega)⟩,by simp only;omega,?_⟩;simp only;rw[hdone,hnest,aai (by omega)];exact ak (by simp(disch:=decide) [ai,ab,aa,ag]) (by simp(disch:=decide) [ai,ab,aa,ag]) (by decide)
 refine ae ?_;refine ae (ac (e:=?e9) (s':=?s9) jE ?h9 ?q9)
 case h9=>simp(disch:=decide) only[hoc,go_sem];all_goals rfl
 refine aO (by simp(disch:=first|decide|omega) only[go_sem]<;>with_reducible rfl) ?_;refine bp ?_;refine⟨_,?e11,?W11,rfl,?h11,?q11⟩
 case h11=>simp(disch:=decide) only[Tryz.results139,go_sem];all_goals rfl
 refine⟨rfl,?_⟩;rw[Nat.min_eq_right (by omega)];simp(disch:=decide) only[go_sem]
def aT(l:List bC):bb:=.cells (l.flatMap az) 60 (0,0)
theorem qU(l l':List bC)(h:aT l=aT l'):l=l':=by
 unfold aT at h;injection h with h;exact mR cW lE (by decide) h
theorem iq(l:List bC):fY Tryz.prog (aT l):=bc (br bB l)
theorem nA{R:List bC}{q:Nat}(h:q<R.length):mw Tryz.prog 60 (R.flatMap az) (q*2)=some (.agg (az R[q]).toArray):=Fe GZ yY cW h
theorem F8{R:List bC}{q:Nat}(h:q<R.length):Nat.ble (q*2+2) (R.flatMap az).length=true:=EZ cW h
theorem N4{R:List bC}{q:Nat}{x:bC}(h:q<R.length):wr (R.flatMap az) (q*2) (az x)=(R.set q x).flatMap az:=CT cW h x
theorem nJ{b n cap i:Nat}{j:IntKind}(h:i<n):dB Tryz.prog (some (.slice 60)) (some (.slice (some ⟨b,0,none⟩) n cap)) (some (.int j ((i:Nat):Int)))=some (.val (some (.pointer (some ⟨b,i*2,none⟩)))):=I3 yY h
theorem to{R:List bC}{q:Nat}(h:q<R.length):dh bg R q=bg R[q]:=uq (ZP h)
theorem AZ{R:List bC}{i j:Nat}(hi:i<R.length)(hj:j<R.length):(R.set i R[j]).set j R[i]=eS R i j:=by
 unfold eS;rw[ZP hi,ZP hj]
theorem Ai{x y:bC}{W:XW}:bu (cN tP fun p=>.int .i64 (dW (bg p.1) (bg p.2))) [.agg (az x).toArray,.agg (az y).toArray,FP [nS]] W=some (.ret (.int .i64 (dW (bg x) (bg y))),W):=Vy
def KW(n:Nat)(a:Nat×Nat×Nat)(l:List bC):List Value:=[.slice (some ⟨n,0,none⟩) l.length a.2.2,.int .i64 (a.1:Int),.int .i64 (a.2.1:Int),bS]
structure XH(l:List bC)(a b:Nat) where
 i:Nat
 h1:a+1<=i
 h2:i<=b\/i=a+1
structure YK(S:List bC)(a i:Nat) where
 j:Nat
 h1:a<=j
 h2:j<=i
 c:j=i\/dh bg S i<dh bg S j
set_option maxHeartbeats 1000000 in
theorem IP(l:List bC)(a b cap:Nat)(hab:a<=b)(hb:b<=l.length)(hn:l.length<=1152921504606846976) :
 aN Tryz.prog 141 (KW 0 (a,b,cap) l) (wd [(0,some (aT l))] 1 [] 0) fun e W'=>e=.ret (.tuple #[])/\W'.get 0=some (aT (bH bg l a b)):=by
 obtain⟨n,hnl⟩:∃n,n=l.length:=⟨_,rfl⟩;have hbc:=mF;have hoc:bk bS=true:=rfl;show aN _ _ [.slice (some ⟨0,0,none⟩) l.length cap,.int .i64 (a:Int),.int .i64 (b:Int),bS] _ _;rw[<-hnl];refine be jz Tryz.func141 rfl (Nat.le_of_ble_eq_true rfl) ?_;simp only[aY.eq_1,aY.eq_2,bf,Tryz.ntmps141,reduceAdd];have hi1:IntKind.i64.wrap ((a:Int)+((1:Nat):Int))=((a+1:Nat):Int):=by rw[wrap_i64 (by omega) (by omega)];omega
 refine ae (ac jz (by simp(disch:=first|decide|omega) only[hoc,hi1,go_sem]<;>with_reducible rfl) ?_);refine aD ?_;refine aU (s':=⟨aI [(0,some (.slice (some ⟨0,0,none⟩) n cap)),(1,some (.int .i64 (a:Int))),(2,some (.int .i64 (b:Int))),(3,some bS),(8,some (.int .i64 ((a+1:Nat):Int)))],wd [(0,some (aT (bH bg l a (min (a+1) b))))] 1 [] 0,[]⟩) (ak (by simp(disch:=decide) [ai,ab,aa,ag]) (by rw[xd (by omega) (by omega) (by omega)];simp(disch:=decide) [ai,ab,aa,ag]) (by decide)) ?_;refine bw (α:=XH l a b) (fun y=>⟨aI [(0,some (.slice (some ⟨0,0,none⟩) n cap)),(1,some (.int .i64 (a:Int))),(2,some (.int .i64 (b:Int))),(3,some bS),(8,some (.int .i64 (y.i:Int)))],wd [(0,some (aT (bH bg l a (min y.i b))))] 1 [] 0,[]⟩) (fun y=>b-y.i) ?_ ⟨a+1,Nat.le_refl _,.inr rfl⟩;intro ⟨i,h1,h2⟩;simp only;by_cases hlt:i<b
 ·rw[aai (Nat.le_of_lt hlt)];have hS:(bH bg l a i).length=n:=by rw[ew (by omega) (by omega),hnl]
  have hsrt:dP bg (eU (bH bg l a i) a i):=by rw[BV (by omega) (by omega)];exact iG
  have hnest:bH bg (bH bg l a i) a (i+1)=bH bg l a (i+1):=zG (by omega) (by omega) (by omega);obtain⟨S,hSe⟩:∃S,S=bH bg l a i:=⟨_,rfl⟩;rw[<-hSe]at hS hsrt hnest ⊢;refine ae ?_;refine ae (ac (e:=?e2) (s':=?s2) jz ?h2 ?q2)
  case h2=>simp(disch:=decide) only[hoc,go_sem];all_goals rfl
  refine aZ (by simp(disch:=first|decide|omega) only[go_sem]<;>with_reducible rfl) ?_;refine aH ?_;refine ae (aD ?_);refine ae (ac jz (by simp(disch:=decide) only[hoc,go_sem]<;>with_reducible rfl) ?_);refine aD ?_;refine aU (s':=⟨aI [(0,some (.slice (some ⟨0,0,none⟩) n cap)),(1,some (.int .i64 (a:Int))),(2,some (.int .i64 (b:Int))),(3,some bS),(8,some (.int .i64 (i:Int))),(9,some (.int .i64 (i:Int)))],wd [(0,some (aT (cy S i i (i+1))))] 1 [] 0,[]⟩) (ak (by simp(disch:=decide) [ai,ab,aa,ag]) (by rw[mL (by omega) (by omega)];simp(disch:=decide) [ai,ab,aa,ag]) (by decide)) ?_;refine bw (α:=YK S a i) (fun y=>⟨aI [(0,some (.slice (some ⟨0,0,none⟩) n cap)),(1,some (.int .i64 (a:Int))),(2,some (.int .i64 (b:Int))),(3,some bS),(8,some (.int .i64 (i:Int))),(9,some (.int .i64 (y.j:Int)))],wd [(0,some (aT (cy S y.j i (i+1))))] 1 [] 0,[]⟩) (fun y=>y.j) ?_ ⟨i,by omega,Nat.le_refl _,.inl rfl⟩;intro ⟨j,j1,j2,jc⟩;simp only;have hR:(cy S j i (i+1)).length=n:=by rw[gj j2 (by omega) (by omega),hS]
  have g1:(cy S j i (i+1))[j]'(by omega)=S[i]'(by omega):=by have:=fw (l:=S) j2 (show i<=i+1 by omega) (by omega) j;rw[if_neg (by omega),if_pos (by omega),show j+(i-j)=i by omega,ZP (by omega),ZP (by omega)]at this;exact Option.some.inj this
  by_cases hgo:a<j/\dh bg S i<dh bg S (j-1)
  ·obtain⟨haj,hlt2⟩:=hgo;obtain⟨j',rfl⟩:∃j',j=j'+1:=⟨j-1,by omega⟩;have g2:(cy S (j'+1) i (i+1))[j']'(by omega)=S[j']'(by omega):=by
    have:=fw (l:=S) j2 (show i<=i+1 by omega) (by omega) j';rw[if_pos (by omega),ZP (by omega),ZP (by omega)]at this;exact Option.some.inj this
   have hdn:eS (cy S (j'+1) i (i+1)) (j'+1) (j'+1-1)=cy S (j'+1-1) i (i+1):=rM (by omega) j2 (by omega);rw[aaA]at hdn hlt2;have hk:dW (bg (cy S (j'+1) i (i+1))[j'+1]) (bg (cy S (j'+1) i (i+1))[j'])<((0:Nat):Int):=by rw[g1,g2,<-to,<-to,dW,if_pos hlt2];decide
   have hsub:IntKind.i64.wrap (((j'+1:Nat):Int)-((1:Nat):Int))=((j':Nat):Int):=by rw[wrap_i64 (by omega) (by omega)];omega
   obtain⟨R,hRe⟩:∃R,R=cy S (j'+1) i (i+1):=⟨_,rfl⟩;rw[<-hRe]at hdn;simp only[<-hRe]at hR hk ⊢;have hset:(R.set (j'+1) R[j']).length=n:=by rw[aaT,hR]
   refine ae ?_;refine bl jz ⟨aI [(0,some (.slice (some ⟨0,0,none⟩) n cap)),(1,some (.int .i64 (a:Int))),(2,some (.int .i64 (b:Int))),(3,some bS),(8,some (.int .i64 (i:Int))),(9,some (.int .i64 ((j'+1:Nat):Int))),(34,some (.bool true))],wd [(0,some (aT R))] 1 [] 0,[]⟩ ?hda ?qda
   case hda=>
    refine⟨?rsa,?sxa,?hxa,?kxa,?lxa⟩
    case hxa=>simp(disch:=first|decide|omega) only[aE.eq_1,aE.eq_2,cm.eq_1,bd.eq_1,bd.eq_2,hoc,hsub,aT,nJ,nA,Nu,bS,Ai,hk,go_sem]<;>with_reducible rfl
    case kxa=>kernel_rfl
    case lxa=>exact ak (by simp(disch:=decide) [ai,ab,aa,ag,bS]) (by simp(disch:=decide) [ai,ab,aa,ag,aT]) (by decide)
   refine aZ (by simp(disch:=decide) only[go_sem]<;>with_reducible rfl) ?_;refine aH ?_;refine fU jz ⟨aI [(0,some (.slice (some ⟨0,0,none⟩) n cap)),(1,some (.int .i64 (a:Int))),(2,some (.int .i64 (b:Int))),(3,some bS),(8,some (.int .i64 (i:Int))),(9,some (.int .i64 ((j'+1:Nat):Int)))],wd [(0,some (aT (eS R (j'+1) j')))] 1 [] 0,[]⟩ ?hdb ?qdb
   case hdb=>
    refine⟨?rsb,?sxb,?hxb,?kxb,?lxb⟩
    case hxb=>simp(disch:=first|decide|omega) only[aE.eq_1,aE.eq_2,cm.eq_1,bd.eq_1,bd.eq_2,hoc,hsub,aT,nJ,nA,F8,mW,N4,cW,iD,go_sem]<;>with_reducible rfl
    case kxb=>kernel_rfl
    case lxb=>exact ak (by simp(disch:=decide) [ai,ab,aa,ag]) (by rw[<-AZ (by omega) (by omega)];simp(disch:=decide) [ai,ab,aa,ag,aT]) (by decide)
   refine ac jz (by simp(disch:=first|decide|omega) only[hoc,hsub,go_sem]<;>with_reducible rfl) ?_;refine⟨⟨j',by omega,by omega,.inr hlt2⟩,by simp only;omega,?_⟩;rw[hdn];exact ak (by simp(disch:=decide) [ai,ab,aa,ag]) (by simp(disch:=decide) [ai,ab,aa,ag]) (by decide)
  refine ae ?_;refine bl jz ⟨aI [(0,some (.slice (some ⟨0,0,none⟩) n cap)),(1,some (.int .i64 (a:Int))),(2,some (.int .i64 (b:Int))),(3,some bS),(8,some (.int .i64 (i:Int))),(34,some (.bool false))],wd [(0,some (aT (cy S j i (i+1))))] 1 [] 0,[]⟩ ?hdc ?qdc
  case hdc=>
   rcases aaa a j with haj|haj
   ·obtain⟨j',rfl⟩:∃j',j=j'+1:=⟨j-1,by omega⟩;have g2:(cy S (j'+1) i (i+1))[j']'(by omega)=S[j']'(by omega):=by
     have:=fw (l:=S) j2 (show i<=i+1 by omega) (by omega) j';rw[if_pos (by omega),ZP (by omega),ZP (by omega)]at this;exact Option.some.inj this
    have hk:¬dW (bg (cy S (j'+1) i (i+1))[j'+1]) (bg (cy S (j'+1) i (i+1))[j'])<((0:Nat):Int):=by rw[aaA]at hgo;rw[g1,g2,<-to,<-to,dW,if_neg (fun h=>hgo ⟨haj,h⟩)];split<;>decide
    have hsub:IntKind.i64.wrap (((j'+1:Nat):Int)-((1:Nat):Int))=((j':Nat):Int):=by rw[wrap_i64 (by omega) (by omega)];omega
    obtain⟨R,hRe⟩:∃R,R=cy S (j'+1) i (i+1):=⟨_,rfl⟩;simp only[<-hRe]at hR hk ⊢;refine⟨?rsc,?sxc,?hxc,?kxc,?lxc⟩
    case hxc=>simp(disch:=first|decide|omega) only[aE.eq_1,aE.eq_2,cm.eq_1,bd.eq_1,bd.eq_2,hoc,hsub,aT,nJ,nA,Nu,bS,Ai,hk,go_sem]<;>with_reducible rfl
    case kxc=>kernel_rfl
    case lxc=>exact ak (by simp(disch:=decide) [ai,ab,aa,ag,bS]) (by simp(disch:=decide) [ai,ab,aa,ag,aT]) (by decide)
   refine⟨?rsd,?sxd,?hxd,?kxd,?lxd⟩
   case hxd=>simp(disch:=first|decide|omega) only[aE.eq_1,aE.eq_2,cm.eq_1,bd.eq_1,bd.eq_2,hoc,go_sem]<;>with_reducible rfl
   case kxd=>kernel_rfl
   case lxd=>exact ak (by simp(disch:=decide) [ai,ab,aa,ag]) (by simp(disch:=decide) [ai,ab,aa,ag,aT]) (by decide)
  refine aO ?h7 ?q7
  case h7=>simp(disch:=decide) only[go_sem];all_goals rfl
  refine bp ?_;show bA _ _ _ _ _ _;have hdone:cy S j i (i+1)=bH bg S a (i+1):=rJ (by omega) j1 j2 hsrt (by omega) jc;have hi2:IntKind.i64.wrap ((i:Int)+((1:Nat):Int))=((i+1:Nat):Int):=by rw[wrap_i64 (by omega) (by omega)];omega
  refine ac jz (by simp(disch:=first|decide|omega) only[hoc,hi2,go_sem]<;>with_reducible rfl) ?_;refine⟨⟨i+1,by omega,.inl (by omega)⟩,by simp only;omega,?_⟩;simp only;rw[hdone,hnest,aai (by omega)];exact ak (by simp(disch:=decide) [ai,ab,aa,ag]) (by simp(disch:=decide) [ai,ab,aa,ag]) (by decide)
 refine ae ?_;refine ae (ac (e:=?e9) (s':=?s9) jz ?h9 ?q9)
 case h9=>simp(disch:=decide) only[hoc,go_sem];all_goals rfl
 refine aO (by simp(disch:=first|decide|omega) only[go_sem]<;>with_reducible rfl) ?_;refine bp ?_;refine⟨_,?e11,?W11,rfl,?h11,?q11⟩
 case h11=>simp(disch:=decide) only[Tryz.results141,go_sem];all_goals rfl
 refine⟨rfl,?_⟩;rw[Nat.min_eq_right (by omega)];simp(disch:=decide) only[go_sem]
def nr(n:Nat)(a:Nat×Nat×Nat×Nat)(l:List aC):List Value:=[.slice (some ⟨n,0,none⟩) l.length a.2.2.2,.int .i64 (a.1:Int),.int .i64 (a.2.1:Int),.int .i64 (a.2.2.1:Int),bT]
theorem gi{a b:Nat}(h:Value.int .i64 (a:Int)=.int .i64 (b:Int)):a=b:=by
 injection h with _ h;omega
def Ag:nw (Nat×Nat×Nat) (List aC) where
 args:=Ld
 row:=aS
 inj n a b n' a' b' h:=by obtain⟨a1,a2,a3⟩:=a;obtain⟨b1,b2,b3⟩:=a';unfold Ld at h;injection h with h1 h;injection h with h2 h;injection h with h3 h;have e2:=gi h2;have e3:=gi h3;injection h1 with h1 _ hc;injection h1 with h1;injection h1 with h1;simp only at e2 e3 hc;exact⟨h1,by rw[e2,e3,hc]⟩
 rinj:=rR
def lB:nw (Nat×Nat×Nat×Nat) (List aC) where
 args:=nr
 row:=aS
 inj n a b n' a' b' h:=by obtain⟨a1,a2,a3,a4⟩:=a;obtain⟨b1,b2,b3,b4⟩:=a';unfold nr at h;injection h with h1 h;injection h with h2 h;injection h with h3 h;injection h with h4 h;have e2:=gi h2;have e3:=gi h3;have e4:=gi h4;injection h1 with h1 _ hc;injection h1 with h1;injection h1 with h1;simp only at e2 e3 e4 hc;exact⟨h1,by rw[e2,e3,e4,hc]⟩
 rinj:=rR
theorem Yt(n:Nat)(a:Nat×Nat×Nat)(l:List aC):iP (cM (only n)) (Ag.args n a l) (Ag.args 0 a l):=
 ax (bI ip) (ax (ar 1 rfl) (ax (ar 1 rfl) (ax (mN _ ah) aX)))
theorem GS(n:Nat)(a:Nat×Nat×Nat×Nat)(l:List aC):iP (cM (only n)) (lB.args n a l) (lB.args 0 a l):=
 ax (bI ip) (ax (ar 1 rfl) (ax (ar 1 rfl) (ax (ar 1 rfl) (ax (mN _ ah) aX))))
abbrev u0:Value:=.tuple #[]
def fE:Nat:=1152921504606846976
def Db(a:Nat×Nat×Nat)(l:List aC):Option (Value×List aC):=if a.1<=a.2.1/\a.2.1<=l.length/\l.length<=fE then some (u0,bH bi l a.1 a.2.1)else none
theorem YE:bD Tryz.prog 139 (dr Ag Db):=jS (enters_of (by kernel_rfl)) Yt gL (fun a b v b' h=>by
 unfold Db at h;split at h
 ·cases h;exact aG 8 rfl
 ·cases h) (fun a l v b' h=>by
 unfold Db at h;split at h
 ·rename_i hc;cases h;exact J3 l a.1 a.2.1 a.2.2 hc.1 hc.2.1 hc.2.2
 cases h)
theorem JB{a b cap:Nat}{l:List aC}(h1:a<=b)(h2:b<=l.length)(h3:l.length<=fE):Db (a,b,cap) l=some (u0,bH bi l a b):=if_pos ⟨h1,h2,h3⟩
structure Y4(N:Nat) where
 i:Nat
 h:i<=N
set_option maxHeartbeats 1000000 in
theorem MP(l:List aC)(a b N cap:Nat)(h1:a+N<=b)(h2:b+N<=l.length)(hn:l.length<=fE) :
 aN Tryz.prog 155 (nr 0 (a,b,N,cap) l) (wd [(0,some (aS l))] 1 [] 0) fun e W'=>e=.ret u0/\W'.get 0=some (aS (fI l a b N)):=by
 obtain⟨n,hnl⟩:∃n,n=l.length:=⟨_,rfl⟩;unfold fE at hn;have hoc:bk bT=true:=rfl;show aN _ _ [.slice (some ⟨0,0,none⟩) l.length cap,.int .i64 (a:Int),.int .i64 (b:Int),.int .i64 (N:Int),bT] _ _;rw[<-hnl];refine be av Tryz.func155 rfl (Nat.le_of_ble_eq_true rfl) ?_;simp only[aY.eq_1,aY.eq_2,bf,Tryz.ntmps155,reduceAdd];refine ae (ac (e:=?e1) (s':=?s1) av ?h1 ?q1)
 case h1=>simp(disch:=decide) only[hoc,go_sem];all_goals rfl
 refine aD ?_;refine aU (s':=⟨aI [(0,some (.slice (some ⟨0,0,none⟩) n cap)),(1,some (.int .i64 (a:Int))),(2,some (.int .i64 (b:Int))),(3,some (.int .i64 (N:Int))),(10,some (.int .i64 ((0:Nat):Int)))],wd [(0,some (aS (fI l a b 0)))] 1 [] 0,[]⟩) (ak (by simp(disch:=decide) [ai,ab,aa,ag]) (by rw[fI];simp(disch:=decide) [ai,ab,aa,ag]) (by decide)) ?_;refine bw (α:=Y4 N) (fun y=>⟨aI [(0,some (.slice (some ⟨0,0,none⟩) n cap)),(1,some (.int .i64 (a:Int))),(2,some (.int .i64 (b:Int))),(3,some (.int .i64 (N:Int))),(10,some (.int .i64 (y.i:Int)))],wd [(0,some (aS (fI l a b y.i)))] 1 [] 0,[]⟩) (fun y=>N-y.i) ?_ ⟨0,Z3 _⟩;intro ⟨i,hi⟩;simp only;by_cases hlt:i<N
 ·have hR:(fI l a b i).length=n:=by rw[fH,hnl]
  have hnx:fI l a b (i+1)=eS (fI l a b i) (a+i) (b+i):=rfl;obtain⟨R,hRe⟩:∃R,R=fI l a b i:=⟨_,rfl⟩;rw[<-hRe]at hR hnx ⊢;have hset:(R.set (a+i) (R[b+i]'(by omega))).length=n:=by rw[aaT,hR]
  refine ae ?_;refine ae (ac (e:=?e2) (s':=?s2) av ?h2 ?q2)
  case h2=>simp(disch:=decide) only[hoc,go_sem];all_goals rfl
  refine aZ (by simp(disch:=first|decide|omega) only[go_sem]<;>with_reducible rfl) ?_;refine aH ?_;refine fU av ⟨aI [(0,some (.slice (some ⟨0,0,none⟩) n cap)),(1,some (.int .i64 (a:Int))),(2,some (.int .i64 (b:Int))),(3,some (.int .i64 (N:Int))),(10,some (.int .i64 (i:Int)))],wd [(0,some (aS (eS R (a+i) (b+i))))] 1 [] 0,[]⟩ ?hdb ?qdb
  case hdb=>
   refine⟨?rsb,?sxb,?hxb,?kxb,?lxb⟩
   case hxb=>simp(disch:=first|decide|omega) only[aE.eq_1,aE.eq_2,cm.eq_1,bd.eq_1,bd.eq_2,aS,mf,nK,G3,mW,NM,cD,gh,go_sem]<;>with_reducible rfl
   case kxb=>kernel_rfl
   case lxb=>exact ak (by simp(disch:=decide) [ai,ab,aa,ag]) (by rw[<-AY (by omega) (by omega)];simp(disch:=decide) [ai,ab,aa,ag,aS]) (by decide)
  refine ac av (by simp(disch:=first|decide|omega) only[hoc,go_sem]<;>with_reducible rfl) ?_;refine⟨⟨i+1,by omega⟩,by simp only;omega,?_⟩;simp only;rw[hnx];exact ak (by simp(disch:=decide) [ai,ab,aa,ag]) (by simp(disch:=decide) [ai,ab,aa,ag]) (by decide)
 refine ae ?_;refine ae (ac (e:=?e5) (s':=?s5) av ?h5 ?q5)
 case h5=>simp(disch:=decide) only[hoc,go_sem];all_goals rfl
 refine aO (by simp(disch:=first|decide|omega) only[go_sem]<;>with_reducible rfl) ?_;refine bp ?_;refine⟨_,?e7,?W7,rfl,?h7,?q7⟩
 case h7=>simp(disch:=decide) only[Tryz.results155,go_sem];all_goals rfl
 refine⟨rfl,?_⟩;rw[show i=N by omega];simp(disch:=decide) only[go_sem]
def zT(a:Nat×Nat×Nat×Nat)(l:List aC):Option (Value×List aC):=if a.1+a.2.2.1<=a.2.1/\a.2.1+a.2.2.1<=l.length/\l.length<=fE then some (u0,fI l a.1 a.2.1 a.2.2.1)else none
theorem Vi:bD Tryz.prog 155 (dr lB zT):=jS (enters_of (by kernel_rfl)) GS gL (fun a b v b' h=>by
 unfold zT at h;split at h
 ·cases h;exact aG 8 rfl
 ·cases h) (fun a l v b' h=>by
 unfold zT at h;split at h
 ·rename_i hc;cases h;exact MP l a.1 a.2.1 a.2.2.1 a.2.2.2 hc.1 hc.2.1 hc.2.2
 cases h)
theorem BZ{a b N cap:Nat}{l:List aC}(h1:a+N<=b)(h2:b+N<=l.length)(h3:l.length<=fE):zT (a,b,N,cap) l=some (u0,fI l a b N):=if_pos ⟨h1,h2,h3⟩
theorem m8{f:Nat×Nat×Nat×Nat->List aC->Option (Value×List aC)}{W:XW}{k n a m b cap:Nat}{l l':List aC}(hW:W.get k=some (aS l))(hf:f (a,m,b,cap) l=some (u0,l'))(hl:n=l.length) :
 dr lB f [.slice (some ⟨k,0,none⟩) n cap,.int .i64 (a:Int),.int .i64 (m:Int),.int .i64 (b:Int),bT] W=some (.ret u0,W.put k (some (aS l'))):=by
 subst hl;exact ng (E:=lB) (a:=(a,m,b,cap)) hW hf
theorem JQ{f:Nat×Nat×Nat->List aC->Option (Value×List aC)}{W:XW}{k n a b cap:Nat}{l l':List aC}(hW:W.get k=some (aS l))(hf:f (a,b,cap) l=some (u0,l'))(hl:n=l.length) :
 dr Ag f [.slice (some ⟨k,0,none⟩) n cap,.int .i64 (a:Int),.int .i64 (b:Int),bT] W=some (.ret u0,W.put k (some (aS l'))):=by
 subst hl;exact ng (E:=Ag) (a:=(a,b,cap)) hW hf
noncomputable def NS:List (FuncId×HF):=[(155,dr lB zT)]
theorem jv:dv Tryz.prog (cE NS []):=⟨mixed,bU (.cons _ _ _ Vi .nil) .nil⟩
theorem ik{o:bb}{n nl:Nat}{lg:List Nat}(h:0<n):(wd [(0,some o)] n lg nl).get 0=some o:=by rw[bO h (by decide),ab]
structure Zr(l:List aC)(a m b:Nat) where
 i:Nat
 j:Nat
 r:List aC
 hr:r.length=l.length
 hi:0<i
 him:i<=m
 hj:0<j
 hjn:m+j<=l.length
 eq:cy r (m-i) m (m+j)=cy l a m b
set_option maxHeartbeats 1000000 in
theorem L6(l:List aC)(a m b cap:Nat)(h1:a<m)(h2:m<b)(h3:b<=l.length)(hn:l.length<=fE) :
 aN Tryz.prog 151 (nr 0 (a,m,b,cap) l) (wd [(0,some (aS l))] 1 [] 0) fun e W'=>e=.ret u0/\W'.get 0=some (aS (cy l a m b)):=by
 obtain⟨n,hnl⟩:∃n,n=l.length:=⟨_,rfl⟩;have hbig:=hn;unfold fE at hn;have hoc:bk bT=true:=rfl;show aN _ _ [.slice (some ⟨0,0,none⟩) l.length cap,.int .i64 (a:Int),.int .i64 (m:Int),.int .i64 (b:Int),bT] _ _;rw[<-hnl];refine be jv Tryz.func151 rfl (Nat.le_of_ble_eq_true rfl) ?_;simp only[aY.eq_1,aY.eq_2,bf,Tryz.ntmps151,reduceAdd];have q1:IntKind.i64.wrap ((m:Int)-(a:Int))=((m-a:Nat):Int):=by rw[wrap_i64 (by omega) (by omega)];omega
 have q2:IntKind.i64.wrap ((b:Int)-(m:Int))=((b-m:Nat):Int):=by rw[wrap_i64 (by omega) (by omega)];omega
 refine ae (ac (e:=?e8) (s':=?s8) jv ?h8 ?q8)
 case h8=>simp(disch:=decide) only[hoc,q1,go_sem];all_goals rfl
 refine ae (ac (e:=?e9) (s':=?s9) jv ?h9 ?q9)
 case h9=>simp(disch:=decide) only[hoc,q2,go_sem];all_goals rfl
 refine ae ?_;refine aD ?_;refine aU (s':=⟨aI [(0,some (.slice (some ⟨0,0,none⟩) n cap)),(2,some (.int .i64 (m:Int))),(4,some bT),(10,some (.int .i64 ((m-a:Nat):Int))),(11,some (.int .i64 ((b-m:Nat):Int)))],wd [(0,some (aS l))] 1 [] 0,[]⟩) (ak (by simp(disch:=decide) [ai,ab,aa,ag]) (by simp(disch:=decide) [ai,ab,aa,ag]) (by decide)) ?_;refine bw (α:=Zr l a m b) (fun y=>⟨aI [(0,some (.slice (some ⟨0,0,none⟩) n cap)),(2,some (.int .i64 (m:Int))),(4,some bT),(10,some (.int .i64 (y.i:Int))),(11,some (.int .i64 (y.j:Int)))],wd [(0,some (aS y.r))] 1 [] 0,[]⟩) (fun y=>y.i+y.j) ?_ ⟨m-a,b-m,l,rfl,by omega,by omega,by omega,by omega,by rw[show m-(m-a)=a by omega,show m+(b-m)=b by omega]⟩;intro ⟨i,j,r,hr,hi,him,hj,hjn,heq⟩;simp only;have q3:IntKind.i64.wrap ((m:Int)-(i:Int))=((m-i:Nat):Int):=by rw[wrap_i64 (by omega) (by omega)];omega
 by_cases hij:i=j
 ·subst hij;have hx:((i:Int) !=(i:Int))=false:=by simp
  have hg:dr lB zT [.slice (some ⟨0,0,none⟩) n cap,.int .i64 ((m-i:Nat):Int),.int .i64 (m:Int),.int .i64 (i:Int),bT] (wd [(0,some (aS r))] 1 [] 0)=some (.ret u0,wd [(0,some (aS (fI r (m-i) m i))),(0,some (aS r))] 1 [0] 1):=(m8 (ik (by decide)) (BZ (by omega) (by omega) (by omega)) (by omega)).trans (by simp only[di]);refine ae ?_;refine ae (ac (e:=?e10) (s':=?s10) jv ?h10 ?q10)
  case h10=>simp(disch:=decide) only[hoc,hx,go_sem];all_goals rfl
  refine aO ?h11 ?q11
  case h11=>simp(disch:=decide) only[go_sem];all_goals rfl
  refine bp ?_;show bA _ _ _ _ _ _;refine ac (e:=?e12) (s':=?s12) jv ?h12 ?q12
  case h12=>simp(disch:=decide) only[hoc,q3,NS,hg,go_sem];all_goals rfl
  refine⟨_,?e13,?W13,rfl,?h13,?q13⟩
  case h13=>simp(disch:=decide) only[Tryz.results151,go_sem];all_goals rfl
  refine⟨rfl,?_⟩;rw[<-heq,<-IC him (by omega)];simp(disch:=decide) only[go_sem]
 have hx:((i:Int) !=(j:Int))=true:=by simp;omega
 refine ae ?_;refine ae (ac (e:=?e14) (s':=?s14) jv ?h14 ?q14)
 case h14=>simp(disch:=decide) only[hoc,hx,go_sem];all_goals rfl
 refine aZ ?h15 ?q15
 case h15=>simp(disch:=decide) only[go_sem];all_goals rfl
 refine aH ?_;refine aD ?_;by_cases hlt:j<i
 ·have hg:dr lB zT [.slice (some ⟨0,0,none⟩) n cap,.int .i64 ((m-i:Nat):Int),.int .i64 (m:Int),.int .i64 (j:Int),bT] (wd [(0,some (aS r))] 1 [] 0)=some (.ret u0,wd [(0,some (aS (fI r (m-i) m j))),(0,some (aS r))] 1 [0] 1):=(m8 (ik (by decide)) (BZ (by omega) (by omega) (by omega)) (by omega)).trans (by simp only[di]);have q4:IntKind.i64.wrap ((i:Int)-(j:Int))=((i-j:Nat):Int):=by rw[wrap_i64 (by omega) (by omega)];omega
  refine ae (ac (e:=?e16) (s':=?s16) jv ?h16 ?q16)
  case h16=>simp(disch:=decide) only[hoc,go_sem];all_goals rfl
  refine aZ (by simp(disch:=first|decide|omega) only[go_sem]<;>with_reducible rfl) ?_;refine ae (ac (e:=?e18) (s':=?s18) jv ?h18 ?q18)
  case h18=>simp(disch:=decide) only[hoc,q3,NS,hg,go_sem];all_goals rfl
  refine ac (e:=?e19) (s':=?s19) jv ?h19 ?q19
  case h19=>simp(disch:=decide) only[hoc,q4,go_sem];all_goals rfl
  refine⟨⟨i-j,j,fI r (m-i) m j,by rw[fH,hr],by omega,by omega,by omega,by omega,by rw[IH him (by omega) hlt,heq]⟩,by simp only;omega,?_⟩;simp only;exact ak (by simp(disch:=decide) [ai,ab,aa,ag]) (by simp(disch:=decide) [ai,ab,aa,ag]) (by decide)
 have q4:IntKind.i64.wrap ((j:Int)-(i:Int))=((j-i:Nat):Int):=by rw[wrap_i64 (by omega) (by omega)];omega
 have q5:IntKind.i64.wrap (((m+j:Nat):Int)-(i:Int))=((m+j-i:Nat):Int):=by rw[wrap_i64 (by omega) (by omega)];omega
 have hg:dr lB zT [.slice (some ⟨0,0,none⟩) n cap,.int .i64 ((m-i:Nat):Int),.int .i64 ((m+j-i:Nat):Int),.int .i64 (i:Int),bT] (wd [(0,some (aS r))] 1 [] 0)=some (.ret u0,wd [(0,some (aS (fI r (m-i) (m+j-i) i))),(0,some (aS r))] 1 [0] 1):=(m8 (ik (by decide)) (BZ (by omega) (by omega) (by omega)) (by omega)).trans (by simp only[di]);refine ae (ac (e:=?e20) (s':=?s20) jv ?h20 ?q20)
 case h20=>simp(disch:=decide) only[hoc,go_sem];all_goals rfl
 refine aO (by simp(disch:=first|decide|omega) only[go_sem]<;>with_reducible rfl) ?_;refine ae (ac jv (by simp(disch:=first|decide|omega) only[hoc,q3,q5,NS,hg,go_sem]<;>with_reducible rfl) ?_);refine ac (e:=?e23) (s':=?s23) jv ?h23 ?q23
 case h23=>simp(disch:=decide) only[hoc,q4,go_sem];all_goals rfl
 refine⟨⟨i,j-i,fI r (m-i) (m+j-i) i,by rw[fH,hr],by omega,by omega,by omega,by omega,by rw[If him (by omega) (by omega),heq]⟩,by simp only;omega,?_⟩;simp only;exact ak (by simp(disch:=decide) [ai,ab,aa,ag]) (by simp(disch:=decide) [ai,ab,aa,ag]) (by decide)
def ED(a:Nat×Nat×Nat×Nat)(l:List aC):Option (Value×List aC):=if a.1<a.2.1/\a.2.1<a.2.2.1/\a.2.2.1<=l.length/\l.length<=fE then some (u0,cy l a.1 a.2.1 a.2.2.1)else none
theorem G8:bD Tryz.prog 151 (dr lB ED):=jS (enters_of (by kernel_rfl)) GS gL (fun a b v b' h=>by
 unfold ED at h;split at h
 ·cases h;exact aG 8 rfl
 ·cases h) (fun a l v b' h=>by
 unfold ED at h;split at h
 ·rename_i hc;cases h;exact L6 l a.1 a.2.1 a.2.2.1 a.2.2.2 hc.1 hc.2.1 hc.2.2.1 hc.2.2.2
 cases h)
theorem Tm{a m b cap:Nat}{l:List aC}(h1:a<m)(h2:m<b)(h3:b<=l.length)(h4:l.length<=fE):ED (a,m,b,cap) l=some (u0,cy l a m b):=if_pos ⟨h1,h2,h3,h4⟩
def ny(n:Nat)(a:Nat×Nat×Nat×Nat)(l:List bC):List Value:=[.slice (some ⟨n,0,none⟩) l.length a.2.2.2,.int .i64 (a.1:Int),.int .i64 (a.2.1:Int),.int .i64 (a.2.2.1:Int),bS]
def zK:nw (Nat×Nat×Nat) (List bC) where
 args:=KW
 row:=aT
 inj n a b n' a' b' h:=by obtain⟨a1,a2,a3⟩:=a;obtain⟨b1,b2,b3⟩:=a';unfold KW at h;injection h with h1 h;injection h with h2 h;injection h with h3 h;have e2:=gi h2;have e3:=gi h3;injection h1 with h1 _ hc;injection h1 with h1;injection h1 with h1;simp only at e2 e3 hc;exact⟨h1,by rw[e2,e3,hc]⟩
 rinj:=qU
def lN:nw (Nat×Nat×Nat×Nat) (List bC) where
 args:=ny
 row:=aT
 inj n a b n' a' b' h:=by obtain⟨a1,a2,a3,a4⟩:=a;obtain⟨b1,b2,b3,b4⟩:=a';unfold ny at h;injection h with h1 h;injection h with h2 h;injection h with h3 h;injection h with h4 h;have e2:=gi h2;have e3:=gi h3;have e4:=gi h4;injection h1 with h1 _ hc;injection h1 with h1;injection h1 with h1;simp only at e2 e3 e4 hc;exact⟨h1,by rw[e2,e3,e4,hc]⟩
 rinj:=qU
theorem YG(n:Nat)(a:Nat×Nat×Nat)(l:List bC):iP (cM (only n)) (zK.args n a l) (zK.args 0 a l):=
 ax (bI ip) (ax (ar 1 rfl) (ax (ar 1 rfl) (ax (mF _ ah) aX)))
theorem Hs(n:Nat)(a:Nat×Nat×Nat×Nat)(l:List bC):iP (cM (only n)) (lN.args n a l) (lN.args 0 a l):=
 ax (bI ip) (ax (ar 1 rfl) (ax (ar 1 rfl) (ax (ar 1 rfl) (ax (mF _ ah) aX))))
def Bc(a:Nat×Nat×Nat)(l:List bC):Option (Value×List bC):=if a.1<=a.2.1/\a.2.1<=l.length/\l.length<=fE then some (u0,bH bg l a.1 a.2.1)else none
theorem Yn:bD Tryz.prog 141 (dr zK Bc):=jS (enters_of (by kernel_rfl)) YG iq (fun a b v b' h=>by
 unfold Bc at h;split at h
 ·cases h;exact aG 8 rfl
 ·cases h) (fun a l v b' h=>by
 unfold Bc at h;split at h
 ·rename_i hc;cases h;exact IP l a.1 a.2.1 a.2.2 hc.1 hc.2.1 hc.2.2
 cases h)
theorem Ip{a b cap:Nat}{l:List bC}(h1:a<=b)(h2:b<=l.length)(h3:l.length<=fE):Bc (a,b,cap) l=some (u0,bH bg l a b):=if_pos ⟨h1,h2,h3⟩
structure YY(N:Nat) where
 i:Nat
 h:i<=N
set_option maxHeartbeats 1000000 in
theorem Lw(l:List bC)(a b N cap:Nat)(h1:a+N<=b)(h2:b+N<=l.length)(hn:l.length<=fE) :
 aN Tryz.prog 156 (ny 0 (a,b,N,cap) l) (wd [(0,some (aT l))] 1 [] 0) fun e W'=>e=.ret u0/\W'.get 0=some (aT (fI l a b N)):=by
 obtain⟨n,hnl⟩:∃n,n=l.length:=⟨_,rfl⟩;unfold fE at hn;have hoc:bk bS=true:=rfl;show aN _ _ [.slice (some ⟨0,0,none⟩) l.length cap,.int .i64 (a:Int),.int .i64 (b:Int),.int .i64 (N:Int),bS] _ _;rw[<-hnl];refine be av Tryz.func156 rfl (Nat.le_of_ble_eq_true rfl) ?_;simp only[aY.eq_1,aY.eq_2,bf,Tryz.ntmps156,reduceAdd];refine ae (ac (e:=?e1) (s':=?s1) av ?h1 ?q1)
 case h1=>simp(disch:=decide) only[hoc,go_sem];all_goals rfl
 refine aD ?_;refine aU (s':=⟨aI [(0,some (.slice (some ⟨0,0,none⟩) n cap)),(1,some (.int .i64 (a:Int))),(2,some (.int .i64 (b:Int))),(3,some (.int .i64 (N:Int))),(10,some (.int .i64 ((0:Nat):Int)))],wd [(0,some (aT (fI l a b 0)))] 1 [] 0,[]⟩) (ak (by simp(disch:=decide) [ai,ab,aa,ag]) (by rw[fI];simp(disch:=decide) [ai,ab,aa,ag]) (by decide)) ?_;refine bw (α:=YY N) (fun y=>⟨aI [(0,some (.slice (some ⟨0,0,none⟩) n cap)),(1,some (.int .i64 (a:Int))),(2,some (.int .i64 (b:Int))),(3,some (.int .i64 (N:Int))),(10,some (.int .i64 (y.i:Int)))],wd [(0,some (aT (fI l a b y.i)))] 1 [] 0,[]⟩) (fun y=>N-y.i) ?_ ⟨0,Z3 _⟩;intro ⟨i,hi⟩;simp only;by_cases hlt:i<N
 ·have hR:(fI l a b i).length=n:=by rw[fH,hnl]
  have hnx:fI l a b (i+1)=eS (fI l a b i) (a+i) (b+i):=rfl;obtain⟨R,hRe⟩:∃R,R=fI l a b i:=⟨_,rfl⟩;rw[<-hRe]at hR hnx ⊢;have hset:(R.set (a+i) (R[b+i]'(by omega))).length=n:=by rw[aaT,hR]
  refine ae ?_;refine ae (ac (e:=?e2) (s':=?s2) av ?h2 ?q2)
  case h2=>simp(disch:=decide) only[hoc,go_sem];all_goals rfl
  refine aZ (by simp(disch:=first|decide|omega) only[go_sem]<;>with_reducible rfl) ?_;refine aH ?_;refine fU av ⟨aI [(0,some (.slice (some ⟨0,0,none⟩) n cap)),(1,some (.int .i64 (a:Int))),(2,some (.int .i64 (b:Int))),(3,some (.int .i64 (N:Int))),(10,some (.int .i64 (i:Int)))],wd [(0,some (aT (eS R (a+i) (b+i))))] 1 [] 0,[]⟩ ?hdb ?qdb
  case hdb=>
   refine⟨?rsb,?sxb,?hxb,?kxb,?lxb⟩
   case hxb=>simp(disch:=first|decide|omega) only[aE.eq_1,aE.eq_2,cm.eq_1,bd.eq_1,bd.eq_2,aT,nJ,nA,F8,mW,N4,cW,iD,go_sem]<;>with_reducible rfl
   case kxb=>kernel_rfl
   case lxb=>exact ak (by simp(disch:=decide) [ai,ab,aa,ag]) (by rw[<-AZ (by omega) (by omega)];simp(disch:=decide) [ai,ab,aa,ag,aT]) (by decide)
  refine ac av (by simp(disch:=first|decide|omega) only[hoc,go_sem]<;>with_reducible rfl) ?_;refine⟨⟨i+1,by omega⟩,by simp only;omega,?_⟩;simp only;rw[hnx];exact ak (by simp(disch:=decide) [ai,ab,aa,ag]) (by simp(disch:=decide) [ai,ab,aa,ag]) (by decide)
 refine ae ?_;refine ae (ac (e:=?e5) (s':=?s5) av ?h5 ?q5)
 case h5=>simp(disch:=decide) only[hoc,go_sem];all_goals rfl
 refine aO (by simp(disch:=first|decide|omega) only[go_sem]<;>with_reducible rfl) ?_;refine bp ?_;refine⟨_,?e7,?W7,rfl,?h7,?q7⟩
 case h7=>simp(disch:=decide) only[Tryz.results156,go_sem];all_goals rfl
 refine⟨rfl,?_⟩;rw[show i=N by omega];simp(disch:=decide) only[go_sem]
def Ar(a:Nat×Nat×Nat×Nat)(l:List bC):Option (Value×List bC):=if a.1+a.2.2.1<=a.2.1/\a.2.1+a.2.2.1<=l.length/\l.length<=fE then some (u0,fI l a.1 a.2.1 a.2.2.1)else none
theorem WT:bD Tryz.prog 156 (dr lN Ar):=jS (enters_of (by kernel_rfl)) Hs iq (fun a b v b' h=>by
 unfold Ar at h;split at h
 ·cases h;exact aG 8 rfl
 ·cases h) (fun a l v b' h=>by
 unfold Ar at h;split at h
 ·rename_i hc;cases h;exact Lw l a.1 a.2.1 a.2.2.1 a.2.2.2 hc.1 hc.2.1 hc.2.2
 cases h)
theorem Bt{a b N cap:Nat}{l:List bC}(h1:a+N<=b)(h2:b+N<=l.length)(h3:l.length<=fE):Ar (a,b,N,cap) l=some (u0,fI l a b N):=if_pos ⟨h1,h2,h3⟩
theorem m7{f:Nat×Nat×Nat×Nat->List bC->Option (Value×List bC)}{W:XW}{k n a m b cap:Nat}{l l':List bC}(hW:W.get k=some (aT l))(hf:f (a,m,b,cap) l=some (u0,l'))(hl:n=l.length) :
 dr lN f [.slice (some ⟨k,0,none⟩) n cap,.int .i64 (a:Int),.int .i64 (m:Int),.int .i64 (b:Int),bS] W=some (.ret u0,W.put k (some (aT l'))):=by
 subst hl;exact ng (E:=lN) (a:=(a,m,b,cap)) hW hf
theorem Ii{f:Nat×Nat×Nat->List bC->Option (Value×List bC)}{W:XW}{k n a b cap:Nat}{l l':List bC}(hW:W.get k=some (aT l))(hf:f (a,b,cap) l=some (u0,l'))(hl:n=l.length) :
 dr zK f [.slice (some ⟨k,0,none⟩) n cap,.int .i64 (a:Int),.int .i64 (b:Int),bS] W=some (.ret u0,W.put k (some (aT l'))):=by
 subst hl;exact ng (E:=zK) (a:=(a,b,cap)) hW hf
noncomputable def N9:List (FuncId×HF):=[(156,dr lN Ar)]
theorem jr:dv Tryz.prog (cE N9 []):=⟨mixed,bU (.cons _ _ _ WT .nil) .nil⟩
structure Zz(l:List bC)(a m b:Nat) where
 i:Nat
 j:Nat
 r:List bC
 hr:r.length=l.length
 hi:0<i
 him:i<=m
 hj:0<j
 hjn:m+j<=l.length
 eq:cy r (m-i) m (m+j)=cy l a m b
set_option maxHeartbeats 1000000 in
theorem M9(l:List bC)(a m b cap:Nat)(h1:a<m)(h2:m<b)(h3:b<=l.length)(hn:l.length<=fE) :
 aN Tryz.prog 152 (ny 0 (a,m,b,cap) l) (wd [(0,some (aT l))] 1 [] 0) fun e W'=>e=.ret u0/\W'.get 0=some (aT (cy l a m b)):=by
 obtain⟨n,hnl⟩:∃n,n=l.length:=⟨_,rfl⟩;have hbig:=hn;unfold fE at hn;have hoc:bk bS=true:=rfl;show aN _ _ [.slice (some ⟨0,0,none⟩) l.length cap,.int .i64 (a:Int),.int .i64 (m:Int),.int .i64 (b:Int),bS] _ _;rw[<-hnl];refine be jr Tryz.func152 rfl (Nat.le_of_ble_eq_true rfl) ?_;simp only[aY.eq_1,aY.eq_2,bf,Tryz.ntmps152,reduceAdd];have q1:IntKind.i64.wrap ((m:Int)-(a:Int))=((m-a:Nat):Int):=by rw[wrap_i64 (by omega) (by omega)];omega
 have q2:IntKind.i64.wrap ((b:Int)-(m:Int))=((b-m:Nat):Int):=by rw[wrap_i64 (by omega) (by omega)];omega
 refine ae (ac (e:=?e8) (s':=?s8) jr ?h8 ?q8)
 case h8=>simp(disch:=decide) only[hoc,q1,go_sem];all_goals rfl
 refine ae (ac (e:=?e9) (s':=?s9) jr ?h9 ?q9)
 case h9=>simp(disch:=decide) only[hoc,q2,go_sem];all_goals rfl
 refine ae ?_;refine aD ?_;refine aU (s':=⟨aI [(0,some (.slice (some ⟨0,0,none⟩) n cap)),(2,some (.int .i64 (m:Int))),(4,some bS),(10,some (.int .i64 ((m-a:Nat):Int))),(11,some (.int .i64 ((b-m:Nat):Int)))],wd [(0,some (aT l))] 1 [] 0,[]⟩) (ak (by simp(disch:=decide) [ai,ab,aa,ag]) (by simp(disch:=decide) [ai,ab,aa,ag]) (by decide)) ?_;refine bw (α:=Zz l a m b) (fun y=>⟨aI [(0,some (.slice (some ⟨0,0,none⟩) n cap)),(2,some (.int .i64 (m:Int))),(4,some bS),(10,some (.int .i64 (y.i:Int))),(11,some (.int .i64 (y.j:Int)))],wd [(0,some (aT y.r))] 1 [] 0,[]⟩) (fun y=>y.i+y.j) ?_ ⟨m-a,b-m,l,rfl,by omega,by omega,by omega,by omega,by rw[show m-(m-a)=a by omega,show m+(b-m)=b by omega]⟩;intro ⟨i,j,r,hr,hi,him,hj,hjn,heq⟩;simp only;have q3:IntKind.i64.wrap ((m:Int)-(i:Int))=((m-i:Nat):Int):=by rw[wrap_i64 (by omega) (by omega)];omega
 by_cases hij:i=j
 ·subst hij;have hx:((i:Int) !=(i:Int))=false:=by simp
  have hg:dr lN Ar [.slice (some ⟨0,0,none⟩) n cap,.int .i64 ((m-i:Nat):Int),.int .i64 (m:Int),.int .i64 (i:Int),bS] (wd [(0,some (aT r))] 1 [] 0)=some (.ret u0,wd [(0,some (aT (fI r (m-i) m i))),(0,some (aT r))] 1 [0] 1):=(m7 (ik (by decide)) (Bt (by omega) (by omega) (by omega)) (by omega)).trans (by simp only[di]);refine ae ?_;refine ae (ac (e:=?e10) (s':=?s10) jr ?h10 ?q10)
  case h10=>simp(disch:=decide) only[hoc,hx,go_sem];all_goals rfl
  refine aO ?h11 ?q11
  case h11=>simp(disch:=decide) only[go_sem];all_goals rfl
  refine bp ?_;show bA _ _ _ _ _ _;refine ac (e:=?e12) (s':=?s12) jr ?h12 ?q12
  case h12=>simp(disch:=decide) only[hoc,q3,N9,hg,go_sem];all_goals rfl
  refine⟨_,?e13,?W13,rfl,?h13,?q13⟩
  case h13=>simp(disch:=decide) only[Tryz.results152,go_sem];all_goals rfl
  refine⟨rfl,?_⟩;rw[<-heq,<-IC him (by omega)];simp(disch:=decide) only[go_sem]
 have hx:((i:Int) !=(j:Int))=true:=by simp;omega
 refine ae ?_;refine ae (ac (e:=?e14) (s':=?s14) jr ?h14 ?q14)
 case h14=>simp(disch:=decide) only[hoc,hx,go_sem];all_goals rfl
 refine aZ ?h15 ?q15
 case h15=>simp(disch:=decide) only[go_sem];all_goals rfl
 refine aH ?_;refine aD ?_;by_cases hlt:j<i
 ·have hg:dr lN Ar [.slice (some ⟨0,0,none⟩) n cap,.int .i64 ((m-i:Nat):Int),.int .i64 (m:Int),.int .i64 (j:Int),bS] (wd [(0,some (aT r))] 1 [] 0)=some (.ret u0,wd [(0,some (aT (fI r (m-i) m j))),(0,some (aT r))] 1 [0] 1):=(m7 (ik (by decide)) (Bt (by omega) (by omega) (by omega)) (by omega)).trans (by simp only[di]);have q4:IntKind.i64.wrap ((i:Int)-(j:Int))=((i-j:Nat):Int):=by rw[wrap_i64 (by omega) (by omega)];omega
  refine ae (ac (e:=?e16) (s':=?s16) jr ?h16 ?q16)
  case h16=>simp(disch:=decide) only[hoc,go_sem];all_goals rfl
  refine aZ (by simp(disch:=first|decide|omega) only[go_sem]<;>with_reducible rfl) ?_;refine ae (ac (e:=?e18) (s':=?s18) jr ?h18 ?q18)
  case h18=>simp(disch:=decide) only[hoc,q3,N9,hg,go_sem];all_goals rfl
  refine ac (e:=?e19) (s':=?s19) jr ?h19 ?q19
  case h19=>simp(disch:=decide) only[hoc,q4,go_sem];all_goals rfl
  refine⟨⟨i-j,j,fI r (m-i) m j,by rw[fH,hr],by omega,by omega,by omega,by omega,by rw[IH him (by omega) hlt,heq]⟩,by simp only;omega,?_⟩;simp only;exact ak (by simp(disch:=decide) [ai,ab,aa,ag]) (by simp(disch:=decide) [ai,ab,aa,ag]) (by decide)
 have q4:IntKind.i64.wrap ((j:Int)-(i:Int))=((j-i:Nat):Int):=by rw[wrap_i64 (by omega) (by omega)];omega
 have q5:IntKind.i64.wrap (((m+j:Nat):Int)-(i:Int))=((m+j-i:Nat):Int):=by rw[wrap_i64 (by omega) (by omega)];omega
 have hg:dr lN Ar [.slice (some ⟨0,0,none⟩) n cap,.int .i64 ((m-i:Nat):Int),.int .i64 ((m+j-i:Nat):Int),.int .i64 (i:Int),bS] (wd [(0,some (aT r))] 1 [] 0)=some (.ret u0,wd [(0,some (aT (fI r (m-i) (m+j-i) i))),(0,some (aT r))] 1 [0] 1):=(m7 (ik (by decide)) (Bt (by omega) (by omega) (by omega)) (by omega)).trans (by simp only[di]);refine ae (ac (e:=?e20) (s':=?s20) jr ?h20 ?q20)
 case h20=>simp(disch:=decide) only[hoc,go_sem];all_goals rfl
 refine aO (by simp(disch:=first|decide|omega) only[go_sem]<;>with_reducible rfl) ?_;refine ae (ac jr (by simp(disch:=first|decide|omega) only[hoc,q3,q5,N9,hg,go_sem]<;>with_reducible rfl) ?_);refine ac (e:=?e23) (s':=?s23) jr ?h23 ?q23
 case h23=>simp(disch:=decide) only[hoc,q4,go_sem];all_goals rfl
 refine⟨⟨i,j-i,fI r (m-i) (m+j-i) i,by rw[fH,hr],by omega,by omega,by omega,by omega,by rw[If him (by omega) (by omega),heq]⟩,by simp only;omega,?_⟩;simp only;exact ak (by simp(disch:=decide) [ai,ab,aa,ag]) (by simp(disch:=decide) [ai,ab,aa,ag]) (by decide)
def Ew(a:Nat×Nat×Nat×Nat)(l:List bC):Option (Value×List bC):=if a.1<a.2.1/\a.2.1<a.2.2.1/\a.2.2.1<=l.length/\l.length<=fE then some (u0,cy l a.1 a.2.1 a.2.2.1)else none
theorem Hl:bD Tryz.prog 152 (dr lN Ew):=jS (enters_of (by kernel_rfl)) Hs iq (fun a b v b' h=>by
 unfold Ew at h;split at h
 ·cases h;exact aG 8 rfl
 ·cases h) (fun a l v b' h=>by
 unfold Ew at h;split at h
 ·rename_i hc;cases h;exact M9 l a.1 a.2.1 a.2.2.1 a.2.2.2 hc.1 hc.2.1 hc.2.2.1 hc.2.2.2
 cases h)
theorem S9{a m b cap:Nat}{l:List bC}(h1:a<m)(h2:m<b)(h3:b<=l.length)(h4:l.length<=fE):Ew (a,m,b,cap) l=some (u0,cy l a m b):=if_pos ⟨h1,h2,h3,h4⟩
structure sV(l:List aC)(a m b:Nat):Prop where
 am:a<m
 mb:m<b
 hb:b<=l.length
 hn:l.length<=fE
 s1:dP bi (eU l a m)
 s2:dP bi (eU l m b)
open Classical in
noncomputable def Dz(N:Nat)(x:Nat×Nat×Nat×Nat)(l:List aC):Option (Value×List aC):=if sV l x.1 x.2.1 x.2.2.1/\x.2.2.1-x.1<N then some (u0,bH bi l x.1 x.2.2.1)else none
theorem Iz{N a m b cap:Nat}{l:List aC}(h:sV l a m b)(hN:b-a<N):Dz N (a,m,b,cap) l=some (u0,bH bi l a b):=if_pos ⟨h,hN⟩
noncomputable def sY(N:Nat):List (FuncId×HF):=[(102,bu (cN uy fun p=>.int .i64 (dW (bi p.1) (bi p.2)))),(151,dr lB ED),(140,dr lB (Dz N))]
theorem M6{N:Nat}(ih:∀(l:List aC) (a m b cap:Nat),sV l a m b->b-a<N->aN Tryz.prog 140 (nr 0 (a,m,b,cap) l) (wd [(0,some (aS l))] 1 [] 0) fun e W'=>e=.ret u0/\W'.get 0=some (aS (bH bi l a b))) :
 bD Tryz.prog 140 (dr lB (Dz N)):=jS (enters_of (by kernel_rfl)) GS gL (fun a b v b' h=>by
 unfold Dz at h;split at h
 ·cases h;exact aG 8 rfl
 ·cases h) (fun a l v b' h=>by
 unfold Dz at h;split at h
 ·rename_i hc;cases h;exact ih l a.1 a.2.1 a.2.2.1 a.2.2.2 hc.1 hc.2
 cases h)
structure Zs(l:List aC)(a b:Nat) where
 i:Nat
 j:Nat
 h1:a+1<=i
 h2:i<=j
 h3:j<=b
 c1:i=a+1\/dh bi l (i-1)<dh bi l a
 c2:j=b\/dh bi l a<=dh bi l j
structure Zh(l:List aC)(a m:Nat) where
 i:Nat
 j:Nat
 h1:a<=i
 h2:i<=j
 h3:j<=m
 c1:i=a\/dh bi l (i-1)<=dh bi l m
 c2:j=m\/dh bi l m<dh bi l j
structure YW(l:List aC)(q lo hi:Nat) where
 s:Nat
 r:Nat
 h1:lo<=s
 h2:s<=r
 h3:r<=hi
 c1:s=lo\/dh bi l (s-1)<=dh bi l (q-s)
 c2:r=hi\/dh bi l (q-r-1)<dh bi l r
structure Zk(a i:Nat) where
 k:Nat
 h1:a<=k
 h2:k+1<=i
structure YU(i m:Nat) where
 k:Nat
 h1:i<=k
 h2:k<=m
theorem yW{l:List aC}{i j:Nat}(hi:i<l.length)(hj:j<l.length)(h:dh bi l i<dh bi l j):dW (bi l[i]) (bi l[j])<((0:Nat):Int):=by
 rw[<-tv,<-tv,dW,if_pos h];decide
theorem yG{l:List aC}{i j:Nat}(hi:i<l.length)(hj:j<l.length)(h:¬dh bi l i<dh bi l j):¬dW (bi l[i]) (bi l[j])<((0:Nat):Int):=by
 rw[<-tv,<-tv,dW,if_neg h];split<;>decide
theorem Yq{N:Nat}(ih:∀(l:List aC) (a m b cap:Nat),sV l a m b->b-a<N->aN Tryz.prog 140 (nr 0 (a,m,b,cap) l) (wd [(0,some (aS l))] 1 [] 0) fun e W'=>e=.ret u0/\W'.get 0=some (aS (bH bi l a b)))(l:List aC)(a m b cap:Nat)(hg:sV l a m b)(hm:m=a+1):aN Tryz.prog 140 (nr 0 (a,m,b,cap) l) (wd [(0,some (aS l))] 1 [] 0) fun e W'=>e=.ret u0/\W'.get 0=some (aS (bH bi l a b)):=by
 have hB:dv Tryz.prog (cE (sY N) []):=⟨mixed,bU (.cons _ _ _ xE (.cons _ _ _ G8 (.cons _ _ _ (M6 ih) .nil))) .nil⟩;obtain⟨n,hnl⟩:∃n,n=l.length:=⟨_,rfl⟩;obtain⟨am,mb,hb,hbig,s1,s2⟩:=hg;have hn:=hbig;unfold fE at hn;have hoc:bk bT=true:=rfl;show aN _ _ [.slice (some ⟨0,0,none⟩) l.length cap,.int .i64 (a:Int),.int .i64 (m:Int),.int .i64 (b:Int),bT] _ _;rw[<-hnl];refine be hB Tryz.func140 rfl (Nat.le_of_ble_eq_true rfl) ?_;simp only[aY.eq_1,aY.eq_2,bf,Tryz.ntmps140,reduceAdd];have q1:IntKind.i64.wrap ((m:Int)-(a:Int))=((m-a:Nat):Int):=by rw[wrap_i64 (by omega) (by omega)];omega
 have q2:IntKind.i64.wrap ((b:Int)-(m:Int))=((b-m:Nat):Int):=by rw[wrap_i64 (by omega) (by omega)];omega
 subst hm;have hx:(((a+1-a:Nat):Int)==((1:Nat):Int))=true:=by simp
 refine ae ?_;refine ae (ac (e:=?e1) (s':=?s1) hB ?h1 ?q1)
 case h1=>simp(disch:=decide) only[hoc,q1,hx,go_sem];all_goals rfl
 refine aZ ?h2 ?q2
 case h2=>simp(disch:=decide) only[go_sem];all_goals rfl
 refine ae (ac (e:=?e3) (s':=?s3) hB ?h3 ?q3)
 case h3=>simp(disch:=decide) only[hoc,go_sem];all_goals rfl
 refine ae (ac (e:=?e4) (s':=?s4) hB ?h4 ?q4)
 case h4=>simp(disch:=decide) only[hoc,go_sem];all_goals rfl
 refine ae ?_;refine aD ?_;refine aU (s':=⟨aI [(0,some (.slice (some ⟨0,0,none⟩) n cap)),(1,some (.int .i64 (a:Int))),(4,some bT),(10,some (.int .i64 ((a+1:Nat):Int))),(11,some (.int .i64 (b:Int)))],wd [(0,some (aS l))] 1 [] 0,[]⟩) (ak (by simp(disch:=decide) [ai,ab,aa,ag,bT]) (by simp(disch:=decide) [ai,ab,aa,ag,aS]) (by decide)) ?_;refine bw (α:=Zs l a b) (fun y=>⟨aI [(0,some (.slice (some ⟨0,0,none⟩) n cap)),(1,some (.int .i64 (a:Int))),(4,some bT),(10,some (.int .i64 (y.i:Int))),(11,some (.int .i64 (y.j:Int)))],wd [(0,some (aS l))] 1 [] 0,[]⟩) (fun y=>y.j-y.i) ?_ ⟨a+1,b,by omega,by omega,by omega,.inl rfl,.inl rfl⟩;intro ⟨i,j,h1,h2,h3,c1,c2⟩;simp only;by_cases hij:i<j
 ·obtain⟨h,hh⟩:∃h,h=(i+j)/2:=⟨_,rfl⟩;refine ae ?_;refine ae (ac (e:=?e5) (s':=?s5) hB ?h5 ?q5)
  case h5=>simp(disch:=decide) only[hoc,go_sem];all_goals rfl
  refine aZ (by simp(disch:=first|decide|omega) only[go_sem]<;>with_reducible rfl) ?_;refine aH ?_;refine aD ?_;refine ae (ac hB (by simp(disch:=first|decide|omega) only[hoc,go_sem]<;>with_reducible rfl) ?_);refine aU (s':=⟨aI [(0,some (.slice (some ⟨0,0,none⟩) n cap)),(1,some (.int .i64 (a:Int))),(4,some bT),(10,some (.int .i64 (i:Int))),(11,some (.int .i64 (j:Int))),(12,some (.int .i64 (h:Int)))],wd [(0,some (aS l))] 1 [] 0,[]⟩) (by rw[hh];exact ak (by simp(disch:=decide) [ai,ab,aa,ag,bT]) (by simp(disch:=decide) [ai,ab,aa,ag,aS]) (by decide)) ?_;by_cases hc:dh bi l h<dh bi l a
  ·have hk:=yW (by omega) (by omega) hc;refine bl hB ⟨aI [(0,some (.slice (some ⟨0,0,none⟩) n cap)),(1,some (.int .i64 (a:Int))),(4,some bT),(10,some (.int .i64 (i:Int))),(11,some (.int .i64 (j:Int))),(12,some (.int .i64 (h:Int))),(50,some (.bool true))],wd [(0,some (aS l))] 1 [] 0,[]⟩ ?hda ?qda
   case hda=>
    refine⟨?rsa,?sxa,?hxa,?kxa,?lxa⟩
    case hxa=>simp(disch:=first|decide|omega) only[aE.eq_1,aE.eq_2,cm.eq_1,bd.eq_1,bd.eq_2,hoc,aS,mf,nK,sY,bT,zz,hk,go_sem]<;>with_reducible rfl
    case kxa=>kernel_rfl
    case lxa=>exact ak (by simp(disch:=decide) [ai,ab,aa,ag,bT]) (by simp(disch:=decide) [ai,ab,aa,ag,aS]) (by decide)
   refine aZ ?h8 ?q8
   case h8=>simp(disch:=decide) only[go_sem];all_goals rfl
   refine ac hB (by simp(disch:=first|decide|omega) only[hoc,go_sem]<;>with_reducible rfl) ?_;refine⟨⟨h+1,j,by omega,by omega,by omega,.inr (by rw[aaA];exact hc),c2⟩,by simp only;omega,?_⟩;exact ak (by simp(disch:=decide) [ai,ab,aa,ag,bT]) (by simp(disch:=decide) [ai,ab,aa,ag,aS]) (by decide)
  have hk:=yG (by omega) (by omega) hc;refine bl hB ⟨aI [(0,some (.slice (some ⟨0,0,none⟩) n cap)),(1,some (.int .i64 (a:Int))),(4,some bT),(10,some (.int .i64 (i:Int))),(11,some (.int .i64 (j:Int))),(12,some (.int .i64 (h:Int))),(50,some (.bool false))],wd [(0,some (aS l))] 1 [] 0,[]⟩ ?hdb ?qdb
  case hdb=>
   refine⟨?rsb,?sxb,?hxb,?kxb,?lxb⟩
   case hxb=>simp(disch:=first|decide|omega) only[aE.eq_1,aE.eq_2,cm.eq_1,bd.eq_1,bd.eq_2,hoc,aS,mf,nK,sY,bT,zz,hk,go_sem]<;>with_reducible rfl
   case kxb=>kernel_rfl
   case lxb=>exact ak (by simp(disch:=decide) [ai,ab,aa,ag,bT]) (by simp(disch:=decide) [ai,ab,aa,ag,aS]) (by decide)
  refine aO ?h10 ?q10
  case h10=>simp(disch:=decide) only[go_sem];all_goals rfl
  refine ac (e:=?e11) (s':=?s11) hB ?h11 ?q11
  case h11=>simp(disch:=decide) only[hoc,go_sem];all_goals rfl
  refine⟨⟨i,h,by omega,by omega,by omega,c1,.inr (by omega)⟩,by simp only;omega,?_⟩;exact ak (by simp(disch:=decide) [ai,ab,aa,ag,bT]) (by simp(disch:=decide) [ai,ab,aa,ag,aS]) (by decide)
 have e:i=j:=by omega
 subst e;refine ae ?_;refine ae (ac (e:=?e12) (s':=?s12) hB ?h12 ?q12)
 case h12=>simp(disch:=decide) only[hoc,go_sem];all_goals rfl
 refine aO (by simp(disch:=first|decide|omega) only[go_sem]<;>with_reducible rfl) ?_;refine bp ?_;show bA _ _ _ _ _ _;refine ae ?_;refine ae (ac (e:=?e14) (s':=?s14) hB ?h14 ?q14)
 case h14=>simp(disch:=decide) only[hoc,go_sem];all_goals rfl
 refine aD ?_;have q3:IntKind.i64.wrap ((i:Int)-((1:Nat):Int))=((i-1:Nat):Int):=by rw[wrap_i64 (by omega) (by omega)];omega
 refine aU (s':=⟨aI [(0,some (.slice (some ⟨0,0,none⟩) n cap)),(1,some (.int .i64 (a:Int))),(4,some bT),(10,some (.int .i64 (i:Int))),(13,some (.int .i64 (a:Int)))],wd [(0,some (aS (cy l a (a+1) (a+1))))] 1 [] 0,[]⟩) (by rw[pA (by omega) (by omega)];exact ak (by simp(disch:=decide) [ai,ab,aa,ag,bT]) (by simp(disch:=decide) [ai,ab,aa,ag,aS]) (by decide)) ?_;refine bw (α:=Zk a i) (fun y=>⟨aI [(0,some (.slice (some ⟨0,0,none⟩) n cap)),(1,some (.int .i64 (a:Int))),(4,some bT),(10,some (.int .i64 (i:Int))),(13,some (.int .i64 (y.k:Int)))],wd [(0,some (aS (cy l a (a+1) (y.k+1))))] 1 [] 0,[]⟩) (fun y=>i-y.k) ?_ ⟨a,by omega,by omega⟩;intro ⟨k,k1,k2⟩;simp only;by_cases hgo:k<i-1
 ·have hR:(cy l a (a+1) (k+1)).length=n:=by rw[gj (by omega) (by omega) (by omega),hnl]
  have hup:eS (cy l a (a+1) (k+1)) k (k+1)=cy l a (a+1) (k+2):=H3 k1 (by omega);obtain⟨R,hRe⟩:∃R,R=cy l a (a+1) (k+1):=⟨_,rfl⟩;rw[<-hRe]at hR hup ⊢;have hset:(R.set k (R[k+1]'(by omega))).length=n:=by rw[aaT,hR]
  refine ae ?_;refine ae (ac (e:=?e15) (s':=?s15) hB ?h15 ?q15)
  case h15=>simp(disch:=decide) only[hoc,q3,go_sem];all_goals rfl
  refine aZ (by simp(disch:=first|decide|omega) only[go_sem]<;>with_reducible rfl) ?_;refine aH ?_;refine fU hB ⟨aI [(0,some (.slice (some ⟨0,0,none⟩) n cap)),(1,some (.int .i64 (a:Int))),(4,some bT),(10,some (.int .i64 (i:Int))),(13,some (.int .i64 (k:Int)))],wd [(0,some (aS (eS R k (k+1))))] 1 [] 0,[]⟩ ?hdc ?qdc
  case hdc=>
   refine⟨?rsc,?sxc,?hxc,?kxc,?lxc⟩
   case hxc=>simp(disch:=first|decide|omega) only[aE.eq_1,aE.eq_2,cm.eq_1,bd.eq_1,bd.eq_2,aS,mf,nK,G3,mW,NM,cD,gh,go_sem]<;>with_reducible rfl
   case kxc=>kernel_rfl
   case lxc=>exact ak (by simp(disch:=decide) [ai,ab,aa,ag]) (by rw[<-AY (by omega) (by omega)];simp(disch:=decide) [ai,ab,aa,ag,aS]) (by decide)
  refine ac hB (by simp(disch:=first|decide|omega) only[hoc,go_sem]<;>with_reducible rfl) ?_;refine⟨⟨k+1,by omega,by omega⟩,by simp only;omega,?_⟩;rw[hup];exact ak (by simp(disch:=decide) [ai,ab,aa,ag,bT]) (by simp(disch:=decide) [ai,ab,aa,ag,aS]) (by decide)
 have e:k+1=i:=by omega
 rw[e,Jg hb h1 h3 s2 c1 c2];refine ae ?_;refine ae (ac (e:=?e18) (s':=?s18) hB ?h18 ?q18)
 case h18=>simp(disch:=decide) only[hoc,q3,go_sem];all_goals rfl
 refine aO (by simp(disch:=first|decide|omega) only[go_sem]<;>with_reducible rfl) ?_;refine bp ?_;show bA _ _ _ _ _ _;refine bh ?_;refine⟨_,?e20,?W20,rfl,?h20,?q20⟩
 case h20=>simp(disch:=decide) only[Tryz.results140,go_sem];all_goals rfl
 refine⟨rfl,?_⟩;simp(disch:=decide) only[go_sem]
theorem X6{N:Nat}(ih:∀(l:List aC) (a m b cap:Nat),sV l a m b->b-a<N->aN Tryz.prog 140 (nr 0 (a,m,b,cap) l) (wd [(0,some (aS l))] 1 [] 0) fun e W'=>e=.ret u0/\W'.get 0=some (aS (bH bi l a b)))(l:List aC)(a m b cap:Nat)(hg:sV l a m b)(hm0:m≠a+1)(hm:b=m+1):aN Tryz.prog 140 (nr 0 (a,m,b,cap) l) (wd [(0,some (aS l))] 1 [] 0) fun e W'=>e=.ret u0/\W'.get 0=some (aS (bH bi l a b)):=by
 have hB:dv Tryz.prog (cE (sY N) []):=⟨mixed,bU (.cons _ _ _ xE (.cons _ _ _ G8 (.cons _ _ _ (M6 ih) .nil))) .nil⟩;obtain⟨n,hnl⟩:∃n,n=l.length:=⟨_,rfl⟩;obtain⟨am,mb,hb,hbig,s1,s2⟩:=hg;have hn:=hbig;unfold fE at hn;have hoc:bk bT=true:=rfl;show aN _ _ [.slice (some ⟨0,0,none⟩) l.length cap,.int .i64 (a:Int),.int .i64 (m:Int),.int .i64 (b:Int),bT] _ _;rw[<-hnl];refine be hB Tryz.func140 rfl (Nat.le_of_ble_eq_true rfl) ?_;simp only[aY.eq_1,aY.eq_2,bf,Tryz.ntmps140,reduceAdd];have q1:IntKind.i64.wrap ((m:Int)-(a:Int))=((m-a:Nat):Int):=by rw[wrap_i64 (by omega) (by omega)];omega
 have q2:IntKind.i64.wrap ((b:Int)-(m:Int))=((b-m:Nat):Int):=by rw[wrap_i64 (by omega) (by omega)];omega
 subst hm;have hx0:(((m-a:Nat):Int)==((1:Nat):Int))=false:=by simp;omega
 have hx:(((m+1-m:Nat):Int)==((1:Nat):Int))=true:=by simp
 refine ae ?_;refine ae (ac (e:=?e21) (s':=?s21) hB ?h21 ?q21)
 case h21=>simp(disch:=decide) only[hoc,q1,hx0,go_sem];all_goals rfl
 refine aO ?h22 ?q22
 case h22=>simp(disch:=decide) only[go_sem];all_goals rfl
 refine aH ?_;refine ae ?_;refine ae (ac (e:=?e23) (s':=?s23) hB ?h23 ?q23)
 case h23=>simp(disch:=decide) only[hoc,q2,hx,go_sem];all_goals rfl
 refine aZ ?h24 ?q24
 case h24=>simp(disch:=decide) only[go_sem];all_goals rfl
 refine ae (ac (e:=?e25) (s':=?s25) hB ?h25 ?q25)
 case h25=>simp(disch:=decide) only[hoc,go_sem];all_goals rfl
 refine ae (ac (e:=?e26) (s':=?s26) hB ?h26 ?q26)
 case h26=>simp(disch:=decide) only[hoc,go_sem];all_goals rfl
 refine ae ?_;refine aD ?_;refine aU (s':=⟨aI [(0,some (.slice (some ⟨0,0,none⟩) n cap)),(2,some (.int .i64 (m:Int))),(4,some bT),(14,some (.int .i64 (a:Int))),(15,some (.int .i64 (m:Int)))],wd [(0,some (aS l))] 1 [] 0,[]⟩) (ak (by simp(disch:=decide) [ai,ab,aa,ag,bT]) (by simp(disch:=decide) [ai,ab,aa,ag,aS]) (by decide)) ?_;refine bw (α:=Zh l a m) (fun y=>⟨aI [(0,some (.slice (some ⟨0,0,none⟩) n cap)),(2,some (.int .i64 (m:Int))),(4,some bT),(14,some (.int .i64 (y.i:Int))),(15,some (.int .i64 (y.j:Int)))],wd [(0,some (aS l))] 1 [] 0,[]⟩) (fun y=>y.j-y.i) ?_ ⟨a,m,by omega,by omega,by omega,.inl rfl,.inl rfl⟩;intro ⟨i,j,h1,h2,h3,c1,c2⟩;simp only;by_cases hij:i<j
 ·obtain⟨h,hh⟩:∃h,h=(i+j)/2:=⟨_,rfl⟩;refine ae ?_;refine ae (ac (e:=?e27) (s':=?s27) hB ?h27 ?q27)
  case h27=>simp(disch:=decide) only[hoc,go_sem];all_goals rfl
  refine aZ (by simp(disch:=first|decide|omega) only[go_sem]<;>with_reducible rfl) ?_;refine aH ?_;refine aD ?_;refine ae (ac hB (by simp(disch:=first|decide|omega) only[hoc,go_sem]<;>with_reducible rfl) ?_);refine aU (s':=⟨aI [(0,some (.slice (some ⟨0,0,none⟩) n cap)),(2,some (.int .i64 (m:Int))),(4,some bT),(14,some (.int .i64 (i:Int))),(15,some (.int .i64 (j:Int))),(16,some (.int .i64 (h:Int)))],wd [(0,some (aS l))] 1 [] 0,[]⟩) (by rw[hh];exact ak (by simp(disch:=decide) [ai,ab,aa,ag,bT]) (by simp(disch:=decide) [ai,ab,aa,ag,aS]) (by decide)) ?_;by_cases hc:dh bi l m<dh bi l h
  ·have hk:=yW (by omega) (by omega) hc;refine bl hB ⟨aI [(0,some (.slice (some ⟨0,0,none⟩) n cap)),(2,some (.int .i64 (m:Int))),(4,some bT),(14,some (.int .i64 (i:Int))),(15,some (.int .i64 (j:Int))),(16,some (.int .i64 (h:Int))),(103,some (.bool false))],wd [(0,some (aS l))] 1 [] 0,[]⟩ ?hda ?qda
   case hda=>
    refine⟨?rsa,?sxa,?hxa,?kxa,?lxa⟩
    case hxa=>simp(disch:=first|decide|omega) only[aE.eq_1,aE.eq_2,cm.eq_1,bd.eq_1,bd.eq_2,hoc,aS,mf,nK,sY,bT,zz,hk,go_sem]<;>with_reducible rfl
    case kxa=>kernel_rfl
    case lxa=>exact ak (by simp(disch:=decide) [ai,ab,aa,ag,bT]) (by simp(disch:=decide) [ai,ab,aa,ag,aS]) (by decide)
   refine aO ?h30 ?q30
   case h30=>simp(disch:=decide) only[go_sem];all_goals rfl
   refine ac hB (by simp(disch:=decide) only[hoc,go_sem]<;>with_reducible rfl) ?_;refine⟨⟨i,h,by omega,by omega,by omega,c1,.inr hc⟩,by simp only;omega,?_⟩;exact ak (by simp(disch:=decide) [ai,ab,aa,ag,bT]) (by simp(disch:=decide) [ai,ab,aa,ag,aS]) (by decide)
  have hk:=yG (by omega) (by omega) hc;refine bl hB ⟨aI [(0,some (.slice (some ⟨0,0,none⟩) n cap)),(2,some (.int .i64 (m:Int))),(4,some bT),(14,some (.int .i64 (i:Int))),(15,some (.int .i64 (j:Int))),(16,some (.int .i64 (h:Int))),(103,some (.bool true))],wd [(0,some (aS l))] 1 [] 0,[]⟩ ?hdb ?qdb
  case hdb=>
   refine⟨?rsb,?sxb,?hxb,?kxb,?lxb⟩
   case hxb=>simp(disch:=first|decide|omega) only[aE.eq_1,aE.eq_2,cm.eq_1,bd.eq_1,bd.eq_2,hoc,aS,mf,nK,sY,bT,zz,hk,go_sem]<;>with_reducible rfl
   case kxb=>kernel_rfl
   case lxb=>exact ak (by simp(disch:=decide) [ai,ab,aa,ag,bT]) (by simp(disch:=decide) [ai,ab,aa,ag,aS]) (by decide)
  refine aZ ?h32 ?q32
  case h32=>simp(disch:=decide) only[go_sem];all_goals rfl
  refine ac hB (by simp(disch:=first|decide|omega) only[hoc,go_sem]<;>with_reducible rfl) ?_;refine⟨⟨h+1,j,by omega,by omega,by omega,.inr (by rw[aaA];omega),c2⟩,by simp only;omega,?_⟩;exact ak (by simp(disch:=decide) [ai,ab,aa,ag,bT]) (by simp(disch:=decide) [ai,ab,aa,ag,aS]) (by decide)
 have e:i=j:=by omega
 subst e;refine ae ?_;refine ae (ac (e:=?e34) (s':=?s34) hB ?h34 ?q34)
 case h34=>simp(disch:=decide) only[hoc,go_sem];all_goals rfl
 refine aO (by simp(disch:=first|decide|omega) only[go_sem]<;>with_reducible rfl) ?_;refine bp ?_;show bA _ _ _ _ _ _;refine ae ?_;refine ae (ac (e:=?e36) (s':=?s36) hB ?h36 ?q36)
 case h36=>simp(disch:=decide) only[hoc,go_sem];all_goals rfl
 refine aD ?_;refine aU (s':=⟨aI [(0,some (.slice (some ⟨0,0,none⟩) n cap)),(2,some (.int .i64 (m:Int))),(4,some bT),(14,some (.int .i64 (i:Int))),(17,some (.int .i64 (m:Int)))],wd [(0,some (aS (cy l m m (m+1))))] 1 [] 0,[]⟩) (by rw[mL (by omega) (by omega)];exact ak (by simp(disch:=decide) [ai,ab,aa,ag,bT]) (by simp(disch:=decide) [ai,ab,aa,ag,aS]) (by decide)) ?_;refine bw (α:=YU i m) (fun y=>⟨aI [(0,some (.slice (some ⟨0,0,none⟩) n cap)),(2,some (.int .i64 (m:Int))),(4,some bT),(14,some (.int .i64 (i:Int))),(17,some (.int .i64 (y.k:Int)))],wd [(0,some (aS (cy l y.k m (m+1))))] 1 [] 0,[]⟩) (fun y=>y.k) ?_ ⟨m,by omega,by omega⟩;intro ⟨k,k1,k2⟩;simp only;by_cases hgo:i<k
 ·obtain⟨k,rfl⟩:∃k',k=k'+1:=⟨k-1,by omega⟩;have q3:IntKind.i64.wrap (((k+1:Nat):Int)-((1:Nat):Int))=((k:Nat):Int):=by rw[wrap_i64 (by omega) (by omega)];omega
  have hR:(cy l (k+1) m (m+1)).length=n:=by rw[gj (by omega) (by omega) (by omega),hnl]
  have hdn:eS (cy l (k+1) m (m+1)) (k+1) (k+1-1)=cy l (k+1-1) m (m+1):=rM (by omega) k2 (by omega);rw[aaA]at hdn;obtain⟨R,hRe⟩:∃R,R=cy l (k+1) m (m+1):=⟨_,rfl⟩;rw[<-hRe]at hR hdn ⊢;have hset:(R.set (k+1) (R[k]'(by omega))).length=n:=by rw[aaT,hR]
  refine ae ?_;refine ae (ac (e:=?e37) (s':=?s37) hB ?h37 ?q37)
  case h37=>simp(disch:=decide) only[hoc,go_sem];all_goals rfl
  refine aZ (by simp(disch:=first|decide|omega) only[go_sem]<;>with_reducible rfl) ?_;refine aH ?_;refine fU hB ⟨aI [(0,some (.slice (some ⟨0,0,none⟩) n cap)),(2,some (.int .i64 (m:Int))),(4,some bT),(14,some (.int .i64 (i:Int))),(17,some (.int .i64 ((k+1:Nat):Int)))],wd [(0,some (aS (eS R (k+1) k)))] 1 [] 0,[]⟩ ?hdc ?qdc
  case hdc=>
   refine⟨?rsc,?sxc,?hxc,?kxc,?lxc⟩
   case hxc=>simp(disch:=first|decide|omega) only[q3,aE.eq_1,aE.eq_2,cm.eq_1,bd.eq_1,bd.eq_2,aS,mf,nK,G3,mW,NM,cD,gh,go_sem]<;>with_reducible rfl
   case kxc=>kernel_rfl
   case lxc=>exact ak (by simp(disch:=decide) [ai,ab,aa,ag]) (by rw[<-AY (by omega) (by omega)];simp(disch:=decide) [ai,ab,aa,ag,aS]) (by decide)
  refine ac (e:=?e39) (s':=?s39) hB ?h39 ?q39
  case h39=>simp(disch:=decide) only[hoc,q3,go_sem];all_goals rfl
  refine⟨⟨k,by omega,by omega⟩,by simp only;omega,?_⟩;rw[hdn];exact ak (by simp(disch:=decide) [ai,ab,aa,ag,bT]) (by simp(disch:=decide) [ai,ab,aa,ag,aS]) (by decide)
 have e:k=i:=by omega
 rw[e,rJ hb h1 h3 s1 c1 c2];refine ae ?_;refine ae (ac (e:=?e40) (s':=?s40) hB ?h40 ?q40)
 case h40=>simp(disch:=decide) only[hoc,go_sem];all_goals rfl
 refine aO (by simp(disch:=first|decide|omega) only[go_sem]<;>with_reducible rfl) ?_;refine bp ?_;show bA _ _ _ _ _ _;refine bh ?_;refine⟨_,?e42,?W42,rfl,?h42,?q42⟩
 case h42=>simp(disch:=decide) only[Tryz.results140,go_sem];all_goals rfl
 refine⟨rfl,?_⟩;simp(disch:=decide) only[go_sem]
structure sL(l:List bC)(a m b:Nat):Prop where
 am:a<m
 mb:m<b
 hb:b<=l.length
 hn:l.length<=fE
 s1:dP bg (eU l a m)
 s2:dP bg (eU l m b)
open Classical in
noncomputable def CJ(N:Nat)(x:Nat×Nat×Nat×Nat)(l:List bC):Option (Value×List bC):=if sL l x.1 x.2.1 x.2.2.1/\x.2.2.1-x.1<N then some (u0,bH bg l x.1 x.2.2.1)else none
theorem Ks{N a m b cap:Nat}{l:List bC}(h:sL l a m b)(hN:b-a<N):CJ N (a,m,b,cap) l=some (u0,bH bg l a b):=if_pos ⟨h,hN⟩
noncomputable def sQ(N:Nat):List (FuncId×HF):=[(106,bu (cN tP fun p=>.int .i64 (dW (bg p.1) (bg p.2)))),(152,dr lN Ew),(142,dr lN (CJ N))]
theorem MV{N:Nat}(ih:∀(l:List bC) (a m b cap:Nat),sL l a m b->b-a<N->aN Tryz.prog 142 (ny 0 (a,m,b,cap) l) (wd [(0,some (aT l))] 1 [] 0) fun e W'=>e=.ret u0/\W'.get 0=some (aT (bH bg l a b))) :
 bD Tryz.prog 142 (dr lN (CJ N)):=jS (enters_of (by kernel_rfl)) Hs iq (fun a b v b' h=>by
 unfold CJ at h;split at h
 ·cases h;exact aG 8 rfl
 ·cases h) (fun a l v b' h=>by
 unfold CJ at h;split at h
 ·rename_i hc;cases h;exact ih l a.1 a.2.1 a.2.2.1 a.2.2.2 hc.1 hc.2
 cases h)
structure Zc(l:List bC)(a b:Nat) where
 i:Nat
 j:Nat
 h1:a+1<=i
 h2:i<=j
 h3:j<=b
 c1:i=a+1\/dh bg l (i-1)<dh bg l a
 c2:j=b\/dh bg l a<=dh bg l j
structure ZB(l:List bC)(a m:Nat) where
 i:Nat
 j:Nat
 h1:a<=i
 h2:i<=j
 h3:j<=m
 c1:i=a\/dh bg l (i-1)<=dh bg l m
 c2:j=m\/dh bg l m<dh bg l j
structure Zm(l:List bC)(q lo hi:Nat) where
 s:Nat
 r:Nat
 h1:lo<=s
 h2:s<=r
 h3:r<=hi
 c1:s=lo\/dh bg l (s-1)<=dh bg l (q-s)
 c2:r=hi\/dh bg l (q-r-1)<dh bg l r
structure Za(a i:Nat) where
 k:Nat
 h1:a<=k
 h2:k+1<=i
structure Y3(i m:Nat) where
 k:Nat
 h1:i<=k
 h2:k<=m
theorem yh{l:List bC}{i j:Nat}(hi:i<l.length)(hj:j<l.length)(h:dh bg l i<dh bg l j):dW (bg l[i]) (bg l[j])<((0:Nat):Int):=by
 rw[<-to,<-to,dW,if_pos h];decide
theorem x5{l:List bC}{i j:Nat}(hi:i<l.length)(hj:j<l.length)(h:¬dh bg l i<dh bg l j):¬dW (bg l[i]) (bg l[j])<((0:Nat):Int):=by
 rw[<-to,<-to,dW,if_neg h];split<;>decide
theorem YN{N:Nat}(ih:∀(l:List bC) (a m b cap:Nat),sL l a m b->b-a<N->aN Tryz.prog 142 (ny 0 (a,m,b,cap) l) (wd [(0,some (aT l))] 1 [] 0) fun e W'=>e=.ret u0/\W'.get 0=some (aT (bH bg l a b)))(l:List bC)(a m b cap:Nat)(hg:sL l a m b)(hm:m=a+1):aN Tryz.prog 142 (ny 0 (a,m,b,cap) l) (wd [(0,some (aT l))] 1 [] 0) fun e W'=>e=.ret u0/\W'.get 0=some (aT (bH bg l a b)):=by
 have hB:dv Tryz.prog (cE (sQ N) []):=⟨mixed,bU (.cons _ _ _ xH (.cons _ _ _ Hl (.cons _ _ _ (MV ih) .nil))) .nil⟩;obtain⟨n,hnl⟩:∃n,n=l.length:=⟨_,rfl⟩;obtain⟨am,mb,hb,hbig,s1,s2⟩:=hg;have hn:=hbig;unfold fE at hn;have hoc:bk bS=true:=rfl;show aN _ _ [.slice (some ⟨0,0,none⟩) l.length cap,.int .i64 (a:Int),.int .i64 (m:Int),.int .i64 (b:Int),bS] _ _;rw[<-hnl];refine be hB Tryz.func142 rfl (Nat.le_of_ble_eq_true rfl) ?_;simp only[aY.eq_1,aY.eq_2,bf,Tryz.ntmps142,reduceAdd];have q1:IntKind.i64.wrap ((m:Int)-(a:Int))=((m-a:Nat):Int):=by rw[wrap_i64 (by omega) (by omega)];omega
 have q2:IntKind.i64.wrap ((b:Int)-(m:Int))=((b-m:Nat):Int):=by rw[wrap_i64 (by omega) (by omega)];omega
 subst hm;have hx:(((a+1-a:Nat):Int)==((1:Nat):Int))=true:=by simp
 refine ae ?_;refine ae (ac (e:=?e1) (s':=?s1) hB ?h1 ?q1)
 case h1=>simp(disch:=decide) only[hoc,q1,hx,go_sem];all_goals rfl
 refine aZ ?h2 ?q2
 case h2=>simp(disch:=decide) only[go_sem];all_goals rfl
 refine ae (ac (e:=?e3) (s':=?s3) hB ?h3 ?q3)
 case h3=>simp(disch:=decide) only[hoc,go_sem];all_goals rfl
 refine ae (ac (e:=?e4) (s':=?s4) hB ?h4 ?q4)
 case h4=>simp(disch:=decide) only[hoc,go_sem];all_goals rfl
 refine ae ?_;refine aD ?_;refine aU (s':=⟨aI [(0,some (.slice (some ⟨0,0,none⟩) n cap)),(1,some (.int .i64 (a:Int))),(4,some bS),(10,some (.int .i64 ((a+1:Nat):Int))),(11,some (.int .i64 (b:Int)))],wd [(0,some (aT l))] 1 [] 0,[]⟩) (ak (by simp(disch:=decide) [ai,ab,aa,ag,bS]) (by simp(disch:=decide) [ai,ab,aa,ag,aT]) (by decide)) ?_;refine bw (α:=Zc l a b) (fun y=>⟨aI [(0,some (.slice (some ⟨0,0,none⟩) n cap)),(1,some (.int .i64 (a:Int))),(4,some bS),(10,some (.int .i64 (y.i:Int))),(11,some (.int .i64 (y.j:Int)))],wd [(0,some (aT l))] 1 [] 0,[]⟩) (fun y=>y.j-y.i) ?_ ⟨a+1,b,by omega,by omega,by omega,.inl rfl,.inl rfl⟩;intro ⟨i,j,h1,h2,h3,c1,c2⟩;simp only;by_cases hij:i<j
 ·obtain⟨h,hh⟩:∃h,h=(i+j)/2:=⟨_,rfl⟩;refine ae ?_;refine ae (ac (e:=?e5) (s':=?s5) hB ?h5 ?q5)
  case h5=>simp(disch:=decide) only[hoc,go_sem];all_goals rfl
  refine aZ (by simp(disch:=first|decide|omega) only[go_sem]<;>with_reducible rfl) ?_;refine aH ?_;refine aD ?_;refine ae (ac hB (by simp(disch:=first|decide|omega) only[hoc,go_sem]<;>with_reducible rfl) ?_);refine aU (s':=⟨aI [(0,some (.slice (some ⟨0,0,none⟩) n cap)),(1,some (.int .i64 (a:Int))),(4,some bS),(10,some (.int .i64 (i:Int))),(11,some (.int .i64 (j:Int))),(12,some (.int .i64 (h:Int)))],wd [(0,some (aT l))] 1 [] 0,[]⟩) (by rw[hh];exact ak (by simp(disch:=decide) [ai,ab,aa,ag,bS]) (by simp(disch:=decide) [ai,ab,aa,ag,aT]) (by decide)) ?_;by_cases hc:dh bg l h<dh bg l a
  ·have hk:=yh (by omega) (by omega) hc;refine bl hB ⟨aI [(0,some (.slice (some ⟨0,0,none⟩) n cap)),(1,some (.int .i64 (a:Int))),(4,some bS),(10,some (.int .i64 (i:Int))),(11,some (.int .i64 (j:Int))),(12,some (.int .i64 (h:Int))),(50,some (.bool true))],wd [(0,some (aT l))] 1 [] 0,[]⟩ ?hda ?qda
   case hda=>
    refine⟨?rsa,?sxa,?hxa,?kxa,?lxa⟩
    case hxa=>simp(disch:=first|decide|omega) only[aE.eq_1,aE.eq_2,cm.eq_1,bd.eq_1,bd.eq_2,hoc,aT,nJ,nA,sQ,bS,Ai,hk,go_sem]<;>with_reducible rfl
    case kxa=>kernel_rfl
    case lxa=>exact ak (by simp(disch:=decide) [ai,ab,aa,ag,bS]) (by simp(disch:=decide) [ai,ab,aa,ag,aT]) (by decide)
   refine aZ ?h8 ?q8
   case h8=>simp(disch:=decide) only[go_sem];all_goals rfl
   refine ac hB (by simp(disch:=first|decide|omega) only[hoc,go_sem]<;>with_reducible rfl) ?_;refine⟨⟨h+1,j,by omega,by omega,by omega,.inr (by rw[aaA];exact hc),c2⟩,by simp only;omega,?_⟩;exact ak (by simp(disch:=decide) [ai,ab,aa,ag,bS]) (by simp(disch:=decide) [ai,ab,aa,ag,aT]) (by decide)
  have hk:=x5 (by omega) (by omega) hc;refine bl hB ⟨aI [(0,some (.slice (some ⟨0,0,none⟩) n cap)),(1,some (.int .i64 (a:Int))),(4,some bS),(10,some (.int .i64 (i:Int))),(11,some (.int .i64 (j:Int))),(12,some (.int .i64 (h:Int))),(50,some (.bool false))],wd [(0,some (aT l))] 1 [] 0,[]⟩ ?hdb ?qdb
  case hdb=>
   refine⟨?rsb,?sxb,?hxb,?kxb,?lxb⟩
   case hxb=>simp(disch:=first|decide|omega) only[aE.eq_1,aE.eq_2,cm.eq_1,bd.eq_1,bd.eq_2,hoc,aT,nJ,nA,sQ,bS,Ai,hk,go_sem]<;>with_reducible rfl
   case kxb=>kernel_rfl
   case lxb=>exact ak (by simp(disch:=decide) [ai,ab,aa,ag,bS]) (by simp(disch:=decide) [ai,ab,aa,ag,aT]) (by decide)
  refine aO ?h10 ?q10
  case h10=>simp(disch:=decide) only[go_sem];all_goals rfl
  refine ac (e:=?e11) (s':=?s11) hB ?h11 ?q11
  case h11=>simp(disch:=decide) only[hoc,go_sem];all_goals rfl
  refine⟨⟨i,h,by omega,by omega,by omega,c1,.inr (by omega)⟩,by simp only;omega,?_⟩;exact ak (by simp(disch:=decide) [ai,ab,aa,ag,bS]) (by simp(disch:=decide) [ai,ab,aa,ag,aT]) (by decide)
 have e:i=j:=by omega
 subst e;refine ae ?_;refine ae (ac (e:=?e12) (s':=?s12) hB ?h12 ?q12)
 case h12=>simp(disch:=decide) only[hoc,go_sem];all_goals rfl
 refine aO (by simp(disch:=first|decide|omega) only[go_sem]<;>with_reducible rfl) ?_;refine bp ?_;show bA _ _ _ _ _ _;refine ae ?_;refine ae (ac (e:=?e14) (s':=?s14) hB ?h14 ?q14)
 case h14=>simp(disch:=decide) only[hoc,go_sem];all_goals rfl
 refine aD ?_;have q3:IntKind.i64.wrap ((i:Int)-((1:Nat):Int))=((i-1:Nat):Int):=by rw[wrap_i64 (by omega) (by omega)];omega
 refine aU (s':=⟨aI [(0,some (.slice (some ⟨0,0,none⟩) n cap)),(1,some (.int .i64 (a:Int))),(4,some bS),(10,some (.int .i64 (i:Int))),(13,some (.int .i64 (a:Int)))],wd [(0,some (aT (cy l a (a+1) (a+1))))] 1 [] 0,[]⟩) (by rw[pA (by omega) (by omega)];exact ak (by simp(disch:=decide) [ai,ab,aa,ag,bS]) (by simp(disch:=decide) [ai,ab,aa,ag,aT]) (by decide)) ?_;refine bw (α:=Za a i) (fun y=>⟨aI [(0,some (.slice (some ⟨0,0,none⟩) n cap)),(1,some (.int .i64 (a:Int))),(4,some bS),(10,some (.int .i64 (i:Int))),(13,some (.int .i64 (y.k:Int)))],wd [(0,some (aT (cy l a (a+1) (y.k+1))))] 1 [] 0,[]⟩) (fun y=>i-y.k) ?_ ⟨a,by omega,by omega⟩;intro ⟨k,k1,k2⟩;simp only;by_cases hgo:k<i-1
 ·have hR:(cy l a (a+1) (k+1)).length=n:=by rw[gj (by omega) (by omega) (by omega),hnl]
  have hup:eS (cy l a (a+1) (k+1)) k (k+1)=cy l a (a+1) (k+2):=H3 k1 (by omega);obtain⟨R,hRe⟩:∃R,R=cy l a (a+1) (k+1):=⟨_,rfl⟩;rw[<-hRe]at hR hup ⊢;have hset:(R.set k (R[k+1]'(by omega))).length=n:=by rw[aaT,hR]
  refine ae ?_;refine ae (ac (e:=?e15) (s':=?s15) hB ?h15 ?q15)
  case h15=>simp(disch:=decide) only[hoc,q3,go_sem];all_goals rfl
  refine aZ (by simp(disch:=first|decide|omega) only[go_sem]<;>with_reducible rfl) ?_;refine aH ?_;refine fU hB ⟨aI [(0,some (.slice (some ⟨0,0,none⟩) n cap)),(1,some (.int .i64 (a:Int))),(4,some bS),(10,some (.int .i64 (i:Int))),(13,some (.int .i64 (k:Int)))],wd [(0,some (aT (eS R k (k+1))))] 1 [] 0,[]⟩ ?hdc ?qdc
  case hdc=>
   refine⟨?rsc,?sxc,?hxc,?kxc,?lxc⟩
   case hxc=>simp(disch:=first|decide|omega) only[aE.eq_1,aE.eq_2,cm.eq_1,bd.eq_1,bd.eq_2,aT,nJ,nA,F8,mW,N4,cW,iD,go_sem]<;>with_reducible rfl
   case kxc=>kernel_rfl
   case lxc=>exact ak (by simp(disch:=decide) [ai,ab,aa,ag]) (by rw[<-AZ (by omega) (by omega)];simp(disch:=decide) [ai,ab,aa,ag,aT]) (by decide)
  refine ac hB (by simp(disch:=first|decide|omega) only[hoc,go_sem]<;>with_reducible rfl) ?_;refine⟨⟨k+1,by omega,by omega⟩,by simp only;omega,?_⟩;rw[hup];exact ak (by simp(disch:=decide) [ai,ab,aa,ag,bS]) (by simp(disch:=decide) [ai,ab,aa,ag,aT]) (by decide)
 have e:k+1=i:=by omega
 rw[e,Jg hb h1 h3 s2 c1 c2];refine ae ?_;refine ae (ac (e:=?e18) (s':=?s18) hB ?h18 ?q18)
 case h18=>simp(disch:=decide) only[hoc,q3,go_sem];all_goals rfl
 refine aO (by simp(disch:=first|decide|omega) only[go_sem]<;>with_reducible rfl) ?_;refine bp ?_;show bA _ _ _ _ _ _;refine bh ?_;refine⟨_,?e20,?W20,rfl,?h20,?q20⟩
 case h20=>simp(disch:=decide) only[Tryz.results142,go_sem];all_goals rfl
 refine⟨rfl,?_⟩;simp(disch:=decide) only[go_sem]
theorem Ys{N:Nat}(ih:∀(l:List bC) (a m b cap:Nat),sL l a m b->b-a<N->aN Tryz.prog 142 (ny 0 (a,m,b,cap) l) (wd [(0,some (aT l))] 1 [] 0) fun e W'=>e=.ret u0/\W'.get 0=some (aT (bH bg l a b)))(l:List bC)(a m b cap:Nat)(hg:sL l a m b)(hm0:m≠a+1)(hm:b=m+1):aN Tryz.prog 142 (ny 0 (a,m,b,cap) l) (wd [(0,some (aT l))] 1 [] 0) fun e W'=>e=.ret u0/\W'.get 0=some (aT (bH bg l a b)):=by
 have hB:dv Tryz.prog (cE (sQ N) []):=⟨mixed,bU (.cons _ _ _ xH (.cons _ _ _ Hl (.cons _ _ _ (MV ih) .nil))) .nil⟩;obtain⟨n,hnl⟩:∃n,n=l.length:=⟨_,rfl⟩;obtain⟨am,mb,hb,hbig,s1,s2⟩:=hg;have hn:=hbig;unfold fE at hn;have hoc:bk bS=true:=rfl;show aN _ _ [.slice (some ⟨0,0,none⟩) l.length cap,.int .i64 (a:Int),.int .i64 (m:Int),.int .i64 (b:Int),bS] _ _;rw[<-hnl];refine be hB Tryz.func142 rfl (Nat.le_of_ble_eq_true rfl) ?_;simp only[aY.eq_1,aY.eq_2,bf,Tryz.ntmps142,reduceAdd];have q1:IntKind.i64.wrap ((m:Int)-(a:Int))=((m-a:Nat):Int):=by rw[wrap_i64 (by omega) (by omega)];omega
 have q2:IntKind.i64.wrap ((b:Int)-(m:Int))=((b-m:Nat):Int):=by rw[wrap_i64 (by omega) (by omega)];omega
 subst hm;have hx0:(((m-a:Nat):Int)==((1:Nat):Int))=false:=by simp;omega
 have hx:(((m+1-m:Nat):Int)==((1:Nat):Int))=true:=by simp
 refine ae ?_;refine ae (ac (e:=?e21) (s':=?s21) hB ?h21 ?q21)
 case h21=>simp(disch:=decide) only[hoc,q1,hx0,go_sem];all_goals rfl
 refine aO ?h22 ?q22
 case h22=>simp(disch:=decide) only[go_sem];all_goals rfl
 refine aH ?_;refine ae ?_;refine ae (ac (e:=?e23) (s':=?s23) hB ?h23 ?q23)
 case h23=>simp(disch:=decide) only[hoc,q2,hx,go_sem];all_goals rfl
 refine aZ ?h24 ?q24
 case h24=>simp(disch:=decide) only[go_sem];all_goals rfl
 refine ae (ac (e:=?e25) (s':=?s25) hB ?h25 ?q25)
 case h25=>simp(disch:=decide) only[hoc,go_sem];all_goals rfl
 refine ae (ac (e:=?e26) (s':=?s26) hB ?h26 ?q26)
 case h26=>simp(disch:=decide) only[hoc,go_sem];all_goals rfl
 refine ae ?_;refine aD ?_;refine aU (s':=⟨aI [(0,some (.slice (some ⟨0,0,none⟩) n cap)),(2,some (.int .i64 (m:Int))),(4,some bS),(14,some (.int .i64 (a:Int))),(15,some (.int .i64 (m:Int)))],wd [(0,some (aT l))] 1 [] 0,[]⟩) (ak (by simp(disch:=decide) [ai,ab,aa,ag,bS]) (by simp(disch:=decide) [ai,ab,aa,ag,aT]) (by decide)) ?_;refine bw (α:=ZB l a m) (fun y=>⟨aI [(0,some (.slice (some ⟨0,0,none⟩) n cap)),(2,some (.int .i64 (m:Int))),(4,some bS),(14,some (.int .i64 (y.i:Int))),(15,some (.int .i64 (y.j:Int)))],wd [(0,some (aT l))] 1 [] 0,[]⟩) (fun y=>y.j-y.i) ?_ ⟨a,m,by omega,by omega,by omega,.inl rfl,.inl rfl⟩;intro ⟨i,j,h1,h2,h3,c1,c2⟩;simp only;by_cases hij:i<j
 ·obtain⟨h,hh⟩:∃h,h=(i+j)/2:=⟨_,rfl⟩;refine ae ?_;refine ae (ac (e:=?e27) (s':=?s27) hB ?h27 ?q27)
  case h27=>simp(disch:=decide) only[hoc,go_sem];all_goals rfl
  refine aZ (by simp(disch:=first|decide|omega) only[go_sem]<;>with_reducible rfl) ?_;refine aH ?_;refine aD ?_;refine ae (ac hB (by simp(disch:=first|decide|omega) only[hoc,go_sem]<;>with_reducible rfl) ?_);refine aU (s':=⟨aI [(0,some (.slice (some ⟨0,0,none⟩) n cap)),(2,some (.int .i64 (m:Int))),(4,some bS),(14,some (.int .i64 (i:Int))),(15,some (.int .i64 (j:Int))),(16,some (.int .i64 (h:Int)))],wd [(0,some (aT l))] 1 [] 0,[]⟩) (by rw[hh];exact ak (by simp(disch:=decide) [ai,ab,aa,ag,bS]) (by simp(disch:=decide) [ai,ab,aa,ag,aT]) (by decide)) ?_;by_cases hc:dh bg l m<dh bg l h
  ·have hk:=yh (by omega) (by omega) hc;refine bl hB ⟨aI [(0,some (.slice (some ⟨0,0,none⟩) n cap)),(2,some (.int .i64 (m:Int))),(4,some bS),(14,some (.int .i64 (i:Int))),(15,some (.int .i64 (j:Int))),(16,some (.int .i64 (h:Int))),(103,some (.bool false))],wd [(0,some (aT l))] 1 [] 0,[]⟩ ?hda ?qda
   case hda=>
    refine⟨?rsa,?sxa,?hxa,?kxa,?lxa⟩
    case hxa=>simp(disch:=first|decide|omega) only[aE.eq_1,aE.eq_2,cm.eq_1,bd.eq_1,bd.eq_2,hoc,aT,nJ,nA,sQ,bS,Ai,hk,go_sem]<;>with_reducible rfl
    case kxa=>kernel_rfl
    case lxa=>exact ak (by simp(disch:=decide) [ai,ab,aa,ag,bS]) (by simp(disch:=decide) [ai,ab,aa,ag,aT]) (by decide)
   refine aO ?h30 ?q30
   case h30=>simp(disch:=decide) only[go_sem];all_goals rfl
   refine ac hB (by simp(disch:=decide) only[hoc,go_sem]<;>with_reducible rfl) ?_;refine⟨⟨i,h,by omega,by omega,by omega,c1,.inr hc⟩,by simp only;omega,?_⟩;exact ak (by simp(disch:=decide) [ai,ab,aa,ag,bS]) (by simp(disch:=decide) [ai,ab,aa,ag,aT]) (by decide)
  have hk:=x5 (by omega) (by omega) hc;refine bl hB ⟨aI [(0,some (.slice (some ⟨0,0,none⟩) n cap)),(2,some (.int .i64 (m:Int))),(4,some bS),(14,some (.int .i64 (i:Int))),(15,some (.int .i64 (j:Int))),(16,some (.int .i64 (h:Int))),(103,some (.bool true))],wd [(0,some (aT l))] 1 [] 0,[]⟩ ?hdb ?qdb
  case hdb=>
   refine⟨?rsb,?sxb,?hxb,?kxb,?lxb⟩
   case hxb=>simp(disch:=first|decide|omega) only[aE.eq_1,aE.eq_2,cm.eq_1,bd.eq_1,bd.eq_2,hoc,aT,nJ,nA,sQ,bS,Ai,hk,go_sem]<;>with_reducible rfl
   case kxb=>kernel_rfl
   case lxb=>exact ak (by simp(disch:=decide) [ai,ab,aa,ag,bS]) (by simp(disch:=decide) [ai,ab,aa,ag,aT]) (by decide)
  refine aZ ?h32 ?q32
  case h32=>simp(disch:=decide) only[go_sem];all_goals rfl
  refine ac hB (by simp(disch:=first|decide|omega) only[hoc,go_sem]<;>with_reducible rfl) ?_;refine⟨⟨h+1,j,by omega,by omega,by omega,.inr (by rw[aaA];omega),c2⟩,by simp only;omega,?_⟩;exact ak (by simp(disch:=decide) [ai,ab,aa,ag,bS]) (by simp(disch:=decide) [ai,ab,aa,ag,aT]) (by decide)
 have e:i=j:=by omega
 subst e;refine ae ?_;refine ae (ac (e:=?e34) (s':=?s34) hB ?h34 ?q34)
 case h34=>simp(disch:=decide) only[hoc,go_sem];all_goals rfl
 refine aO (by simp(disch:=first|decide|omega) only[go_sem]<;>with_reducible rfl) ?_;refine bp ?_;show bA _ _ _ _ _ _;refine ae ?_;refine ae (ac (e:=?e36) (s':=?s36) hB ?h36 ?q36)
 case h36=>simp(disch:=decide) only[hoc,go_sem];all_goals rfl
 refine aD ?_;refine aU (s':=⟨aI [(0,some (.slice (some ⟨0,0,none⟩) n cap)),(2,some (.int .i64 (m:Int))),(4,some bS),(14,some (.int .i64 (i:Int))),(17,some (.int .i64 (m:Int)))],wd [(0,some (aT (cy l m m (m+1))))] 1 [] 0,[]⟩) (by rw[mL (by omega) (by omega)];exact ak (by simp(disch:=decide) [ai,ab,aa,ag,bS]) (by simp(disch:=decide) [ai,ab,aa,ag,aT]) (by decide)) ?_;refine bw (α:=Y3 i m) (fun y=>⟨aI [(0,some (.slice (some ⟨0,0,none⟩) n cap)),(2,some (.int .i64 (m:Int))),(4,some bS),(14,some (.int .i64 (i:Int))),(17,some (.int .i64 (y.k:Int)))],wd [(0,some (aT (cy l y.k m (m+1))))] 1 [] 0,[]⟩) (fun y=>y.k) ?_ ⟨m,by omega,by omega⟩;intro ⟨k,k1,k2⟩;simp only;by_cases hgo:i<k
 ·obtain⟨k,rfl⟩:∃k',k=k'+1:=⟨k-1,by omega⟩;have q3:IntKind.i64.wrap (((k+1:Nat):Int)-((1:Nat):Int))=((k:Nat):Int):=by rw[wrap_i64 (by omega) (by omega)];omega
  have hR:(cy l (k+1) m (m+1)).length=n:=by rw[gj (by omega) (by omega) (by omega),hnl]
  have hdn:eS (cy l (k+1) m (m+1)) (k+1) (k+1-1)=cy l (k+1-1) m (m+1):=rM (by omega) k2 (by omega);rw[aaA]at hdn;obtain⟨R,hRe⟩:∃R,R=cy l (k+1) m (m+1):=⟨_,rfl⟩;rw[<-hRe]at hR hdn ⊢;have hset:(R.set (k+1) (R[k]'(by omega))).length=n:=by rw[aaT,hR]
  refine ae ?_;refine ae (ac (e:=?e37) (s':=?s37) hB ?h37 ?q37)
  case h37=>simp(disch:=decide) only[hoc,go_sem];all_goals rfl
  refine aZ (by simp(disch:=first|decide|omega) only[go_sem]<;>with_reducible rfl) ?_;refine aH ?_;refine fU hB ⟨aI [(0,some (.slice (some ⟨0,0,none⟩) n cap)),(2,some (.int .i64 (m:Int))),(4,some bS),(14,some (.int .i64 (i:Int))),(17,some (.int .i64 ((k+1:Nat):Int)))],wd [(0,some (aT (eS R (k+1) k)))] 1 [] 0,[]⟩ ?hdc ?qdc
  case hdc=>
   refine⟨?rsc,?sxc,?hxc,?kxc,?lxc⟩
   case hxc=>simp(disch:=first|decide|omega) only[q3,aE.eq_1,aE.eq_2,cm.eq_1,bd.eq_1,bd.eq_2,aT,nJ,nA,F8,mW,N4,cW,iD,go_sem]<;>with_reducible rfl
   case kxc=>kernel_rfl
   case lxc=>exact ak (by simp(disch:=decide) [ai,ab,aa,ag]) (by rw[<-AZ (by omega) (by omega)];simp(disch:=decide) [ai,ab,aa,ag,aT]) (by decide)
  refine ac (e:=?e39) (s':=?s39) hB ?h39 ?q39
  case h39=>simp(disch:=decide) only[hoc,q3,go_sem];all_goals rfl
  refine⟨⟨k,by omega,by omega⟩,by simp only;omega,?_⟩;rw[hdn];exact ak (by simp(disch:=decide) [ai,ab,aa,ag,bS]) (by simp(disch:=decide) [ai,ab,aa,ag,aT]) (by decide)
 have e:k=i:=by omega
 rw[e,rJ hb h1 h3 s1 c1 c2];refine ae ?_;refine ae (ac (e:=?e40) (s':=?s40) hB ?h40 ?q40)
 case h40=>simp(disch:=decide) only[hoc,go_sem];all_goals rfl
 refine aO (by simp(disch:=first|decide|omega) only[go_sem]<;>with_reducible rfl) ?_;refine bp ?_;show bA _ _ _ _ _ _;refine bh ?_;refine⟨_,?e42,?W42,rfl,?h42,?q42⟩
 case h42=>simp(disch:=decide) only[Tryz.results142,go_sem];all_goals rfl
 refine⟨rfl,?_⟩;simp(disch:=decide) only[go_sem]
end Go.Proofs.YthlkgmdkabelpaaGreat.X
