/-
  Packed by program (tools/pack.py) out of the texts MM MN MO MQ MV MR0 MR MX. No condition.
-/
import Derived.Test.YthlkgmdkabelpaaGreatTI
set_option linter.all false
namespace Go.Proofs.YthlkgmdkabelpaaGreat.X
open Go Go.RowKit Go.Proofs.YthlkgmdkabelpaaGreat.St
def iO(s d B:Nat)(x:Nat):Option Nat:=if x=s then some d else if x=d then none else if x<B then some x else none
theorem nQ{s d B:Nat}:iO s d B s=some d:=if_pos rfl
theorem bF{s d B x:Nat}(h1:x≠s)(h2:x≠d)(h3:x<B):iO s d B x=some x:=by
 unfold iO;rw[if_neg h1,if_neg h2,if_pos h3]
theorem xG{P:Program}{k:Nat}{F F':List (Nat×Option Value)}{L L':List (Nat×Option ag)}{n n' nl:Nat}{lg:List Nat}{s d B:Nat}(hd:k<=d)(hdn:d<n')(hB:B<=n')(hk:k<=n')
 (hF:cY (aL (iO s d B)) F F') (hL:∀m o',lk L' m=some o'->m<n'->∃x o,iO s d B x=some m/\x<n/\x<16383/\lk L x=some o/\TO P (aL (iO s d B)) o o'):aX P k ⟨an F,wd L n lg nl,[]⟩ ⟨an F',wd L' n' [] 0,[]⟩:=by
 refine u7 (iO s d B) (fun m=>if m=d then some s else if m<B/\m≠s then some m else none) (fun x m h=>?_) (fun m x h=>?_) hk (fun t v' h=>?_) (fun m o' h=>?_) .nil
 ·unfold iO at h;split at h
  ·rename_i e;cases h;exact .inr ⟨hd,by rw[if_pos rfl,e]⟩
  rename_i e;split at h
  ·cases h
  rename_i e2;split at h
  ·rename_i e3;cases h;rcases Yz x k with q|q
   ·exact .inl ⟨q,rfl⟩
   exact .inr ⟨q,by rw[if_neg e2,if_pos ⟨e3,e⟩]⟩
  cases h
 ·show m<n';split at h
  ·rename_i e;rw[e];exact hdn
  split at h
  ·rename_i e;omega
  cases h
 ·obtain⟨h1,v,h2,h3⟩:=hF.mem t v' (bP (fH h));exact⟨v,by show(an F).get t=some v;rw[fg h1];exact h2,h3⟩
 obtain⟨g1,g2⟩:=cq h;obtain⟨x,o,h1,h2,h3,h4,h5⟩:=hL m o' g2 g1;exact⟨x,o,h1,by show(wd L n lg nl).get x=some o;rw[ae h2 h3];exact h4,h5⟩
section
variable {P:Program} {β:Type} [El β] {e:TypeId} {B:Nat}
def nK{β:Type}(B:Nat)(i:Nat)(l:List β):Value:=gs (B+i) aH l
def jf{β:Type}(B:Nat)(rs:List (Int×List β)):ag:=.map (aA (nK B) rs 0) rs.length
def eR(e:TypeId)(B:Nat):List (Int×List β)->Nat->List (Nat×Option ag)
 |[],_=>[]
 |x::l,i=>(B+i,some (ro e x.2))::eR e B l (i+1)
theorem fe:∀(l:List (Int×List β)) (j m:Nat),lk (eR e B l j) m=if B+j<=m then(l[m-(B+j)]?).map fun x=>ro e x.2 else none
 |[],j,m=>by
  unfold eR;rw[cR];split<;>simp
 |x::l,j,m=>by
  unfold eR;by_cases h:B+j=m
  ·rw[<-h,ab,if_pos (Nat.le_refl _),Nat.sub_self];rfl
  rw[aa h,fe l (j+1) m];by_cases h2:B+j<=m
  ·rw[if_pos h2,if_pos (by omega),show m-(B+j)=(m-(B+(j+1)))+1 by omega];rfl
  rw[if_neg h2,if_neg (by omega)]
theorem gb{α:Type}{R:List (Nat×Option α)}:∀{A:List (Nat×Option α)} {m:Nat},(∀p∈A,p.1≠m)->lk (A++R) m=lk R m
 |[],m,_=>rfl
 |(a,x)::A,m,h=>by
  rw[List.cons_append,aa (h (a,x) Yw),gb fun p hp=>h p (YH _ hp)]
theorem wh{α:Type}{R:List (Nat×Option α)}{m:Nat}{o:α}:∀(A:List (Nat×Option α)),lk (A++R) m=some o->lk R m=none->lk A m=some o\/False
 |[],h,hr=>by rw[List.nil_append,hr]at h;cases h
 |(a,x)::A,h,hr=>by
  rw[List.cons_append]at h;by_cases e:a=m
  ·subst e;rw[ab]at h ⊢;exact .inl h
  rw[aa e]at h ⊢;exact wh A h hr
def b8(k:Int)(x:β)(rs:List (Int×List β)):List (Int×List β):=bb k ((av k rs).getD []++[x]) rs
def i3(k:Int)(rs:List (Int×List β)):Nat:=match dg k rs 0 with
 |some (i,_)=>i
 |none=>rs.length
theorem RV(k:Int)(rs:List (Int×List β)):i3 k rs<=rs.length:=by
 unfold i3;split
 ·rename_i i b h;have:=eY h;omega
 exact Nat.le_refl _
def nP{γ:Type}(k:Int)(v:Value)(f:Nat->γ->Value)(l:List (Int×γ)):List MapEntry:=match dg k l 0 with
 |some (i,_)=>(aA f l 0).set i ⟨kV k,v,i⟩
 |none=>aA f l 0++[⟨kV k,v,l.length⟩]
theorem Mw{γ:Type}{T:TypeId}(hu:P.underlying T=some (.int .i64)){f:Nat->γ->Value}{k:Int}{l:List (Int×γ)}(b:γ){W:XW}{r:Nat}{v:Value} :
 lG P W r T (kV k) v (some (.map (aA f l 0) l.length))=some (.mod undef (W.put r (some (.map (nP k v f l) (bb k b l).length)))):=by
 show(bif fQ P T (kV k) false then pV W r (aA f l 0) l.length (kV k) v (fl P T (kV k) (aA f l 0))else none)=_;rw[sU hu,cond_true,tH hu];unfold nP;rw[jU];cases h:dg k l 0 with
 |none=>
  rw[gm.1 h];rfl
 |some x=>
  obtain⟨i,b0⟩:=x;have hs:=eY h;have hg:av k l=some b0:=by rw[<-ij k l 0,h];rfl
  show uC W r (aA f l 0) l.length i (kV k) v (aA f l 0)[i]?=_;rw[nG (by rw[<-Zn i];exact hs.2.2),Nat.zero_add];show(bif fj (kV k) (kV k)then some (XR.mod undef (W.put r (some (.map ((aA f l 0).set i ⟨kV k,v,i⟩) l.length))))else none)=_;rw[wc,cond_true,hg];rfl
theorem pI{T:RT}{f:Nat->List β->Value}:∀{l:List (Int×List β)} {j:Nat},(∀i x,j<=i->i<j+l.length->TV T (f i x) (f i x))->jO T (aA f l j) (aA f l j)
 |[],_,_=>.nil
 |x::l,j,h=>.cons _ _ _ _ (ju 1 rfl) (h j x.2 (Nat.le_refl _) (by rw[List.length_cons];omega)) rfl (pI fun i y h1 h2=>h i y (by omega) (by rw[List.length_cons];omega))
theorem BY{T:RT}{v v':Value}{k:Int}{c:Nat}(hv:TV T v v'):∀{l l':List MapEntry},jO T l l'->jO T (l++[⟨kV k,v,c⟩]) (l'++[⟨kV k,v',c⟩])
 |_,_,.nil=>.cons _ _ _ _ (ju 1 rfl) hv rfl .nil
 |_,_,.cons _ _ _ _ a b c d=>.cons _ _ _ _ a b c (BY hv d)
theorem En{T:RT}{f:Nat->List β->Value}{k:Int}{v:Value}{b:List β}:∀{l:List (Int×List β)} {j i:Nat} {b0:List β},dg k l j=some (i,b0)->TV T v (f i b)->(∀q x,j<=q->q<j+l.length->q≠i->TV T (f q x) (f q x)) ->
 jO T ((aA f l j).set (i-j) ⟨kV k,v,i⟩) (aA f (bb k b l) j)
 |[],_,_,_,h,_,_=>by cases h
 |x::l,j,i,b0,h,hv,hs=>by
  have hsp:=eY h;unfold dg at h;unfold bb;split at h
  ·rename_i hk;cases h;rw[if_pos hk,Nat.sub_self];exact .cons _ _ _ _ (ju 1 rfl) hv rfl (pI fun q y h1 h2=>hs q y (by omega) (by rw[List.length_cons];omega) (by omega))
  rename_i hk;rw[if_neg hk];have hs2:=eY h;rw[show i-j=(i-(j+1))+1 by omega];exact .cons _ _ _ _ (ju 1 rfl) (hs j x.2 (Nat.le_refl _) (by rw[List.length_cons];omega) (by omega)) rfl (En h hv fun q y h1 h2 h3=>hs q y (by omega) (by rw[List.length_cons];omega) h3)
theorem Ns{T:RT}{k:Int}{v:Value}{b:List β}{f:Nat->List β->Value}{rs:List (Int×List β)}(hv:TV T v (f (i3 k rs) b))(hs:∀q x,q<rs.length->q≠i3 k rs->TV T (f q x) (f q x)):jO T (nP k v f rs) (aA f (bb k b rs) 0):=by
 unfold nP;unfold i3 at hv hs;cases h:dg k rs 0 with
 |none=>
  rw[h]at hv hs;rw[iZ (gm.1 h)];have:=rW (f:=f) k b rs 0;rw[Nat.zero_add]at this;rw[<-this];have hs':∀q x,q<rs.length->q≠rs.length->TV T (f q x) (f q x):=hs;exact BY hv (pI fun i x h1 h2=>hs' i x (by omega) (by omega))
 |some x=>
  obtain⟨i,b0⟩:=x;rw[h]at hv hs;have:=En (T:=T) (f:=f) (b:=b) h hv fun q y h1 h2 h3=>hs q y (by omega) h3
  rw[Zn]at this;exact this
theorem Dp{k:Int}{rs:List (Int×List β)}{b:List β}(j:Nat):(bb k b rs)[j]?=if j=i3 k rs then some (k,b)else rs[j]?:=by
 unfold i3;cases h:dg k rs 0 with
 |none=>
  rw[iZ (gm.1 h)];show(rs++[(k,b)])[j]?=if j=rs.length then _ else _
  rw[List.getElem?_append];by_cases h1:j<rs.length
  ·rw[if_pos h1,if_neg (by omega)]
  rw[if_neg h1];by_cases h2:j=rs.length
  ·rw[if_pos h2,h2,Nat.sub_self];rfl
  rw[if_neg h2,YA (by simp;omega),YA (by omega)]
 |some x=>
  obtain⟨i,b0⟩:=x;have key:∀(l:List (Int×List β)) (q i:Nat) (b0:List β),dg k l q=some (i,b0)->∀j,(bb k b l)[j]?=if j+q=i then some (k,b)else l[j]?:=by
   intro l
   induction l with
   |nil=>intro q i b0 h;cases h
   |cons x l ih=>
    intro q i b0 h j;have hs:=eY h;unfold dg at h;unfold bb;split at h
    ·rename_i hk;cases h;rw[if_pos hk];cases j with
     |zero=>rw[if_pos (by omega)];rfl
     |succ j=>rw[if_neg (by omega)];rfl
    rename_i hk;have hs2:=eY h;rw[if_neg hk];cases j with
    |zero=>rw[if_neg (by omega)];rfl
    |succ j=>
     show(bb k b l)[j]?=if j+1+q=i then some (k,b)else l[j]?
     rw[ih (q+1) i b0 h j,show j+(q+1)=j+1+q by omega]
  have:=key rs 0 i b0 h j;rw[Nat.add_zero]at this;exact this
theorem sQ{k:Int}{rs:List (Int×List β)}{b:List β}:i3 k rs<(bb k b rs).length/\(bb k b rs).length<=rs.length+1/\rs.length<=(bb k b rs).length:=by
 have h1:=Dp (k:=k) (rs:=rs) (b:=b) (i3 k rs);rw[if_pos rfl]at h1;have:=(List.getElem?_eq_some_iff.1 h1).1;refine⟨this,?_,?_⟩<;>rw[jU]<;>split<;>omega
theorem FQ{k:Int}{v:Value}{f g:Nat->List β->Value}{rs:List (Int×List β)}(h:∀q x,q<rs.length->q≠i3 k rs->f q x=g q x):nP k v f rs=nP k v g rs:=by
 have key:∀(l:List (Int×List β)) (j:Nat),(∀q x,j<=q->q<j+l.length->f q x=g q x)->aA f l j=aA g l j:=by
  intro l
  induction l with
  |nil=>intro j _;rfl
  |cons a l ih=>
   intro j hq;unfold aA;rw[hq j a.2 (Nat.le_refl _) (by rw[List.length_cons];omega),ih (j+1) fun q x h1 h2=>hq q x (by omega) (by rw[List.length_cons];omega)]
 unfold nP;unfold i3 at h;cases hx:dg k rs 0 with
 |none=>
  rw[hx]at h;have h':∀q x,q<rs.length->q≠rs.length->f q x=g q x:=h;simp only;rw[key rs 0 fun q x h1 h2=>h' q x (by omega) (by omega)]
 |some y=>
  obtain⟨i,b0⟩:=y;rw[hx]at h;have h':∀q x,q<rs.length->q≠i->f q x=g q x:=h;simp only;refine Zb fun q=>?_
  rw[List.getElem?_set,List.getElem?_set,iE,iE];by_cases hq:i=q
  ·rw[if_pos hq,if_pos hq]
  rw[if_neg hq,if_neg hq];cases hr:rs[q]? with
  |none=>
   have:rs.length<=q:=List.getElem?_eq_none_iff.1 hr;rw[YA (by rw[iE];exact this),YA (by rw[iE];exact this)]
  |some z=>
   have hlt:=(List.getElem?_eq_some_iff.1 hr).1;obtain⟨a,b⟩:=z;rw[nG hr,nG hr,Nat.zero_add,h' q b hlt fun e=>hq e.symm]
def iL{β:Type}(B d i0:Nat)(i:Nat)(l:List β):Value:=if i=i0 then gs d aH l else nK B i l
theorem Kp{kk:Nat}{F F':List (Nat×Option Value)}{A L:List (Nat×Option ag)}{n nl d mp i0:Nat}{lg:List Nat}{rs:List (Int×List β)}(hk:kk<=B)(hmp:mp<B)(hi:i0<rs.length)(hd:d<B)(hdk:kk<=d)(hdm:d≠mp)(hn:n<16383)(hBn:B+rs.length<=n)
 (hF:cY (aL (iO (B+i0) d n)) F F')
 (hA:∀m o,lk A m=some o->(m<B\/B+rs.length<=m)/\m≠mp/\m≠d/\m<n/\lk L m=some o/\TO P (aL (iO (B+i0) d n)) o o) (hAB:∀p∈A,(p.1<B\/B+rs.length<=p.1)/\p.1≠mp/\p.1≠d)
 (hm:lk L mp=some (jf B rs)) (hrows:∀j,j<rs.length->lk L (B+j)=(rs[j]?).map fun x=>ro e x.2) :
 aX P kk ⟨an F,wd L n lg nl,[]⟩ ⟨an F',wd ((d,(rs[i0]?).map fun x=>ro e x.2)::(B+i0,none)::(A++((mp,some (.map (aA (iL B d i0) rs 0) rs.length))::eR e B rs 0))) n [] 0,[]⟩:=by
 refine xG hdk (by omega) (by omega) (by omega) hF fun m o' h hmn=>?_
 by_cases hmd:m=d
 ·subst hmd;rw[ab]at h;refine⟨B+i0,o',nQ,by omega,by omega,by rw[hrows i0 hi];exact h,?_⟩;obtain⟨x,_,hx⟩:=Option.map_eq_some_iff.1 h;rw[<-hx];exact bd aj (aF b7.h)
 rw[aa (fun e=>hmd e.symm)]at h;by_cases hm0:m=B+i0
 ·subst hm0;rw[ab]at h;cases h
 rw[aa (fun e=>hm0 e.symm)]at h;by_cases hmm:m=mp
 ·subst hmm;rw[gb fun p hp=>(hAB p hp).2.1,ab]at h;cases h;refine⟨m,_,bF (by omega) hmd (by omega),by omega,by omega,hm,iw ?_⟩;have key:∀(l:List (Int×List β)) (j:Nat),j+l.length<=rs.length->jO (aL (iO (B+i0) d n)) (aA (nK B) l j) (aA (iL B d i0) l j):=by
   intro l
   induction l with
   |nil=>intro j _;exact .nil
   |cons a l ih=>
    intro j hj;rw[List.length_cons]at hj;refine .cons _ _ _ _ (ju 1 rfl) ?_ rfl (ih (j+1) (by omega));show TV _ (nK B j a.2) (iL B d i0 j a.2);unfold iL;by_cases hji:j=i0
    ·rw[if_pos hji,hji];exact ca nQ
    rw[if_neg hji];exact ca (bF (by omega) (by omega) (by omega))
  exact key rs 0 (by omega)
 by_cases hmB:m<B\/B+rs.length<=m
 ·have hx:lk A m=some o':=by
   have hr:lk ((mp,some (ag.map (aA (iL B d i0) rs 0) rs.length))::eR e B rs 0) m=none:=by
    rw[aa (fun e=>hmm e.symm),fe];split
    ·rw[YA (by omega)];rfl
    rfl
   rcases wh A h hr with h|h
   ·exact h
   exact h.elim
  obtain⟨a1,a2,a3,a4,a5,a6⟩:=hA m o' hx;exact⟨m,o',bF (by omega) hmd (by omega),a4,by omega,a5,a6⟩
 rw[gb fun p hp=>by have:=(hAB p hp).1;omega,aa (fun e=>hmm e.symm),fe,if_pos (by omega)]at h;have hlt:m-(B+0)<rs.length:=by omega
 have:=hrows (m-(B+0)) hlt;rw[h,show B+(m-(B+0))=m by omega]at this;refine⟨m,o',bF hm0 hmd (by omega),by omega,by omega,this,?_⟩;obtain⟨x,_,hx⟩:=Option.map_eq_some_iff.1 h;rw[<-hx];exact bd aj (aF b7.h)
theorem PQ{kk:Nat}{F F':List (Nat×Option Value)}{A L:List (Nat×Option ag)}{n nl s mp:Nat}{lg:List Nat}{k:Int}{b:List β}{rs:List (Int×List β)}(hk:kk<=B)(hmp:mp<B)(hs:B+rs.length<=s)(hsn:s<n)(hn:n<16383)
 (hF:cY (aL (iO s (B+i3 k rs) (B+rs.length))) F F')
 (hA:∀m o,lk A m=some o->m<B/\m≠mp/\lk L m=some o/\TO P (aL (iO s (B+i3 k rs) (B+rs.length))) o o) (hAB:∀p∈A,p.1<B/\p.1≠mp)
 (hm:lk L mp=some (.map (nP k (gs s aH b) (nK B) rs) (bb k b rs).length)) (hsr:lk L s=some (ro e b)) (hrows:∀j,j<rs.length->j≠i3 k rs->lk L (B+j)=(rs[j]?).map fun x=>ro e x.2) :
 aX P kk ⟨an F,wd L n lg nl,[]⟩ ⟨an F',wd (A++((mp,some (jf B (bb k b rs)))::eR e B (bb k b rs) 0)) ((bb k b rs).length+B) [] 0,[]⟩:=by
 obtain⟨l1,l2,l3⟩:=sQ (k:=k) (rs:=rs) (b:=b);have hp:=RV k rs;refine xG (by omega) (by omega) (by omega) (by omega) hF fun m o' h hmn=>?_
 by_cases hmB:m<B
 ·by_cases hmm:m=mp
  ·subst hmm;rw[gb fun p hp=>(hAB p hp).2,ab]at h;cases h;refine⟨m,_,bF (by omega) (by omega) (by omega),by omega,by omega,hm,iw (Ns (ca nQ) fun q x h1 h2=>ca (bF (by omega) (by omega) (by omega)))⟩
  have hx:lk A m=some o':=by
   have hr:lk ((mp,some (jf B (bb k b rs)))::eR e B (bb k b rs) 0) m=none:=by rw[aa (fun e=>hmm e.symm),fe,if_neg (by omega)]
   rcases wh A h hr with h|h
   ·exact h
   exact h.elim
  obtain⟨a1,a2,a3,a4⟩:=hA m o' hx;exact⟨m,o',bF (by omega) (by omega) (by omega),by omega,by omega,a3,a4⟩
 rw[gb fun p hp=>by have:=(hAB p hp).1;omega,aa (by omega),fe,if_pos (by omega),Dp]at h;by_cases hj:m-(B+0)=i3 k rs
 ·rw[if_pos hj]at h;cases h;refine⟨s,_,by rw[nQ];congr 1;omega,hsn,by omega,hsr,bd aj (aF b7.h)⟩
 rw[if_neg hj]at h;have hlt:m-(B+0)<rs.length:=by
  rcases Yz (m-(B+0)) rs.length with q|q
  ·exact q
  rw[YA q]at h;cases h
 have:=hrows (m-(B+0)) hlt hj;rw[h,show B+(m-(B+0))=m by omega]at this;refine⟨m,o',bF (by omega) (by omega) (by omega),by omega,by omega,this,?_⟩;obtain⟨x,_,hx⟩:=Option.map_eq_some_iff.1 h;rw[<-hx];exact bd aj (aF b7.h)
end
theorem Dn{P:Program}{β:Type}[El β]{e:TypeId}{B kk:Nat}{F F':List (Nat×Option Value)}{A L:List (Nat×Option ag)}{n nl s d mp:Nat}{lg:List Nat}{rs:List (Int×List β)}(hk:kk<=B)(hmp:mp<B)(hs:B+rs.length<=s)(hd:d<B)(hdk:kk<=d)(hdm:d≠mp)(hn:n<16383)(hBn:B+rs.length<=n)
 (hF:cY (aL (iO s d (B+rs.length))) F F')
 (hA:∀m o,lk A m=some o->m<B/\m≠mp/\∃x,iO s d (B+rs.length) x=some m/\x<n/\lk L x=some o/\TO P (aL (iO s d (B+rs.length))) o o) (hAB:∀p∈A,p.1<B/\p.1≠mp)
 (hm:lk L mp=some (jf B rs)) (hrows:∀j,j<rs.length->lk L (B+j)=(rs[j]?).map fun x=>ro e x.2) :
 aX P kk ⟨an F,wd L n lg nl,[]⟩ ⟨an F',wd (A++((mp,some (jf B rs))::eR e B rs 0)) (rs.length+B) [] 0,[]⟩:=by
 refine xG hdk (by omega) (by omega) (by omega) hF fun m o' h hmn=>?_
 by_cases hmB:m<B
 ·by_cases hmm:m=mp
  ·subst hmm;rw[gb fun p hp=>(hAB p hp).2,ab]at h;cases h;exact⟨m,_,bF (by omega) (by omega) (by omega),by omega,by omega,hm,iw (pI fun q x h1 h2=>ca (bF (by omega) (by omega) (by omega)))⟩
  have hx:lk A m=some o':=by
   have hr:lk ((mp,some (jf B rs))::eR e B rs 0) m=none:=by rw[aa (fun e=>hmm e.symm),fe,if_neg (by omega)]
   rcases wh A h hr with h|h
   ·exact h
   exact h.elim
  obtain⟨a1,a2,x,a3,a4,a5,a6⟩:=hA m o' hx;exact⟨x,o',a3,a4,by omega,a5,a6⟩
 rw[gb fun p hp=>by have:=(hAB p hp).1;omega,aa (by omega),fe,if_pos (by omega)]at h;have hlt:m-(B+0)<rs.length:=by
  rcases Yz (m-(B+0)) rs.length with q|q
  ·exact q
  rw[YA q]at h;cases h
 have:=hrows (m-(B+0)) hlt;rw[h,show B+(m-(B+0))=m by omega]at this;refine⟨m,o',bF (by omega) (by omega) (by omega),by omega,by omega,this,?_⟩;obtain⟨x,_,hx⟩:=Option.map_eq_some_iff.1 h;rw[<-hx];exact bd aj (aF b7.h)
structure m8(n:Nat) where
 js:List Nat
 nd:js.Nodup
 lt:∀j∈js,j<n
theorem gp:∀{n:Nat} {l:List Nat},l.Nodup->(∀j∈l,j<n)->l.length<=n
 |0,[],_,_=>Nat.le_refl _
 |0,a::l,_,h=>absurd (h a Yw) (YI _)
 |n+1,l,h,hl=>by
  by_cases hn:n∈l
  ·have h1:=gp (n:=n) (l:=l.erase n) (h.erase n) fun j hj=>by
    have hjl:=List.mem_of_mem_erase hj;have h2:=hl j hjl;have:j≠n:=fun e=>by subst e;exact(List.Nodup.not_mem_erase h) hj
    omega
   rw[ZA hn]at h1;omega
  have:=gp (n:=n) (l:=l) h fun j hj=>by
   have h2:=hl j hj;have:j≠n:=fun e=>by subst e;exact hn hj
   omega
  omega
def EZ(n:Nat):m8 n:=⟨[],ZG,fun _ h=>by cases h⟩
def gF{n:Nat}(y:m8 n)(j:Nat)(h:j<n)(hj:j∉y.js):m8 n:=⟨y.js++[j],List.nodup_append.2 ⟨y.nd,List.nodup_cons.2 ⟨by simp,ZG⟩,fun a ha b hb=>by
 simp only[YD,Yy,or_false]at hb;subst hb;exact fun e=>hj (by rw[<-e];exact ha)⟩,fun i hi=>by
 rcases List.mem_append.1 hi with q|q
 ·exact y.lt i q
 simp only[YD,Yy,or_false]at q;subst q;exact h⟩
theorem uP{n:Nat}(y:m8 n){j:Nat}(h:j<n)(hj:j∉y.js):n-(gF y j h hj).js.length<n-y.js.length:=by
 have:=gp (gF y j h hj).nd (gF y j h hj).lt;have e:(gF y j h hj).js.length=y.js.length+1:=by show(y.js++[j]).length=_;simp
 omega
section
variable {γ:Type} {f:Nat->γ->Value}
theorem rR:∀{rs:List (Int×γ)} {i:Nat} {e:MapEntry},e∈aA f rs i->∃j x,rs[j]?=some x/\e=⟨kV x.1,f (i+j) x.2,i+j⟩
 |[],_,_,h=>by cases h
 |x::l,i,e,h=>by
  unfold aA at h;rcases List.mem_cons.1 h with rfl|h
  ·exact⟨0,x,rfl,rfl⟩
  obtain⟨j,y,h1,h2⟩:=rR h;exact⟨j+1,y,h1,by rw[h2,show i+1+j=i+(j+1) by omega]⟩
theorem mr:∀{rs:List (Int×γ)} {i j:Nat} {x:Int×γ},rs[j]?=some x->(aA f rs i).find? (fun e=>Nat.beq e.born (i+j))=some ⟨kV x.1,f (i+j) x.2,i+j⟩
 |[],_,_,_,h=>by simp at h
 |a::l,i,0,x,h=>by
  cases h;unfold aA;rw[List.find?_cons_of_pos (by exact YC i)];rfl
 |a::l,i,j+1,x,h=>by
  unfold aA;rw[List.find?_cons_of_neg (by
   show ¬Nat.beq i (i+(j+1))=true;intro e;have:=Yp e;omega),show i+(j+1)=i+1+j by omega]
  exact mr (by exact h)
section
variable {P:Program} {k N:Nat} {all:Array Oper} {o:Oper} {l:List Oper} {s:XS} {Q:XQ}
theorem A1{x:Operand}{r mp:Nat}{rs:List (Int×γ)}(y:m8 rs.length)(hg:o.guard=none)(hop:o.op=.next x false)(hx:ev s.fr x=some (.pointer (some ⟨r,0,none⟩)))(hr:s.W.get r=some (.iter mp rs.length y.js rs.length))(hm:s.W.get mp=some (.map (aA f rs 0) rs.length))
 (h0:(∀j,j<rs.length->j∈y.js)->∃fr',cO N s.fr o.dst (some (.tuple #[.bool false]))=some fr'/\gt P N k all l ⟨fr',s.W,s.ds⟩ Q)
 (h1:∀j kk b (hj:j<rs.length) (hn:j∉y.js),rs[j]?=some (kk,b)->∃fr',cO N s.fr o.dst (some (.tuple #[.bool true,kV kk,f j b]))=some fr'/\gt P N k all l ⟨fr',s.W.put r (some (.iter mp rs.length (gF y j hj hn).js rs.length)),s.ds⟩ Q):gt P N k all (o::l) s Q:=by
 refine zj hg hop hx hr hm ?_ (fun e he=>?_) (fun hz=>h0 fun j hj=>?_) (fun e he=>?_)
 ·cases rs with
  |nil=>
   show(_&&_&&_)=false;unfold aA;simp
  |cons a l=>
   have:((aA f (a::l) 0).all fun e=>Nat.ble (a::l).length e.born)=false:=by unfold aA;show(Nat.ble (a::l).length 0&&_)=false;rfl
   rw[this,Bool.and_false]
 ·obtain⟨j,x,h2,rfl⟩:=rR (List.mem_filter.1 he).1;have:=(List.getElem?_eq_some_iff.1 h2).1;show 0+j<rs.length;omega
 ·by_cases hjs:j∈y.js
  ·exact hjs
  exfalso;have hmem:(⟨kV rs[j].1,f (0+j) rs[j].2,0+j⟩:MapEntry)∈aA f rs 0:=List.mem_of_find?_eq_some (mr (i:=0) (Yl hj));have:(⟨kV rs[j].1,f (0+j) rs[j].2,0+j⟩:MapEntry)∈(aA f rs 0).filter (fO y.js):=List.mem_filter.2 ⟨hmem,by
   show(!(y.js.any fun n=>Nat.beq n (0+j)))=true;rw[Nat.zero_add,Y6,List.any_eq_false];intro n hn2 hb;exact hjs (by rw[<-Yp hb];exact hn2)⟩
  rw[hz]at this;cases this
 obtain⟨hmem,hnot⟩:=List.mem_filter.1 he;obtain⟨j,x,h2,rfl⟩:=rR hmem;have hj:=(List.getElem?_eq_some_iff.1 h2).1;have hjn:j∉y.js:=fun hjs=>by
  have hnot:(!(y.js.any fun n=>Nat.beq n (0+j)))=true:=hnot;rw[Nat.zero_add,Y6,List.any_eq_false]at hnot;exact hnot j hjs (YC j)
 obtain⟨kk,b⟩:=x;simp only[Nat.zero_add];exact h1 j kk b hj hjn h2
end
end
section
variable {P:Program} {β:Type} [El β] {e:TypeId} {B:Nat}
def o8(B t:Nat)(i:Nat)(l:List β):Value:=if i<t then sl l else nK B i l
theorem jC{kk:Nat}{F:List (Nat×Option Value)}{A:List (Nat×Option ag)}{n nl mp:Nat}{lg:List Nat}{rs:List (Int×List β)}(hmp:mp<B)(hn:n<16383)(hBn:B+rs.length<=n)(hcap:∀x∈rs,x.2.length<=aH)(hAB:∀p∈A,p.1<n/\p.1≠mp):∀(d t:Nat) (L:List (Nat×Option ag)),t+d=rs.length ->
 lk L mp=some (.map (aA (o8 B t) rs 0) rs.length)->(∀j,t<=j->j<rs.length->lk L (B+j)=(rs[j]?).map fun x=>ro e x.2)->(∀m o,lk A m=some o->(m<B\/B+rs.length<=m)/\lk L m=some o) ->
 aX P kk ⟨an F,wd L n lg nl,[]⟩ ⟨an F,wd (A++[(mp,some (.map (aA (fun _ l=>sl l) rs 0) rs.length))]) n lg nl,[]⟩
 |0,t,L,ht,hm,hr,hA=>by
  have key:∀(l:List (Int×List β)) (j:Nat),j+l.length<=t->aA (o8 B t) l j=aA (fun _ l=>sl l) l j:=by
   intro l
   induction l with
   |nil=>intro j _;rfl
   |cons a l ih=>
    intro j hj;rw[List.length_cons]at hj;unfold aA;rw[ih (j+1) (by omega)];unfold o8;rw[if_pos (by omega)]
  rw[key rs 0 (by omega)]at hm;refine lH (fun t v h=>h) (fun m o h=>?_) (Nat.le_refl _) rfl;obtain⟨g1,g2⟩:=cq h;show(wd L n lg nl).get m=some o;rw[ae g1 (by omega)];by_cases hmm:m=mp
  ·subst hmm;rw[gb fun p hp=>(hAB p hp).2,ab]at g2;rw[hm];exact g2
  rcases wh A g2 (by rw[aa (fun q=>hmm q.symm),cR])with q|q
  ·exact(hA m o q).2
  exact q.elim
 |d+1,t,L,ht,hm,hr,hA=>by
  have htl:t<rs.length:=by omega
  have hrow:=hr t (Nat.le_refl _) htl;rw[Yl htl]at hrow;have hrow:lk L (B+t)=some (.cells (rs[t].2.flatMap El.enc) e (0,0)):=hrow;obtain⟨c,hc⟩:∃c,c=rs[t].2.flatMap El.enc:=⟨_,rfl⟩;rw[<-hc]at hrow;have hcl:c.length=rs[t].2.length*El.m β:=by rw[hc];exact cM
  refine aX.trans (s2:=⟨an F,wd ((B+t,none)::(mp,some (.map (aA (o8 B (t+1)) rs 0) rs.length))::L) n lg nl,[]⟩) ?_ (jC hmp hn hBn hcap hAB d (t+1) _ (by omega) ?_ ?_ ?_)
  ·have key:∀m' o',lk ((B+t,none)::(mp,some (ag.map (aA (o8 B (t+1)) rs 0) rs.length))::L) m'=some o'->∃o,lk L m'=some o/\TO P (dq (B+t) c) o o':=fun m' o' h=>by
    by_cases e1:B+t=m'
    ·subst e1;rw[ab]at h;cases h
    rw[aa e1]at h;by_cases e2:mp=m'
    ·subst e2;rw[ab]at h;cases h;refine⟨_,hm,iw ?_⟩;have key2:∀(l:List (Int×List β)) (j:Nat),(∀q,q<l.length->rs[j+q]?=l[q]?)->jO (dq (B+t) c) (aA (o8 B t) l j) (aA (o8 B (t+1)) l j):=by
      intro l
      induction l with
      |nil=>intro j _;exact .nil
      |cons a l ih=>
       intro j hj;refine .cons _ _ _ _ gO ?_ rfl (ih (j+1) fun q hq=>by
        have:=hj (q+1) (by rw[List.length_cons];omega);rw[show j+1+q=j+(q+1) by omega,this];rfl)
       show TV _ (o8 B t j a.2) (o8 B (t+1) j a.2);unfold o8;by_cases h1:j<t
       ·rw[if_pos h1,if_pos (by omega)];exact gO
       rw[if_neg h1];by_cases h2:j=t
       ·subst h2;rw[if_pos (by omega)];have ha:=hj 0 (by rw[List.length_cons];omega);rw[Nat.add_zero,Yl htl]at ha;have ha:rs[j]=a:=Option.some.inj ha;rw[ha]at hc hcl;have:=oC (n:=B+j) (o:=0) (len:=a.2.length) (cap:=aH) (q:=c.length) (c:=c) (hcap a (by rw[<-ha];exact List.getElem_mem htl)) (fun h=>by rw[hcl,h,Y3]);rw[List.drop_zero,List.take_length,hc]at this;rw[hc];exact this
       rw[if_neg (by omega)];exact gO
     exact key2 rs 0 fun q _=>by rw[Nat.zero_add]
    rw[aa e2]at h;exact⟨o',h,sV⟩
   refine jT (B+t) (c:=c) (e:=e) (fr:=(0,0)) (by show(wd L n lg nl).get (B+t)=_;rw[ae (by omega) (by omega)];exact hrow) ?_ (Nat.le_refl _) (fun t v' h=>⟨v',h,gO⟩) (fun m' o' h=>?_) .nil
   ·show(wd ((B+t,none)::_) n lg nl).get (B+t)=none;rw[ae (by omega) (by omega),ab]
   obtain⟨h1,h2⟩:=cq h;obtain⟨o,h3,h4⟩:=key m' o' h2;exact⟨o,by show(wd L n lg nl).get m'=some o;rw[ae h1 (by omega)];exact h3,h4⟩
  ·rw[aa (by omega),ab]
  ·intro j h1 h2;rw[aa (by omega),aa (by omega)];exact hr j (by omega) h2
  intro m o h;obtain⟨a1,a2⟩:=hA m o h;refine⟨a1,?_⟩;rw[aa (by omega),aa (fun q=>?_)]
  ·exact a2
  subst q;have:lk A mp=none:=by
   have:=gb (R:=([]:List (Nat×Option ag))) (A:=A) (m:=mp) fun p hp=>(hAB p hp).2
   rw[List.append_nil]at this;rw[this,cR]
  rw[this]at h;cases h
end
abbrev gH:=List (Int×Int)
abbrev cP:=List (Int×List Int)
abbrev rV(met:List (Int×List Int)):ag:=.map (aA (fun _ l=>sl l) met 0) met.length
theorem Hq{P:Program}(met:List (Int×List Int)):gJ P (rV met):=fun T hT=>iw (jO.bare hT (mM (fun _ b=>(inferInstance:Br (sl b)).h) met 0))
abbrev gA:=List (Int×Unit)
abbrev Uo(S:gA):ag:=.map (aA (fun _ _=>.bool true) S 0) S.length
def gU(J:List (Int×List Int))(a:Int):List Int:=(av a J).getD []
inductive Dk(J:List (Int×List Int)):Int->Int->Prop
 |z {a:Int}:Dk J a a
 |s {a b c:Int}:b∈gU J a->Dk J b c->Dk J a c
theorem mi{P:Program}{k:Nat}{fr:XF}{W:XW}{L:List (Nat×Option ag)}{n' nl:Nat}{lg:List Nat}{ds:List b9}(hn:W.next<=n')(h:∀m o,lk L m=some o->W.get m=some o):aX P k ⟨fr,W,ds⟩ ⟨fr,wd L n' lg nl,ds⟩:=
 lH (fun t v e=>e) (fun m o e=>h m o (cq e).2) hn rfl
structure Ap(J:List (Int×List Int))(S:gA)(i:Int)(S':gA):Prop where
 nd:(S'.map (·.1)).Nodup
 mono:∀a,av a S≠none->av a S'≠none
 this:av i S'≠none
 path:∀a,av a S'≠none->av a S=none->Dk J i a
 clos:∀a,av a S'≠none->av a S=none->∀b∈gU J a,av b S'≠none
structure wX(J:List (Int×List Int))(S:gA)(i:Int)(k:Nat)(S':gA):Prop where
 nd:(S'.map (·.1)).Nodup
 mono:∀a,av a S≠none->av a S'≠none
 this:av i S'≠none
 path:∀a,av a S'≠none->av a S=none->Dk J i a
 clos:∀a,av a S'≠none->av a S=none->a≠i->∀b∈gU J a,av b S'≠none
 done:∀b∈(gU J i).take k,av b S'≠none
theorem Gd{γ:Type}{k:Int}{b:γ}{l:List (Int×γ)}(h:av k l=none)(hn:(l.map (·.1)).Nodup):((bb k b l).map (·.1)).Nodup:=by
 rw[iZ h,YW];refine List.nodup_append.2 ⟨hn,by simp,fun a ha c hc=>?_⟩;simp only[YM,Y9,YD,Yy,or_false]at hc;subst hc;intro e;subst e;have key:∀l:List (Int×γ),a∈l.map (·.1)->av a l≠none:=by
  intro l
  induction l with
  |nil=>intro h;cases h
  |cons x l ih=>
   intro h;unfold av;split
   ·simp
   rename_i hx;rcases List.mem_cons.1 h with h|h
   ·exact absurd h hx
   exact ih h
 exact key l ha h
theorem Sv{J:List (Int×List Int)}{S:gA}{i:Int}(h:av i S=none)(hn:(S.map (·.1)).Nodup):wX J S i 0 (bb i () S) where
 nd:=Gd h hn
 mono:=fun a ha=>by rw[j9];split<;>simp_all
 this:=by rw[j9,if_pos rfl];simp
 path:=fun a ha hs=>by
  rw[j9]at ha;split at ha
  ·rename_i e;subst e;exact .z
  exact absurd hs ha
 clos:=fun a ha hs hi=>by
  rw[j9,if_neg hi]at ha;exact absurd hs ha
 done:=fun b hb=>by simp at hb
theorem RH{J:List (Int×List Int)}{S S1 S2:gA}{i b:Int}{k:Nat}(h:wX J S i k S1)(hk:(gU J i)[k]?=some b)(h2:Ap J S1 b S2):wX J S i (k+1) S2 where
 nd:=h2.nd
 mono:=fun a ha=>h2.mono a (h.mono a ha)
 this:=h2.mono _ h.this
 path:=fun a ha hs=>by
  by_cases h1:av a S1=none
  ·exact .s (YO hk) (h2.path a ha h1)
  exact h.path a h1 hs
 clos:=fun a ha hs hi c hc=>by
  by_cases h1:av a S1=none
  ·exact h2.clos a ha h1 c hc
  exact h2.mono c (h.clos a h1 hs hi c hc)
 done:=fun c hc=>by
  rw[List.take_add_one,hk]at hc;rcases List.mem_append.1 hc with q|q
  ·exact h2.mono c (h.done c q)
  simp only[Option.toList_some,YD,Yy,or_false]at q;subst q;exact h2.this
theorem Li{J:List (Int×List Int)}{S S1:gA}{i:Int}{k:Nat}(h:wX J S i k S1)(hk:(gU J i).length<=k):Ap J S i S1 where
 nd:=h.nd
 mono:=h.mono
 this:=h.this
 path:=h.path
 clos:=fun a ha hs c hc=>by
  by_cases hi:a=i
  ·subst hi;exact h.done c (by rw[List.take_of_length_le hk];exact hc)
  exact h.clos a ha hs hi c hc
theorem N6{J:List (Int×List Int)}{S:gA}{i:Int}(h:av i S≠none)(hn:(S.map (·.1)).Nodup):Ap J S i S where
 nd:=hn
 mono:=fun a ha=>ha
 this:=h
 path:=fun a ha hs=>absurd hs ha
 clos:=fun a ha hs=>absurd hs ha
def left(U:List Int)(S:gA):Nat:=(U.filter fun a=>(av a S).isNone).length
theorem G6{U:List Int}{S S':gA}(h:∀a,av a S≠none->av a S'≠none):left U S'<=left U S:=by
 unfold left
 induction U with
 |nil=>exact Nat.le_refl _
 |cons a U ih=>
  rw[Zy,Zy];cases h1:av a S with
  |none=>simp only[Option.isNone_none,if_true];split<;>simp only[List.length_cons]<;>omega
  |some _=>
   have:=h a (by rw[h1];simp);cases h2:av a S' with
   |none=>exact absurd h2 this
   |some _=>simpa using ih
theorem Oe{U:List Int}{S S':gA}{i:Int}(hi:i∈U)(h0:av i S=none)(h1:av i S'≠none)(h:∀a,av a S≠none->av a S'≠none):left U S'<left U S:=by
 induction U with
 |nil=>cases hi
 |cons a U ih=>
  have hm:=G6 (U:=U) h;unfold left at *;rw[Zy,Zy];by_cases e:a=i
  ·subst e;rw[h0];cases h2:av a S' with
   |none=>exact absurd h2 h1
   |some _=>simp only[Option.isNone_none,if_true,Option.isNone_some,List.length_cons];simp;omega
  have hlt:=ih (by rcases List.mem_cons.1 hi with q|q;exact absurd q.symm e;exact q);cases h3:av a S with
  |none=>simp only[Option.isNone_none,if_true];split<;>simp only[List.length_cons]<;>omega
  |some _=>
   have:=h a (by rw[h3];simp);cases h2:av a S' with
   |none=>exact absurd h2 this
   |some _=>simpa using hlt
theorem eK{γ:Type}{k:Int}{b:γ}:∀{l:List (Int×γ)},av k l=some b->(k,b)∈l
 |[],h=>by cases h
 |x::l,h=>by
  unfold av at h;split at h
  ·rename_i e;cases h;rw[e];exact Yw
  exact YH _ (eK h)
theorem oa{γ:Type}{k:Int}{b:γ}{q:Int×γ}:∀{l:List (Int×γ)},q∈bb k b l->q=(k,b)\/q∈l
 |[],h=>by
  rcases List.mem_cons.1 h with h|h
  ·exact .inl h
  cases h
 |x::l,h=>by
  unfold bb at h;split at h
  ·rcases List.mem_cons.1 h with h|h
   ·exact .inl h
   exact .inr (YH _ h)
  rcases List.mem_cons.1 h with h|h
  ·exact .inr (by rw[h];exact Yw)
  rcases oa h with h|h
  ·exact .inl h
  exact .inr (YH _ h)
def vC(c:Nat)(m:cP):Prop:=m.length<=c/\∀p∈m,p.2.length<=c
theorem yi{c:Nat}{m:cP}{i k:Int}(h:vC c m):vC (c+1) (b8 k i m):=by
 obtain⟨h1,h2⟩:=h;refine⟨?_,fun p hp=>?_⟩
 ·unfold b8;rw[jU];split<;>omega
 unfold b8 at hp;rcases oa hp with rfl|hp
 ·simp only[Yh,List.length_cons,List.length_nil];cases hg:av k m with
  |none=>simp
  |some l=>
   have:=h2 _ (eK hg);simp only[Zd]at *;omega
 have:=h2 p hp;omega
def wy(j:cP)(l:List Int):cP:=match l with
 |[p,q]=>b8 q p (b8 p q j)
 |_=>j
def qq(met:cP)(js:List Nat):cP:=js.foldl (fun j t=>wy j ((met[t]?.map (·.2)).getD [])) []
def LX(met:cP)(a b:Int):Prop:=∃m∈met,m.2=[a,b]\/m.2=[b,a]
inductive tZ(met:cP):Int->Prop
 |z:tZ met 0
 |s {a b:Int}:tZ met a->LX met a b->tZ met b
theorem FS{met:cP}{js:List Nat}{j:Nat}{k:Int}{l:List Int}(h:met[j]?=some (k,l)):qq met (js++[j])=wy (qq met js) l:=by
 unfold qq;rw[List.foldl_append];simp only[List.foldl_cons,List.foldl_nil,h,YG,Zd]
theorem DU{k x a b:Int}{J:cP}:b∈gU (b8 k x J) a↔b∈gU J a\/(a=k/\b=x):=by
 unfold gU b8;rw[j9];by_cases h:a=k
 ·subst h;rw[if_pos rfl];cases av a J with
  |none=>simp
  |some l=>simp
 rw[if_neg h];simp[h]
theorem Gv{l:List Int}{a b:Int}{J:cP}:b∈gU (wy J l) a↔b∈gU J a\/(l=[a,b]\/l=[b,a]):=by
 unfold wy;split
 ·rename_i p q;rw[DU,DU];simp only[List.cons.injEq,and_true];constructor
  ·rintro ((h|⟨rfl,rfl⟩)|⟨rfl,rfl⟩)
   ·exact .inl h
   ·exact .inr (.inl ⟨rfl,rfl⟩)
   exact .inr (.inr ⟨rfl,rfl⟩)
  rintro (h|⟨rfl,rfl⟩|⟨rfl,rfl⟩)
  ·exact .inl (.inl h)
  ·exact .inl (.inr ⟨rfl,rfl⟩)
  exact .inr ⟨rfl,rfl⟩
 rename_i h;constructor
 ·exact .inl
 rintro (h1|rfl|rfl)
 ·exact h1
 ·exact absurd rfl (h _ _)
 exact absurd rfl (h _ _)
theorem zX{met:cP}{a b:Int}:∀(js:List Nat) (J:cP),b∈gU (js.foldl (fun j t=>wy j ((met[t]?.map (·.2)).getD [])) J) a↔b∈gU J a\/∃t∈js,(met[t]?.map (·.2)).getD []=[a,b]\/(met[t]?.map (·.2)).getD []=[b,a]
 |[],J=>by simp
 |t::js,J=>by
  rw[List.foldl_cons,zX js,Gv];constructor
  ·rintro ((h|h)|⟨u,h1,h2⟩)
   ·exact .inl h
   ·exact .inr ⟨t,Yw,h⟩
   exact .inr ⟨u,YH _ h1,h2⟩
  rintro (h|⟨u,h1,h2⟩)
  ·exact .inl (.inl h)
  rcases List.mem_cons.1 h1 with rfl|h1
  ·exact .inl (.inr h2)
  exact .inr ⟨u,h1,h2⟩
theorem Ok{met:cP}{js:List Nat}{a b:Int}(hall:∀j,j<met.length->j∈js):b∈gU (qq met js) a↔LX met a b:=by
 unfold qq;rw[zX];constructor
 ·rintro (h|⟨t,h1,h2⟩)
  ·cases h
  cases hm:met[t]? with
  |none=>rw[hm]at h2;simp at h2
  |some m=>
   rw[hm]at h2;exact⟨m,YO hm,h2⟩
 rintro ⟨m,hm,h⟩;obtain⟨t,ht,he⟩:=YL hm;refine .inr ⟨t,hall t ht,?_⟩;rw[Yl ht,he];exact h
theorem ol{γ:Type}{a:Int}:∀{l:List (Int×γ)},av a l≠none↔a∈l.map (·.1)
 |[]=>by unfold av;simp
 |x::l=>by
  unfold av;rw[YM,YD];split
  ·rename_i h;simp[h]
  rename_i h;rw[ol];simp[h]
theorem O4{met:cP}{J:cP}{S:gA}(hJ:∀a b,b∈gU J a↔LX met a b)(h:Ap J [] 0 S)(a:Int):a∈S.map (·.1)↔tZ met a:=by
 rw[<-ol];have gn:∀b:Int,av b ([]:gA)=none:=fun b=>rfl
 constructor
 ·intro ha;have key:∀{b c:Int},Dk J b c->tZ met b->tZ met c:=by
   intro b c hp
   induction hp with
   |z=>exact id
   |s h1 _ ih=>exact fun hb=>ih (.s hb ((hJ _ _).1 h1))
  exact key (h.path a ha (gn a)) .z
 intro hr
 induction hr with
 |z=>exact h.this
 |s h1 h2 ih=>exact h.clos _ ih (gn _) _ ((hJ _ _).2 h2)
section
variable {γ:Type} {k:Int} {b:γ}
theorem j5:∀{rs:List (Int×γ)} (j:Nat),(bb k b rs)[j]?=if j=du k (rs.map (·.1))then some (k,b)else rs[j]?
 |[],0=>rfl
 |[],j+1=>rfl
 |x::l,j=>by
  unfold bb;rw[YM,du];by_cases h:k=x.1
  ·rw[if_pos h,show(if x.1≠k then du k (l.map (·.1))+1 else 0)=0 from if_neg (fun q=>q h.symm)];cases j with
   |zero=>rfl
   |succ j=>rw[if_neg (by omega)];rfl
  rw[if_neg h,show(if x.1≠k then du k (l.map (·.1))+1 else 0)=du k (l.map (·.1))+1 from if_pos (fun q=>h q.symm)];cases j with
  |zero=>rw[if_neg (by omega)];rfl
  |succ j=>
   rw[List.getElem?_cons_succ,List.getElem?_cons_succ,j5 j];by_cases e:j=du k (l.map (·.1))
   ·rw[if_pos e,if_pos (by omega)]
   rw[if_neg e,if_neg (by omega)]
theorem qh:∀{rs:List (Int×γ)},av k rs=(rs[du k (rs.map (·.1))]?).map (·.2)
 |[]=>rfl
 |x::l=>by
  unfold av;rw[YM,du];by_cases h:k=x.1
  ·rw[if_pos h,if_neg (fun q=>q h.symm)];rfl
  rw[if_neg h,if_pos (fun q=>h q.symm),List.getElem?_cons_succ];exact qh
theorem kD:∀{rs:List (Int×γ)},(bb k b rs).map (·.1)=if du k (rs.map (·.1))=rs.length then rs.map (·.1)++[k]else rs.map (·.1)
 |[]=>rfl
 |x::l=>by
  unfold bb;rw[YM,du];have hl:=pD k (l.map (·.1));rw[Yv]at hl;by_cases h:k=x.1
  ·rw[if_pos h,show(if x.1≠k then du k (l.map (·.1))+1 else 0)=0 from if_neg (fun q=>q h.symm),if_neg (by rw[List.length_cons];omega),YM,h]
  rw[if_neg h,show(if x.1≠k then du k (l.map (·.1))+1 else 0)=du k (l.map (·.1))+1 from if_pos (fun q=>h q.symm),YM,kD];by_cases e:du k (l.map (·.1))=l.length
  ·rw[if_pos e,if_pos (by rw[List.length_cons,e])];rfl
  rw[if_neg e,if_neg (by rw[List.length_cons];omega)]
end
def aS(sg:Int)(s:gH)(r:Sd):gH:=bb r.1 ((av r.1 s).getD 0+sg*r.2) s
def oo(i:Nat)(sg:Int)(ys:List Sd)(p:gH×cP):Nat->gH×cP
 |0=>p
 |j+1=>(aS sg (oo i sg ys p j).1 (ys.getD j default),b8 (ys.getD j default).1 (i:Int) (oo i sg ys p j).2)
def ie(u:List Ce)(x:Ce):Nat->gH×cP
 |0=>([],[])
 |i+1=>oo i (x.sd.getD i default).2 (fG u x i) (ie u x i) (fG u x i).length
structure Rz(z:Zs)(s:gH)(m:cP):Prop where
 ks:s.map (·.1)=z.ids
 km:m.map (·.1)=z.ids
 l1:z.sums.length=z.ids.length
 l2:z.many.length=z.ids.length
 l3:z.firsts.length=z.ids.length
 sums:∀k,k<z.ids.length->s[k]?=some (z.ids.getD k default,z.sums.getD k default)
 met:∀k,k<z.ids.length->∃l,m[k]?=some (z.ids.getD k default,l)/\(l.length:Int)=z.many.getD k default/\l[0]?=some (z.firsts.getD k default)
theorem Gw{r:Int}:∀{l:List Int},du r l<l.length->l.getD (du r l) default=r
 |[],h=>absurd h (YI _)
 |y::l,h=>by
  unfold du at h ⊢;by_cases e:y=r
  ·rw[if_neg (fun q=>q e)];exact e
  rw[if_pos e]at h ⊢;rw[List.getD_cons_succ];exact Gw (by rw[List.length_cons]at h;omega)
theorem Rz.step{z:Zs}{s:gH}{m:cP}(h:Rz z s m)(i:Nat)(sx:Int)(r:Sd):Rz (gG i sx z r) (aS sx s r) (b8 r.1 (i:Int) m):=by
 obtain⟨ks,km,l1,l2,l3,hs,hm⟩:=h;have hk:=pD r.1 z.ids;have hsl:s.length=z.ids.length:=by rw[<-ks,Yv]
 have hml:m.length=z.ids.length:=by rw[<-km,Yv]
 have gs':=qh (k:=r.1) (rs:=s);have gm':=qh (k:=r.1) (rs:=m);rw[ks]at gs';rw[km]at gm';unfold gG aS b8;by_cases e:du r.1 z.ids=z.ids.length
 ·have ez:cH i z r.1=⟨z.ids++[r.1],z.sums++[0],z.many++[0],z.firsts++[(i:Int)],z.part⟩:=if_pos e;rw[YA (by omega)]at gs' gm';have gs1:av r.1 s=none:=gs';have gm1:av r.1 m=none:=gm';rw[gs1,gm1,ez];refine⟨by rw[kD,ks,if_pos (by omega)],by rw[kD,km,if_pos (by omega)],by simp[l1],by simp[l2],by simp[l3],fun k hk'=>?_,fun k hk'=>?_⟩
  ·simp only[Yh,YN]at hk';rw[j5,ks];simp only;rw[i8 (by simp;omega),gy,gy,gy];by_cases e2:k=du r.1 z.ids
   ·rw[if_pos e2,if_pos e2,if_neg (by omega),if_pos (by omega),if_neg (by omega),if_pos (by omega)];rfl
   rw[if_neg e2,if_neg e2,if_pos (by omega),if_pos (by omega),hs k (by omega)]
  simp only[Yh,YN]at hk';rw[j5,km];simp only;rw[i8 (by simp;omega),gy,gy,gy,gy];by_cases e2:k=du r.1 z.ids
  ·rw[if_pos e2,if_pos e2];refine⟨[(i:Int)],?_,?_,?_⟩
   ·rw[if_neg (by omega),if_pos (by omega)];rfl
   ·rw[if_neg (by omega),if_pos (by omega)];rfl
   rw[if_neg (by omega),if_pos (by omega)];rfl
  rw[if_neg e2,if_neg e2];obtain⟨l,a1,a2,a3⟩:=hm k (by omega);exact⟨l,by rw[if_pos (by omega)];exact a1,by rw[if_pos (by omega)];exact a2,by rw[if_pos (by omega)];exact a3⟩
 have ez:cH i z r.1=z:=if_neg e;have hlt:du r.1 z.ids<z.ids.length:=by omega
 have hat:=Gw hlt;obtain⟨l,a1,a2,a3⟩:=hm _ hlt;rw[hs _ hlt]at gs';rw[a1]at gm';have gs1:av r.1 s=some (z.sums.getD (du r.1 z.ids) default):=gs';have gm1:av r.1 m=some l:=gm';rw[gs1,gm1,ez];refine⟨by rw[kD,ks,if_neg (by omega)],by rw[kD,km,if_neg (by omega)],by simp[l1],by simp[l2],l3,fun k hk'=>?_,fun k hk'=>?_⟩
 ·rw[j5,ks];simp only;rw[i8 (by omega)];by_cases e2:k=du r.1 z.ids
  ·rw[if_pos e2,if_pos e2,e2,hat];rfl
  rw[if_neg e2,if_neg e2,hs k hk']
 rw[j5,km];simp only;rw[i8 (by omega)];by_cases e2:k=du r.1 z.ids
 ·rw[if_pos e2,if_pos e2];refine⟨l++[(i:Int)],by rw[e2,hat];rfl,by rw[Yh,YN,<-a2];omega,?_⟩;rw[e2,<-a3];cases l with
  |nil=>cases a3
  |cons a l=>rfl
 rw[if_neg e2,if_neg e2];exact hm k hk'
inductive Cn(R:Int->Int->Prop):Int->Int->Prop
 |r {a b:Int}:R a b->Cn R a b
 |e {a:Int}:Cn R a a
 |s {a b:Int}:Cn R a b->Cn R b a
 |t {a b c:Int}:Cn R a b->Cn R b c->Cn R a c
theorem Cn.mono{R S:Int->Int->Prop}(h:∀a b,R a b->S a b){a b:Int}(k:Cn R a b):Cn S a b:=by
 induction k with
 |r q=>exact .r (h _ _ q)
 |e=>exact .e
 |s _ ih=>exact .s ih
 |t _ _ i1 i2=>exact .t i1 i2
def Lf(m:cP)(a b:Int):Prop:=∃p∈m,p.2[0]?=some a/\b∈p.2
theorem zg{old now:Int}{p:List Int}:∀m,m<=p.length->∀a,(gk old now p m).getD a default=if a<m/\p.getD a default=now then old else p.getD a default
 |0,_,a=>by rw[if_neg (fun q=>absurd q.1 (YI _))];rfl
 |m+1,hm,a=>by
  have ih:=zg (old:=old) (now:=now) (p:=p) m (by omega);have hl:=kn (old:=old) (now:=now) (p:=p) m;have hmm:=ih m;rw[if_neg (fun q=>absurd q.1 (Nat.lt_irrefl _))]at hmm;unfold gk;rw[hmm];by_cases h1:p.getD m default=now
  ·rw[if_pos h1,i8 (by omega)];by_cases h2:a=m
   ·rw[if_pos h2,if_pos ⟨by omega,by rw[h2];exact h1⟩]
   rw[if_neg h2,ih a];by_cases h3:a<m/\p.getD a default=now
   ·rw[if_pos h3,if_pos ⟨by omega,h3.2⟩]
   rw[if_neg h3,if_neg (fun q=>h3 ⟨by omega,q.2⟩)]
  rw[if_neg h1,ih a];by_cases h3:a<m/\p.getD a default=now
  ·rw[if_pos h3,if_pos ⟨by omega,h3.2⟩]
  rw[if_neg h3,if_neg (fun q=>h3 ⟨by
   by_cases e:a=m
   ·subst e;exact absurd q.2 h1
   omega,q.2⟩)]
structure Jc(i:Nat)(z:Zs)(m:cP):Prop where
 lp:i<z.part.length
 pv:∀a:Nat,a<=i->0<=z.part.getD a default/\z.part.getD a default<=i
 el:∀p∈m,∀b∈p.2,0<=b/\b<=(i:Int)
 cn:∀a b:Nat,a<=i->b<=i->(z.part.getD a default=z.part.getD b default↔Cn (Lf m) a b)
theorem Jc.step{i:Nat}{z:Zs}{s:gH}{m:cP}(h:Jc i z m)(hz:Rz z s m)(sx:Int)(r:Sd):Jc i (gG i sx z r) (b8 r.1 (i:Int) m):=by
 obtain⟨lp,pv,el,cn⟩:=h;have hz2:=hz.step i sx r;have hk:=B1 (i:=i) (z:=z) (r:=r.1);have hml:m.length=z.ids.length:=by rw[<-hz.km,Yv]
 obtain⟨l,hl1,hl2,hl3⟩:∃l,(b8 r.1 (i:Int) m)[du r.1 z.ids]?=some (r.1,l++[(i:Int)])/\(l=[]\/∃q∈m,q.2=l)/\∀q∈b8 r.1 (i:Int) m,q∈m\/q=(r.1,l++[(i:Int)]):=by
  refine⟨(av r.1 m).getD [],?_,?_,fun q hq=>?_⟩
  ·unfold b8;rw[j5,hz.km,if_pos rfl]
  ·cases e:av r.1 m with
   |none=>exact .inl rfl
   |some l=>exact .inr ⟨_,eK e,rfl⟩
  unfold b8 at hq;exact(oa hq).elim .inr .inl
 have hold:∀p∈m,p.1=r.1->p.2=l->True:=fun _ _ _ _=>trivial
 obtain⟨l',g1,_,g3⟩:=hz2.met (du r.1 z.ids) hk;rw[hl1]at g1;have e2:l++[(i:Int)]=l':=(Prod.mk.inj (Option.some.inj g1)).2;subst e2;have e3:(gG i sx z r).firsts=(cH i z r.1).firsts:=rfl
 have e4:(cH i z r.1).part=z.part:=by unfold cH;split<;>rfl
 rw[e3]at g3;have e5:(gG i sx z r).part=gk (z.part.getD ((cH i z r.1).firsts.getD (du r.1 z.ids) default).toNat default) (z.part.getD i default) z.part (i+1):=by show gk ((cH i z r.1).part.getD _ default) ((cH i z r.1).part.getD i default) (cH i z r.1).part (i+1)=_;rw[e4]
 generalize(cH i z r.1).firsts.getD (du r.1 z.ids) default=F at g3 e5
 have hF:0<=F/\F<=(i:Int):=by
  rcases hl2 with rfl|⟨q,q1,q2⟩
  ·cases g3;omega
  cases hc:l with
  |nil=>rw[hc]at g3;cases g3;omega
  |cons a t=>
   rw[hc]at g3;cases g3;exact el q q1 _ (by rw[q2,hc];exact Yw)
 obtain⟨f,rfl⟩:∃f:Nat,F=f:=⟨F.toNat,by omega⟩;rw[Yt]at e5;have hfi:f<=i:=by omega
 have hp:∀a:Nat,a<=i->(gG i sx z r).part.getD a default=if z.part.getD a default=z.part.getD i default then z.part.getD f default else z.part.getD a default:=fun a ha=>by
  rw[e5,zg _ (by omega)];by_cases q:z.part.getD a default=z.part.getD i default
  ·rw[if_pos q,if_pos ⟨by omega,q⟩]
  rw[if_neg q,if_neg (fun w=>q w.2)]
 have hpl:(gG i sx z r).part.length=z.part.length:=by rw[e5,kn]
 have hlf:∀a b,Lf (b8 r.1 (i:Int) m) a b->Lf m a b\/(a=(f:Int)/\(b=(i:Int)\/Lf m a b)):=fun a b ⟨q,q1,q2,q3⟩=>by
  rcases hl3 q q1 with w|rfl
  ·exact .inl ⟨q,w,q2,q3⟩
  simp only at q2 q3;rw[g3]at q2;cases q2;rcases List.mem_append.1 q3 with w|w
  ·rcases hl2 with rfl|⟨q',w1,w2⟩
   ·cases w
   refine .inl ⟨q',w1,?_,by rw[w2];exact w⟩;rw[w2];cases l with
   |nil=>cases w
   |cons c t=>exact g3
  exact .inr ⟨rfl,.inl (List.mem_singleton.1 w)⟩
 have hlm:∀a b,Lf m a b->Lf (b8 r.1 (i:Int) m) a b:=fun a b ⟨q,q1,q2,q3⟩=>by
  obtain⟨j,hj,rfl⟩:=YL q1;have hjg:=Yl hj;have hg:(b8 r.1 (i:Int) m)[j]?=if j=du r.1 z.ids then some (r.1,(av r.1 m).getD []++[(i:Int)])else m[j]?:=by unfold b8;rw[j5,hz.km]
  by_cases ej:j=du r.1 z.ids
  ·have hgm:=qh (k:=r.1) (rs:=m);rw[hz.km,<-ej,hjg]at hgm;rw[if_pos ej,hgm]at hg;refine⟨_,YO hg,?_,?_⟩
   ·show(m[j].2++[(i:Int)])[0]?=some a;cases hc:m[j].2 with
    |nil=>rw[hc]at q2;cases q2
    |cons c t=>rw[hc]at q2;exact q2
   exact Zu _ q3
  rw[if_neg ej,hjg]at hg;exact⟨_,YO hg,q2,q3⟩
 have hfi2:Lf (b8 r.1 (i:Int) m) (f:Int) (i:Int):=⟨_,YO hl1,g3,Zp _ Yw⟩;have hel:∀p∈b8 r.1 (i:Int) m,∀b∈p.2,0<=b/\b<=(i:Int):=fun p hp b hb=>by
  rcases hl3 p hp with w|rfl
  ·exact el p w b hb
  rcases List.mem_append.1 hb with w|w
  ·rcases hl2 with rfl|⟨q',w1,w2⟩
   ·cases w
   exact el q' w1 b (by rw[w2];exact w)
  rw[List.mem_singleton.1 w];omega
 refine⟨by rw[hpl];exact lp,fun a ha=>?_,hel,fun a b ha hb=>?_⟩
 ·rw[hp a ha];split
  ·exact pv f hfi
  exact pv a ha
 constructor
 ·intro q;rw[hp a ha,hp b hb]at q;have up:∀{a b:Nat},a<=i->b<=i->z.part.getD a default=z.part.getD b default->Cn (Lf (b8 r.1 (i:Int) m)) a b:=fun ha hb w=>((cn _ _ ha hb).1 w).mono hlm
  by_cases q1:z.part.getD a default=z.part.getD i default
  ·by_cases q2:z.part.getD b default=z.part.getD i default
   ·exact up ha hb (q1.trans q2.symm)
   rw[if_pos q1,if_neg q2]at q;exact((up ha (Nat.le_refl _) q1).t (.s (.r hfi2))).t (up hfi hb q)
  by_cases q2:z.part.getD b default=z.part.getD i default
  ·rw[if_neg q1,if_pos q2]at q;exact(up ha hfi q).t ((Cn.r hfi2).t (.s (up hb (Nat.le_refl _) q2)))
  rw[if_neg q1,if_neg q2]at q;exact up ha hb q
 intro q;have key:∀{x y:Int},Cn (Lf (b8 r.1 (i:Int) m)) x y->x=y\/(0<=x/\x<=(i:Int)/\0<=y/\y<=(i:Int)/\(gG i sx z r).part.getD x.toNat default=(gG i sx z r).part.getD y.toNat default):=by
  intro x y w
  induction w with
  |r w=>
   rename_i x y;have hx:0<=x/\x<=(i:Int):=by
    obtain⟨p,p1,p2,p3⟩:=w;refine hel p p1 x ?_;cases hc:p.2 with
    |nil=>rw[hc]at p2;cases p2
    |cons c t=>rw[hc]at p2;cases p2;exact Yw
   have hy:0<=y/\y<=(i:Int):=by obtain⟨p,p1,p2,p3⟩:=w;exact hel p p1 y p3
   refine .inr ⟨hx.1,hx.2,hy.1,hy.2,?_⟩;obtain⟨x,rfl⟩:∃a:Nat,x=a:=⟨x.toNat,by omega⟩;obtain⟨y,rfl⟩:∃a:Nat,y=a:=⟨y.toNat,by omega⟩;rw[Yt,Yt,hp x (by omega),hp y (by omega)];have old:Lf m x y->(if z.part.getD x default=z.part.getD i default then z.part.getD f default else z.part.getD x default)=if z.part.getD y default=z.part.getD i default then z.part.getD f default else z.part.getD y default:=fun w=>by
    rw[(cn x y (by omega) (by omega)).2 (.r w)]
   rcases hlf _ _ w with w|⟨w1,w2|w2⟩
   ·exact old w
   ·have w1:x=f:=by omega
    have w2:y=i:=by omega
    rw[w1,w2,if_pos (Eq.refl (z.part.getD i default))];split<;>rfl
   exact old w2
  |e=>exact .inl rfl
  |s _ ih=>
   rcases ih with e|⟨a1,a2,a3,a4,a5⟩
   ·exact .inl e.symm
   exact .inr ⟨a3,a4,a1,a2,a5.symm⟩
  |t _ _ i1 i2=>
   rcases i1 with e|⟨a1,a2,a3,a4,a5⟩
   ·rw[e];exact i2
   rcases i2 with e|⟨b1,b2,b3,b4,b5⟩
   ·rw[<-e];exact .inr ⟨a1,a2,a3,a4,a5⟩
   exact .inr ⟨a1,a2,b3,b4,a5.trans b5⟩
 rcases key q with e|⟨_,_,_,_,e⟩
 ·rw[Int.ofNat.inj e]
 rw[Yt,Yt]at e;exact e
structure Jb(n i:Nat)(z:Zs)(m:cP):Prop where
 lp:z.part.length=n
 pv:∀a:Nat,a<i->0<=z.part.getD a default/\z.part.getD a default<i
 el:∀p∈m,∀b∈p.2,0<=b/\b<(i:Int)
 cn:∀a b:Nat,a<i->b<i->(z.part.getD a default=z.part.getD b default↔Cn (Lf m) a b)
theorem Cn.out{m:cP}{i:Int}(h:∀p∈m,∀b∈p.2,b<i){a b:Int}(k:Cn (Lf m) a b):(a=i↔b=i):=by
 induction k with
 |r w=>
  obtain⟨p,p1,p2,p3⟩:=w;have h1:=h p p1 _ p3;rename_i x y;have h2:x<i:=h p p1 x (by
   cases hc:p.2 with
   |nil=>rw[hc]at p2;cases p2
   |cons c t=>rw[hc]at p2;cases p2;exact Yw)
  constructor<;>intro e<;>omega
 |e=>exact Iff.rfl
 |s _ ih=>exact ih.symm
 |t _ _ i1 i2=>exact i1.trans i2
theorem Jb.set{n i:Nat}{z:Zs}{m:cP}(h:Jb n i z m)(hi:i<n):Jc i (i6 z i) m:=by
 obtain⟨lp,pv,el,cn⟩:=h;have hg:∀a:Nat,(i6 z i).part.getD a default=if a=i then(i:Int)else z.part.getD a default:=fun a=>i8 (by omega)
 refine⟨by show i<(List.set _ _ _).length;rw[Yo];omega,fun a ha=>?_,fun p hp b hb=>by have:=el p hp b hb;omega,fun a b ha hb=>?_⟩
 ·rw[hg];split
  ·omega
  have:=pv a (by omega);omega
 rw[hg,hg];have hout:=fun{a b:Int} (k:Cn (Lf m) a b)=>k.out (i:=(i:Int)) fun p hp b hb=>(el p hp b hb).2
 by_cases ea:a=i
 ·by_cases eb:b=i
  ·rw[if_pos ea,if_pos eb,ea,eb];exact⟨fun _=>.e,fun _=>rfl⟩
  rw[if_pos ea,if_neg eb];have:=pv b (by omega);exact⟨fun q=>by omega,fun q=>by have:=(hout q).1 (by omega);omega⟩
 by_cases eb:b=i
 ·rw[if_neg ea,if_pos eb];have:=pv a (by omega);exact⟨fun q=>by omega,fun q=>by have:=(hout q).2 (by omega);omega⟩
 rw[if_neg ea,if_neg eb];exact cn a b (by omega) (by omega)
theorem Jc.next{n i:Nat}{z:Zs}{m:cP}(h:Jc i z m)(hl:z.part.length=n):Jb n (i+1) z m:=
 ⟨hl,fun a ha=>by have:=h.pv a (by omega);omega,fun p hp b hb=>by have:=h.el p hp b hb;omega,fun a b ha hb=>h.cn a b (by omega) (by omega)⟩
theorem Gq{z:Zs}{s:gH}{m:cP}{i:Nat}(h:Rz z s m):Rz (i6 z i) s m:=⟨h.ks,h.km,h.l1,h.l2,h.l3,h.sums,h.met⟩
theorem BU{i:Nat}{sg:Int}{ys:List Sd}{z:Zs}{p:gH×cP}(h:Jc i z p.2)(hr:Rz z p.1 p.2):∀j,Jc i (lv i sg ys z j) (oo i sg ys p j).2/\Rz (lv i sg ys z j) (oo i sg ys p j).1 (oo i sg ys p j).2
 |0=>⟨h,hr⟩
 |j+1=>by
  obtain⟨h1,h2⟩:=BU (sg:=sg) (ys:=ys) h hr j;exact⟨h1.step h2 sg _,h2.step i sg _⟩
theorem Ef{i:Nat}{sg:Int}{ys:List Sd}{z:Zs}:∀j,(lv i sg ys z j).part.length=z.part.length
 |0=>rfl
 |j+1=>by
  rw[lv];unfold gG;simp only;rw[kn,show ∀z',(cH i z' (ys.getD j default).1).part=z'.part from fun z'=>by unfold cH;split<;>rfl,Ef j]
theorem tB{u:List Ce}{x:Ce}:∀i,i<=x.sd.length->Jb x.sd.length i (d8 u x i) (ie u x i).2/\Rz (d8 u x i) (ie u x i).1 (ie u x i).2
 |0,_=>⟨⟨Y4,fun a ha=>absurd ha (YI _),fun p hp=>(by cases hp),fun a b ha=>absurd ha (YI _)⟩,⟨rfl,rfl,rfl,rfl,rfl,fun k hk=>absurd hk (YI _),fun k hk=>absurd hk (YI _)⟩⟩
 |i+1,hi=>by
  obtain⟨h1,h2⟩:=tB (u:=u) (x:=x) i (by omega);have h3:=h1.set (by omega);obtain⟨h4,h5⟩:=BU (p:=ie u x i) (sg:=(x.sd.getD i default).2) (ys:=fG u x i) h3 (Gq h2) (fG u x i).length;refine⟨h4.next ?_,h5⟩;rw[Ef];show(List.set _ _ _).length=_;rw[Yo];exact h1.lp
theorem Ib{l:List Int}(h:l.length=2):∃p q,l=[p,q]:=by
 rcases l with _|⟨p,_|⟨q,_|⟨r,l⟩⟩⟩
 ·cases h
 ·cases h
 ·exact⟨p,q,rfl⟩
 simp at h
theorem Dx:∀(n:Nat) (S:List Int),(∀a:Nat,a<n->(a:Int)∈S)->n<=S.length
 |0,_,_=>Yq _
 |n+1,S,h=>by
  have hm:=h n (by omega);have:=Dx n (S.erase (n:Int)) fun a ha=>(List.mem_erase_of_ne (by omega)).2 (h a (by omega))
  rw[ZA hm]at this;have:=List.length_pos_of_mem hm;omega
theorem Ix{m:cP}(h2:∀p∈m,p.2.length=2){a:Int}:tZ m a↔Cn (Lf m) 0 a:=by
 constructor
 ·intro h
  induction h with
  |z=>exact .e
  |s _ h2 ih=>
   obtain⟨p,hp,e⟩:=h2;refine ih.t ?_;rcases e with e|e
   ·exact .r ⟨p,hp,by rw[e];rfl,by rw[e];simp⟩
   exact .s (.r ⟨p,hp,by rw[e];rfl,by rw[e];simp⟩)
 intro h;have key:∀{a b:Int},Cn (Lf m) a b->(tZ m a↔tZ m b):=by
  intro a b k
  induction k with
  |r w=>
   obtain⟨p,hp,e1,e2⟩:=w;obtain⟨q1,q2,e⟩:=Ib (h2 p hp);rw[e]at e1 e2;cases e1;simp only[YD,Yy,or_false]at e2;rcases e2 with rfl|rfl
   ·exact Iff.rfl
   exact⟨fun w=>.s w ⟨p,hp,.inl e⟩,fun w=>.s w ⟨p,hp,.inr e⟩⟩
  |e=>exact Iff.rfl
  |s _ ih=>exact ih.symm
  |t _ _ i1 i2=>exact i1.trans i2
 exact(key h).1 .z
theorem Iz{n:Nat}{S:List Int}(hn:S.Nodup)(hS:∀a∈S,0<=a/\a<(n:Int)):S.length=n↔∀a:Nat,a<n->(a:Int)∈S:=by
 have hnd:(S.map (·.toNat)).Nodup:=by
  have:∀l:List Int,l.Nodup->(∀a∈l,0<=a)->(l.map (·.toNat)).Nodup:=by
   intro l
   induction l with
   |nil=>intros;exact ZG
   |cons a l ih=>
    intro h1 h2;rw[YM];refine List.nodup_cons.2 ⟨fun q=>?_,ih (List.nodup_cons.1 h1).2 fun b hb=>h2 b (YH _ hb)⟩;obtain⟨b,hb,e⟩:=List.mem_map.1 q;have k1:=h2 a Yw;have k2:=h2 b (YH _ hb);have:b=a:=by omega
    exact(List.nodup_cons.1 h1).1 (this▸hb)
  exact this S hn fun a ha=>(hS a ha).1
 have hlt:∀j∈S.map (·.toNat),j<n:=fun j hj=>by
  obtain⟨a,ha,rfl⟩:=List.mem_map.1 hj;have:=hS a ha;show a.toNat<n;omega
 have hle:=gp hnd hlt;rw[Yv]at hle;constructor
 ·intro e a ha;by_cases q:a∈S.map (·.toNat)
  ·obtain⟨b,hb,e2⟩:=List.mem_map.1 q;have:=hS b hb;have:b=(a:Int):=by omega
   exact this▸hb
  exfalso;have:=gp (n:=n) (l:=a::S.map (·.toNat)) (List.nodup_cons.2 ⟨q,hnd⟩) fun j hj=>by
   rcases List.mem_cons.1 hj with rfl|w
   ·exact ha
   exact hlt j w
  rw[List.length_cons,Yv]at this;omega
 intro h;have:=Dx n S h;omega
theorem Tk{u:List Ce}{x:Ce}(hn:0<x.sd.length):((∃m∈(ie u x x.sd.length).1,m.2≠0)->ly u x=24)/\((¬∃m∈(ie u x x.sd.length).1,m.2≠0)->((∃m∈(ie u x x.sd.length).2,m.2.length≠2)->ly u x=25) /\
 ((¬∃m∈(ie u x x.sd.length).2,m.2.length≠2)->∀S:List Int,S.Nodup->(∀a,a∈S↔tZ (ie u x x.sd.length).2 a)->ly u x=if S.length=x.sd.length then 0 else 25)):=by
 obtain⟨hb,hr⟩:=tB (u:=u) (x:=x) x.sd.length (Nat.le_refl _);unfold ly;generalize d8 u x x.sd.length=z at hb hr ⊢;generalize ie u x x.sd.length=p at hb hr ⊢;obtain⟨s,m⟩:=p;simp only at hb hr ⊢;have hsl:s.length=z.ids.length:=by rw[<-hr.ks,Yv]
 have hml:m.length=z.ids.length:=by rw[<-hr.km,Yv]
 have k1:(∃q∈s,q.2≠0)↔∃k,k<z.sums.length/\z.sums.getD k default≠0:=by
  constructor
  ·rintro ⟨q,hq,h⟩;obtain⟨k,hk,rfl⟩:=YL hq;have:=hr.sums k (by omega);rw[Yl hk]at this;rw[Option.some.inj this]at h;exact⟨k,by rw[hr.l1];omega,h⟩
  rintro ⟨k,hk,h⟩;rw[hr.l1]at hk;exact⟨_,YO (hr.sums k hk),h⟩
 have k2:(∃q∈m,q.2.length≠2)↔∃k,k<z.many.length/\z.many.getD k default≠2:=by
  constructor
  ·rintro ⟨q,hq,h⟩;obtain⟨k,hk,rfl⟩:=YL hq;obtain⟨l,a1,a2,_⟩:=hr.met k (by omega);rw[Yl hk]at a1;rw[Option.some.inj a1]at h;exact⟨k,by rw[hr.l2];omega,fun e=>h (by show l.length=2;omega)⟩
  rintro ⟨k,hk,h⟩;rw[hr.l2]at hk;obtain⟨l,a1,a2,_⟩:=hr.met k hk;exact⟨_,YO a1,fun e=>h (by rw[<-a2];have:l.length=2:=e;omega)⟩
 unfold wT;refine⟨fun h=>if_pos (k1.1 h),fun h=>?_⟩;rw[if_neg (fun q=>h (k1.2 q))];refine⟨fun h2=>if_pos (k2.1 h2),fun h2 S hS hSm=>?_⟩;rw[if_neg (fun q=>h2 (k2.2 q))];have h2':∀q∈m,q.2.length=2:=fun q hq=>Decidable.byContradiction fun e=>h2 ⟨q,hq,e⟩
 have hin:∀a∈S,0<=a/\a<(x.sd.length:Int):=fun a ha=>by
  have:=(hSm a).1 ha;cases this with
  |z=>omega
  |s _ w=>
   obtain⟨q,hq,e⟩:=w;exact hb.el q hq a (by rcases e with e|e<;>rw[e]<;>simp)
 have key:S.length=x.sd.length↔¬∃k,k<z.part.length/\z.part.getD k default≠z.part.getD 0 default:=by
  rw[Iz hS hin];constructor
  ·rintro h ⟨k,hk,hne⟩;rw[hb.lp]at hk;exact hne ((hb.cn k 0 hk hn).2 (.s ((Ix h2').1 ((hSm _).1 (h k hk)))))
  intro h k hk;refine(hSm _).2 ((Ix h2').2 (.s ((hb.cn k 0 hk hn).1 ?_)));exact Decidable.byContradiction fun q=>h ⟨k,by rw[hb.lp];exact hk,q⟩
 by_cases e:S.length=x.sd.length
 ·rw[if_pos e,if_neg (key.1 e)]
 rw[if_neg e,if_pos (Decidable.byContradiction fun q=>e (key.2 q))]
attribute [go_sem] rV Uo
abbrev QU:ag:=.cells [.map (some 5)] 182 (0,0)
abbrev Lv:ag:=.cells [.map (some 4)] 181 (0,0)
abbrev WC:Value:=.func (.func 99) #[] #[.pointer (some ⟨6,0,none⟩),.pointer (some ⟨3,0,none⟩),.pointer (some ⟨7,0,none⟩)]
abbrev Uf:ag:=.cells [WC] 183 (0,0)
abbrev vL(o0 o1 o2:ag)(J:cP)(S:gA):List (Nat×Option ag):=[(0,some o0),(1,some o1),(2,some o2),(3,some Lv),(4,some (rV J)),(5,some (Uo S)),(6,some QU),(7,some Uf)]
attribute [go_sem] QU Lv Uf WC vL
def Ex(o0 o1 o2:ag)(J:cP)(S:gA)(i:Int):aZ->XW->Prop:=fun e W'=>∃S',e=.ret (.tuple #[])/\(∀m o,lk (vL o0 o1 o2 J S') m=some o->W'.get m=some o)/\W'.next<=8/\Ap J S i S'
theorem low{P:Program}[hM:kJ P]{f:FuncId}{args:List Value}{S:aZ->XW->Prop}{W:XW}{fn:Func}{c:Code}{F:List (Nat×Option Value)}{N:Nat}{R:Array ResultVar}(hf:P.funcs[f]?=some fn)(hR:fn.results=R)(hc:fn.body=some c:=by rfl)(hN:fn.ntmps=N:=by rfl)(hl:args.length<=fn.ntmps:=by exact Nat.le_of_ble_eq_true rfl)
 (hF:bA 0 args []=F:=by simp only[bA.eq_1,bA.eq_2,Nat.reduceAdd]<;>with_reducible rfl) (h:ay P N W.next c ⟨an F,W,[]⟩ (qO P R.toList S)):aT P f args W S:=by
 subst hN hF hR;exact cy b0 hf hc hl (fh (fun ex s ⟨p,e',W',h1,h2,h3⟩=>⟨p,e',W',h1,by rw[<-l6];exact h2,h3⟩) h)
theorem tw{α:Type}{L:List (Nat×Option α)}{m:Nat}{o:α}(B:Nat)(h:lk L m=some o)(hB:(L.all fun p=>Nat.blt p.1 B)=true:=by rfl):m<B:=Nat.le_of_ble_eq_true (List.all_eq_true.1 hB _ (bP h))
theorem MB{P:Program}[hM:kJ P]{N k:Nat}{s s':XS}{Q:XQ}{id:Nat}{ops:Array Oper}{p:Prop}(f:p)(q:Q .norm s')(h:p->fE P (cd P (bc [] []) 1) N none ops ops.toList s=some (.code .norm s'):=by intro hf;simp(disch:=first|decide|omega|(simp only[Yh,List.length_cons,List.length_nil,Yk,Ym,Yo]<;>omega)|(simp(disch:=decide) only[ae,ab,aa,ci.eq_1];done)) only[hf,go_sem]<;>with_reducible rfl):ay P N k (.region id ops false) s Q:=aE b0 (h f) q
theorem Vr{i:Int}{S:gA}{c:Nat}:lP Tryz.prog 3 (.int .i64 i) false (some (aA (fun _ (_:Unit)=>Value.bool true) S 0,c)) (some (.bool false))=some (.val (some (.bool (av i S).isSome))):=by
 rw[wk (P:=Tryz.prog) (T:=3) Tryz.underlying3 (f:=fun(_:Unit)=>Value.bool true) i S (c:=c) (z:=.bool false) (ok:=false)];cases av i S<;>rfl
theorem Wb{i:Int}{S:gA}{W:XW}{r:Nat}:lG Tryz.prog W r 3 (.int .i64 i) (.bool true) (some (.map (aA (fun _ (_:Unit)=>Value.bool true) S 0) S.length))=some (.mod undef (W.put r (some (.map (aA (fun _ (_:Unit)=>Value.bool true) (bb i () S) 0) (bb i () S).length)))):=Fd Tryz.underlying3 (f:=fun(_:Unit)=>Value.bool true) ()
theorem U2{i:Int}{J:cP}{c:Nat}{a:List Int}(h:av i J=some a):lP Tryz.prog 3 (.int .i64 i) false (some (aA (fun _ l=>sl l) J 0,c)) (some (.slice none 0 0))=some (.val (some (sl a))):=by
 rw[wk (P:=Tryz.prog) (T:=3) Tryz.underlying3 (f:=fun l=>sl l) i J (c:=c) (z:=.slice none 0 0) (ok:=false),h];rfl
theorem RZ{i:Int}{J:cP}{c:Nat}(h:av i J=none):lP Tryz.prog 3 (.int .i64 i) false (some (aA (fun _ l=>sl l) J 0,c)) (some (.slice none 0 0))=some (.val (some (.slice none 0 0))):=by
 rw[wk (P:=Tryz.prog) (T:=3) Tryz.underlying3 (f:=fun l=>sl l) i J (c:=c) (z:=.slice none 0 0) (ok:=false),h];rfl
attribute [go_sem high] Vr Wb
set_option maxHeartbeats 2000000 in
theorem AG(o0 o1 o2:ag)(J:cP)(U:List Int)(hU:∀a∈U,∀b∈gU J a,b∈U)(hJ:∀a,(gU J a).length<=8192):∀(c:Nat) (S:gA) (i:Int),i∈U->(S.map (·.1)).Nodup->left U S<=c ->
 aT Tryz.prog 99 [.int .i64 i,.pointer (some ⟨6,0,none⟩),.pointer (some ⟨3,0,none⟩),.pointer (some ⟨7,0,none⟩)] (wd (vL o0 o1 o2 J S) 8 [] 0) (Ex o0 o1 o2 J S i)
 |c,S,i,hi,hn,hc=>by
  have ih:∀(S2:gA) (b:Int),b∈U->(S2.map (·.1)).Nodup->left U S2<left U S->aT Tryz.prog 99 [.int .i64 b,.pointer (some ⟨6,0,none⟩),.pointer (some ⟨3,0,none⟩),.pointer (some ⟨7,0,none⟩)] (wd (vL o0 o1 o2 J S2) 8 [] 0) (Ex o0 o1 o2 J S2 b):=fun S2 b hb hn2 hlt=>by
   cases c with
   |zero=>omega
   |succ c=>exact AG o0 o1 o2 J U hU hJ c S2 b hb hn2 (by omega)
  refine low Tryz.func99 Tryz.results99 (h:=?_);cases hg:av i S with
  |some u=>
   refine rf hg ?_;refine cf ?_;refine ap (re ?_);exact⟨S,rfl,fun m o h=>by
    have hm:=tw 8 h;exact(ae hm (by omega)).trans h,Nat.le_refl _,N6 (by rw[hg];simp) hn⟩
  |none=>
   have hm0:wX J S i 0 (bb i () S):=Sv hg hn;have hk8:=hJ i;refine rf hg ?_;refine ct ?_;refine rs ?_;refine jP ⟨an [(0,some (.int .i64 i)),(1,some (.pointer (some ⟨6,0,none⟩))),(2,some (.pointer (some ⟨3,0,none⟩))),(3,some (.pointer (some ⟨7,0,none⟩))),(15,some (sl (gU J i))),(16,some (.int .i64 ((gU J i).length:Nat))),(17,some (.int .i64 ((0:Nat):Int)))],wd (vL o0 o1 o2 J (bb i () S)) 8 [] 0,[]⟩ ?_ ?_
   ·unfold gU at hk8 ⊢;cases hj:av i J with
    |none=>
     have hz:=fun c=>RZ (c:=c) hj
     refine MB hz ?_;exact bg
    |some a=>
     rw[hj]at hk8;have hk8:a.length<=8192:=hk8;have hz:=fun c=>U2 (c:=c) hj
     refine MB hz ?_;exact bg
   generalize hb:gU J i=l at hk8;refine fr (fun y:Nat×gA=>⟨an [(0,some (.int .i64 i)),(1,some (.pointer (some ⟨6,0,none⟩))),(2,some (.pointer (some ⟨3,0,none⟩))),(3,some (.pointer (some ⟨7,0,none⟩))),(15,some (sl l)),(16,some (.int .i64 (l.length:Nat))),(17,some (.int .i64 (y.1:Nat)))],wd (vL o0 o1 o2 J y.2) 8 [] 0,[]⟩) (fun y=>y.1<=l.length/\wX J S i y.1 y.2) (fun y=>l.length-y.1) (0,bb i () S) ⟨Yq _,hm0⟩ (fun y hv h=>?_) (fun y hv h=>?_)
   ·obtain⟨k,S2⟩:=y;obtain⟨hk,hm⟩:=hv;simp only at h hk hm;have hbg:(gU J i)[k]?=some (l.getD k default):=by rw[hb,Yn,Yl (by omega)];rfl
    refine bs (rs ?_);refine cm ?_;refine bq b0 1 (s1:=?sa) ?ha1 (bq b0 1 (s1:=?sb) ?hb1 (e8 (f:=99) (args:=[.int .i64 (l.getD k default),.pointer (some ⟨6,0,none⟩),.pointer (some ⟨3,0,none⟩),.pointer (some ⟨7,0,none⟩)]) (S:=Ex o0 o1 o2 J S2 (l.getD k default)) (enters_of (by kernel_rfl)) rfl ?hx ?hl ?q))
    case ha1=>simp(disch:=decide) only[go_sem]<;>with_reducible rfl
    case hb1=>simp(disch:=decide) only[go_sem]<;>with_reducible rfl
    case hx=>simp(disch:=decide) only[go_sem]
    case hl=>exact ih S2 _ (hU i hi _ (YO hbg)) hm.nd (Oe hi hg hm.this hm.mono)
    intro e W' ⟨S3,he,g0,g5,hp⟩;refine⟨_,_,he,cu (by decide),?_⟩;refine iz (mi (L:=vL o0 o1 o2 J S3) (n':=8) (lg:=[]) (nl:=0) g5 g0) ?_;refine cQ ?_;refine rl ?_;exact nx (k+1,S3) ⟨by dsimp only;omega,RH hm hbg hp⟩
   obtain⟨k,S2⟩:=y;obtain⟨hk,hm⟩:=hv;simp only at h hk hm;refine re ?_;exact⟨S2,rfl,fun m o h=>(ae (tw 8 h) (by have:=tw 8 h;omega)).trans h,Nat.le_refl _,Li hm (by rw[hb];omega)⟩
section
variable {P:Program} {β:Type} [El β] {e:TypeId} {B kk s d mp n nl:Nat} {F F':List (Nat×Option Value)} {A L:List (Nat×Option ag)} {lg:List Nat} {rs:List (Int×List β)}
def ke(P:Program)(T:RT)(s d:Nat)(Bd:Nat->Prop)(L:List (Nat×Option ag)):List (Nat×Option ag)->Prop
 |[]=>True
 |(m,q)::A=>(Bd m/\∀o,q=some o->((m≠s/\m≠d/\lk L m=some o)\/(m=d/\lk L s=some o))/\TO P T o o)/\ke P T s d Bd L A
theorem ke.mem{T:RT}{Bd:Nat->Prop}:∀{A:List (Nat×Option ag)},ke P T s d Bd L A->∀p∈A,Bd p.1/\∀o,p.2=some o->((p.1≠s/\p.1≠d/\lk L p.1=some o)\/(p.1=d/\lk L s=some o))/\TO P T o o
 |[],_,p,h=>by cases h
 |(m,q)::A,h,p,hp=>by
  rcases List.mem_cons.1 hp with rfl|hp
  ·exact h.1
  exact ke.mem h.2 p hp
theorem vw{T:RT}{Bd:Nat->Prop}:ke P T s d Bd L []:=trivial
theorem tC{T:RT}{Bd:Nat->Prop}{m:Nat}{o:ag}(h0:Bd m)(h1:m≠s)(h2:m≠d)(hl:lk L m=some o)(ho:TO P T o o)(hs:ke P T s d Bd L A):ke P T s d Bd L ((m,some o)::A):=⟨⟨h0,fun o' e=>by cases e;exact⟨.inl ⟨h1,h2,hl⟩,ho⟩⟩,hs⟩
theorem O5{T:RT}{Bd:Nat->Prop}{o:ag}(h0:Bd d)(hl:lk L s=some o)(ho:TO P T o o)(hs:ke P T s d Bd L A):ke P T s d Bd L ((d,some o)::A):=⟨⟨h0,fun o' e=>by cases e;exact⟨.inr ⟨rfl,hl⟩,ho⟩⟩,hs⟩
class Ye(P:Program)(q:Option ag):Prop where
 h:∀o,q=some o->gJ P o
class yF(P:Program)(o:ag)(n:outParam Nat):Prop where
 h:∀θ:Nat->Option Nat,θ n=some n->TO P (aL θ) o o
theorem we{θ:Nat->Option Nat}{Bd:Nat->Prop}{m:Nat}{q:Option ag}(h0:Bd m)(h1:m≠s)(h2:m≠d)(hl:lk L m=q)(hb:Ye P q)(hs:ke P (aL θ) s d Bd L A):ke P (aL θ) s d Bd L ((m,q)::A):=⟨⟨h0,fun o e=>⟨.inl ⟨h1,h2,hl.trans e⟩,hb.h o e _ aj⟩⟩,hs⟩
theorem WP(s d:Nat)(hk:kk<=B:=by decide)(hmp:mp<B:=by decide)(hs:B+rs.length<=s:=by omega)(hd:d<B:=by decide)(hdk:kk<=d:=by decide)(hdm:d≠mp:=by decide)(hsn:s<n:=by omega)(hn:n<16383:=by omega)
 (hF:cY (aL (iO s d (B+rs.length))) F F':=by
  try dsimp only
  repeat' (first|exact dx|refine bS (by decide) (by repeat (first|exact ab|refine Eq.trans (aa (by decide)) ?_)) (by first|exact Br.h _ aj|exact bN nQ|exact bN (bF (by omega) (by omega) (by omega))|exact cz (bF (by omega) (by omega) (by omega))) ?_))
 (hA:ke P (aL (iO s d (B+rs.length))) s d (fun m=>m<B/\m≠mp) L A:=by
  try dsimp only
  repeat' (first|exact vw|refine tC ⟨by decide,by decide⟩ (by omega) (by decide) (by repeat (first|exact ab|refine Eq.trans (aa (by omega)) ?_)) (by first|exact bd aj (aF b7.h)|exact bd aj lA.h|exact jF (bF (by omega) (by omega) (by omega))|exact yF.h _ (bF (by omega) (by omega) (by omega))|(refine cg ?_;repeat (first|exact aR|refine au (by first|exact Br.h _ aj|exact cz (bF (by omega) (by omega) (by omega))) ?_))) ?_|refine O5 ⟨by decide,by decide⟩ (by repeat (first|exact ab|refine Eq.trans (aa (by omega)) ?_)) (bd aj (aF b7.h)) ?_|refine we ⟨by decide,by decide⟩ (by omega) (by decide) (by repeat (first|exact ab|refine Eq.trans (aa (by omega)) ?_)) inferInstance ?_))
 (hm:lk L mp=some (jf B rs):=by repeat (first|exact ab|refine Eq.trans (aa (by omega)) ?_))
 (hrows:∀j,j<rs.length->lk L (B+j)=(rs[j]?).map fun x=>ro e x.2:=by
  intro j hj
  repeat (refine Eq.trans (aa (by omega)) ?_)
  rw[fe,if_pos (by omega)];congr 2;omega) :
 aX P kk ⟨an F,wd L n lg nl,[]⟩ ⟨an F',wd (A++((mp,some (jf B rs))::eR e B rs 0)) (rs.length+B) [] 0,[]⟩:=by
 refine Dn (s:=s) (d:=d) hk hmp hs hd hdk hdm hn (by omega) hF (fun m o h=>?_) (fun p hp=>?_) hm hrows
 ·obtain⟨h1,h2⟩:=hA.mem _ (bP h);obtain⟨h2,h3⟩:=h2 _ rfl;refine⟨h1.1,h1.2,?_⟩;rcases h2 with⟨q1,q2,q3⟩|⟨rfl,q⟩
  ·have hlt:=h1.1;exact⟨m,bF q1 q2 (by omega),by omega,q3,h3⟩
  exact⟨s,nQ,hsn,q,h3⟩
 exact(hA.mem p hp).1
theorem Yb(d:Nat)(hk:kk<=B:=by decide)(hmp:mp<B:=by decide)(hs:B+rs.length<=n:=by omega)(hd:d<B:=by decide)(hdk:kk<=d:=by decide)(hdm:d≠mp:=by decide)(hn:n<16383:=by omega)
 (hF:cY (aL (iO n d (B+rs.length))) F F':=by
  try dsimp only
  repeat' (first|exact dx|refine bS (by decide) (by repeat (first|exact ab|refine Eq.trans (aa (by decide)) ?_)) (by first|exact Br.h _ aj|exact bN nQ|exact bN (bF (by omega) (by omega) (by omega))|exact cz (bF (by omega) (by omega) (by omega))) ?_))
 (hA:ke P (aL (iO n d (B+rs.length))) n d (fun m=>m<B/\m≠mp/\m≠d) L A:=by
  try dsimp only
  repeat' (first|exact vw|refine tC ⟨by decide,by decide,by decide⟩ (by omega) (by decide) (by repeat (first|exact ab|refine Eq.trans (aa (by omega)) ?_)) (by first|exact bd aj (aF b7.h)|exact bd aj lA.h|exact jF (bF (by omega) (by omega) (by omega))|exact yF.h _ (bF (by omega) (by omega) (by omega))|(refine cg ?_;repeat (first|exact aR|refine au (by first|exact Br.h _ aj|exact cz (bF (by omega) (by omega) (by omega))) ?_))) ?_|refine we ⟨by decide,by decide,by decide⟩ (by omega) (by decide) (by repeat (first|exact ab|refine Eq.trans (aa (by omega)) ?_)) inferInstance ?_))
 (hm:lk L mp=some (jf B rs):=by repeat (first|exact ab|refine Eq.trans (aa (by omega)) ?_))
 (hrows:∀j,j<rs.length->lk L (B+j)=(rs[j]?).map fun x=>ro e x.2:=by
  intro j hj
  repeat (refine Eq.trans (aa (by omega)) ?_)
  rw[fe,if_pos (by omega)];congr 2;omega) :
 aX P kk ⟨an F,wd L n lg nl,[]⟩ ⟨an F',wd (A++((mp,some (jf B rs))::eR e B rs 0)) (rs.length+B) [] 0,[]⟩:=by
 refine Dn (s:=n) (d:=d) hk hmp hs hd hdk hdm hn (by omega) hF (fun m o h=>?_) (fun p hp=>?_) hm hrows
 ·obtain⟨h1,h2⟩:=hA.mem _ (bP h);obtain⟨h2,h3⟩:=h2 _ rfl;refine⟨h1.1,h1.2.1,?_⟩;rcases h2 with⟨q1,q2,q3⟩|⟨rfl,q⟩
  ·have hlt:=h1.1;exact⟨m,bF q1 q2 (by omega),by omega,q3,h3⟩
  exact absurd rfl h1.2.2
 have h1:=(hA.mem p hp).1;exact⟨h1.1,h1.2.1⟩
theorem Mg(i0 d:Nat)(hi:i0<rs.length:=by omega)(hk:kk<=B:=by decide)(hmp:mp<B:=by decide)(hd:d<B:=by decide)(hdk:kk<=d:=by decide)(hdm:d≠mp:=by decide)(hn:n<16383:=by omega)(hBn:B+rs.length<=n:=by omega)
 (hF:cY (aL (iO (B+i0) d n)) F F':=by
  try dsimp only
  repeat' (first|exact dx|refine bS (by decide) (by repeat (first|exact ab|refine Eq.trans (aa (by decide)) ?_)) (by first|exact Br.h _ aj|exact bN (bF (by omega) (by omega) (by omega))|exact cz (bF (by omega) (by omega) (by omega))) ?_))
 (hA:ke P (aL (iO (B+i0) d n)) (B+i0) d (fun m=>(m<B\/B+rs.length<=m)/\m≠mp/\m<n) L A:=by
  try dsimp only
  repeat' (first|exact vw|refine tC ⟨by omega,by omega,by omega⟩ (by omega) (by omega) (by repeat (first|exact ab|refine Eq.trans (aa (by omega)) ?_)) (by first|exact bd aj (aF b7.h)|exact bd aj lA.h|exact jF (bF (by omega) (by omega) (by omega))|exact yF.h _ (bF (by omega) (by omega) (by omega))|(refine cg ?_;repeat (first|exact aR|refine au (by first|exact Br.h _ aj|exact cz (bF (by omega) (by omega) (by omega))) ?_))) ?_|refine we ⟨by omega,by omega,by omega⟩ (by omega) (by omega) (by repeat (first|exact ab|refine Eq.trans (aa (by omega)) ?_)) inferInstance ?_))
 (hAd:∀p∈A,p.1≠d:=by simp only[YD,Yy,or_false,forall_eq_or_imp,forall_eq]<;>omega)
 (hm:lk L mp=some (jf B rs):=by repeat (first|exact ab|refine Eq.trans (aa (by omega)) ?_))
 (hrows:∀j,j<rs.length->lk L (B+j)=(rs[j]?).map fun x=>ro e x.2:=by
  intro j hj
  repeat (refine Eq.trans (aa (by omega)) ?_)
  rw[fe,if_pos (by omega)];congr 2;omega) :
 aX P kk ⟨an F,wd L n lg nl,[]⟩ ⟨an F',wd ((d,(rs[i0]?).map fun x=>ro e x.2)::(B+i0,none)::(A++((mp,some (.map (aA (iL B d i0) rs 0) rs.length))::eR e B rs 0))) n [] 0,[]⟩:=by
 refine Kp hk hmp hi hd hdk hdm hn hBn hF (fun m o h=>?_) (fun p hp=>?_) hm hrows
 ·obtain⟨h1,h2⟩:=hA.mem _ (bP h);obtain⟨h2,h3⟩:=h2 _ rfl;have hdd:=hAd _ (bP h);rcases h2 with⟨q1,q2,q3⟩|⟨rfl,q⟩
  ·exact⟨h1.1,h1.2.1,q2,h1.2.2,q3,h3⟩
  exact absurd rfl hdd
 have hdd:=hAd p hp;have h1:=(hA.mem p hp).1;exact⟨h1.1,h1.2.1,hdd⟩
theorem yR(k:Int)(b:List β)(s:Nat)(hk:kk<=B:=by decide)(hmp:mp<B:=by decide)(hs:B+rs.length<=s:=by omega)(hsn:s<n:=by omega)(hn:n<16383:=by omega)
 (hF:cY (aL (iO s (B+i3 k rs) (B+rs.length))) F F':=by
  try dsimp only
  repeat' (first|exact dx|refine bS (by decide) (by repeat (first|exact ab|refine Eq.trans (aa (by decide)) ?_)) (by first|exact Br.h _ aj|exact bN (bF (by omega) (by omega) (by omega))|exact cz (bF (by omega) (by omega) (by omega))) ?_))
 (hA:ke P (aL (iO s (B+i3 k rs) (B+rs.length))) s s (fun m=>m<B/\m≠mp) L A:=by
  try dsimp only
  repeat' (first|exact vw|refine tC ⟨by decide,by decide⟩ (by omega) (by omega) (by repeat (first|exact ab|refine Eq.trans (aa (by omega)) ?_)) (by first|exact bd aj (aF b7.h)|exact bd aj lA.h|exact jF (bF (by omega) (by omega) (by omega))|exact yF.h _ (bF (by omega) (by omega) (by omega))|(refine cg ?_;repeat (first|exact aR|refine au (by first|exact Br.h _ aj|exact cz (bF (by omega) (by omega) (by omega))) ?_))) ?_|refine we ⟨by decide,by decide⟩ (by omega) (by omega) (by repeat (first|exact ab|refine Eq.trans (aa (by omega)) ?_)) inferInstance ?_))
 (hm:lk L mp=some (.map (nP k (gs s aH b) (nK B) rs) (bb k b rs).length):=by repeat (first|exact ab|refine Eq.trans (aa (by omega)) ?_))
 (hsr:lk L s=some (ro e b):=by repeat (first|exact ab|refine Eq.trans (aa (by omega)) ?_))
 (hrows:∀j,j<rs.length->j≠i3 k rs->lk L (B+j)=(rs[j]?).map fun x=>ro e x.2:=by
  intro j hj hne
  repeat (refine Eq.trans (aa (by omega)) ?_)
  rw[fe,if_pos (by omega)];congr 2;omega) :
 aX P kk ⟨an F,wd L n lg nl,[]⟩ ⟨an F',wd (A++((mp,some (jf B (bb k b rs)))::eR e B (bb k b rs) 0)) ((bb k b rs).length+B) [] 0,[]⟩:=by
 refine PQ (k:=k) (b:=b) (s:=s) hk hmp hs hsn hn hF (fun m o h=>?_) (fun p hp=>?_) hm hsr hrows
 ·obtain⟨h1,h2⟩:=hA.mem _ (bP h);obtain⟨h2,h3⟩:=h2 _ rfl;rcases h2 with⟨q1,q2,q3⟩|⟨rfl,q⟩
  ·exact⟨h1.1,h1.2,q3,h3⟩
  have:=h1.1;omega
 exact(hA.mem p hp).1
end
theorem UG{k:Int}{S:gH}{c:Nat}:lP Tryz.prog 3 (.int .i64 k) false (some (aA (fun _=>kV) S 0,c)) (some (.int .i64 0))=some (.val (some (.int .i64 ((av k S).getD 0)))):=by
 rw[wk (P:=Tryz.prog) (T:=3) Tryz.underlying3 (f:=kV) k S (c:=c) (z:=.int .i64 0) (ok:=false)];cases av k S<;>rfl
theorem Va{k v:Int}{S:gH}{W:XW}{r:Nat}:lG Tryz.prog W r 3 (.int .i64 k) (.int .i64 v) (some (.map (aA (fun _=>kV) S 0) S.length))=some (.mod undef (W.put r (some (.map (aA (fun _=>kV) (bb k v S) 0) (bb k v S).length)))):=Fd Tryz.underlying3 (f:=kV) v
section
variable {β:Type} [El β] {k:Int} {rs:List (Int×List β)} {B c d i0:Nat} {l0:List β} {z:Value}
theorem vp{W:XW}{r:Nat}{v:Value}(b:List β):lG Tryz.prog W r 3 (.int .i64 k) v (some (.map (aA (nK B) rs 0) rs.length))=some (.mod undef (W.put r (some (.map (nP k v (nK B) rs) (bb k b rs).length)))):=Mw Tryz.underlying3 b
theorem vM{W:XW}{r:Nat}{v:Value}(b:List β)(h:dg k rs 0=some (i0,l0)):lG Tryz.prog W r 3 (.int .i64 k) v (some (.map (aA (iL B d i0) rs 0) rs.length))=some (.mod undef (W.put r (some (.map (nP k v (nK B) rs) (bb k b rs).length)))):=by
 rw[<-FQ (f:=iL B d i0) (g:=nK B) fun q x _ h2=>by
  unfold iL;rw[if_neg fun e=>h2 (by unfold i3;rw[h];exact e)]]
 exact Mw Tryz.underlying3 b
theorem E0(h:dg k rs 0=none):i3 k rs=rs.length:=by unfold i3;rw[h]
theorem Ez(h:dg k rs 0=some (i0,l0)):i3 k rs=i0/\i0<rs.length/\rs[i0]?=some (k,l0)/\av k rs=some l0:=by
 have hs:=eY h;rw[Zn,Nat.zero_add]at hs;exact⟨by unfold i3;rw[h],hs.2.1,hs.2.2,by rw[<-ij k rs 0,h];rfl⟩
end
theorem mf{P:Program}{all:Array Oper}{ms:List Nat}{rs l:List bJ}{r:bJ}{i:Nat}(u:List Nat)(hh:dJ ms i rs 0=u)(hw:ia all r.s.fr r.o=some true)(hu:(u.all fun n=>Nat.blt n r.s.W.next||Nat.ble r.s'.W.next n)=true)(hc:BL r.o.op=true)
 (hx:fq (bU P r.s.fr (dv r.s.W u) r.o.type r.o.op)=true) (h2:ji P all ms rs l (i+1)=true):ji P all ms rs (r::l) i=true:=by
 refine aI ?_ h2;rw[hh,hw];unfold ox;simp only;rw[hu,hc,hx];simp
theorem qc{W:XW}{n:Nat}:dv W [n]=W.put n none:=rfl
theorem wI{P:Program}[hM:kJ P]{N k:Nat}{s s':XS}{Q:XQ}{id:Nat}{ops:Array Oper}{rs:List bJ}{p:Prop}(f:p)(q:Q .norm s')(h:p->aW P (cd P (bc [] []) 1) N none ops ops.toList s=some (rs,s'):=by intro hf;simp(disch:=first|decide|omega|(simp only[Yh,List.length_cons,List.length_nil,Yk,Ym,Yo]<;>omega)|(simp(disch:=first|decide|omega) only[ae,ab,aa,ci.eq_1];done)) only[hf,aW.eq_1,aW.eq_2,iH.eq_1,dI.eq_1,dI.eq_2,go_sem]<;>with_reducible rfl)(hk:jJ P ops s.ds.length rs=true:=by
 refine fK (by kernel_rfl) (by kernel_rfl) ?_
 repeat (refine aI (by first|(refine dj (by with_reducible rfl) (by kernel_rfl) (by kernel_rfl) ?_;simp(disch:=first|decide|omega|(simp only[Yh,List.length_cons,List.length_nil,Yk,Ym,Yo]<;>omega)|(simp(disch:=decide) only[ae,ab,aa,ci.eq_1];done)) only[fq.eq_1,cond_true,go_sem];done)|kernel_rfl) ?_)
 rfl):ay P N k (.region id ops true) s Q:=eu b0 (h f) hk q
def SA{γ:Type}(ok:Bool)(z:Value)(f:Nat->γ->Value):Option (Nat×γ)->Option XR
 |some (i,b)=>some (.val (some (oH ok (f i b) true)))
 |none=>some (.val (some (oH ok z false)))
theorem NA{γ:Type}{f:Nat->γ->Value}{k:Int}{l:List (Int×γ)}{c:Nat}{z:Value}{ok:Bool}:lP Tryz.prog 3 (.int .i64 k) ok (some (aA f l 0,c)) (some z)=SA ok z f (dg k l 0):=by
 rw[Mk (P:=Tryz.prog) (T:=3) Tryz.underlying3,<-ij k l 0];cases dg k l 0 with
 |none=>rfl
 |some q=>obtain⟨i,b⟩:=q;rfl
theorem IE{W:XW}{len n cap s by_:Nat}{e:TypeId}{src:List Value}{o:Option ag}:oT W len n cap s by_ e src o none=none:=rfl
theorem JW{q:Option XR}:qT none q=q:=rfl
theorem K0{β:Type}{B d i:Nat}{l:List β}:iL B d i i l=gs d aH l:=if_pos rfl
abbrev JS(s:gH):ag:=.map (aA (fun _=>kV) s 0) s.length
instance {s:gH}:lA Tryz.prog (JS s):=⟨fun T hT=>iw (jO.bare hT (mM (fun _ b=>(inferInstance:Br (kV b)).h) s 0))⟩
instance {s:cP}:lA Tryz.prog (rV s):=⟨Hq s⟩
attribute [go_sem high] UG Va
attribute [go_sem 5000] NA
attribute [go_sem] SA.eq_1 SA.eq_2 K0 IE JW
attribute [go_sem] iE
attribute [go_sem] u9.eq_1 xR.eq_1 uT.eq_1 wW.eq_1 wZ.eq_1 BV.eq_1
attribute [go_sem] JS jf List.cons_append List.nil_append
set_option pp.deepTerms true
set_option pp.maxSteps 1000000
abbrev yC(r:List (Nat×Option Value)):List (Nat×Option Value):=(0,some (.pointer (some ⟨0,0,none⟩)))::(3,some (.pointer (some ⟨2,0,none⟩)))::(5,some (.map (some 3)))::(6,some (.map (some 4)))::r
abbrev uy(u:List Ce)(x:Ce)(s:gH)(r:List (Nat×Option ag)):List (Nat×Option ag):=He u ((2,some (j8 x))::(3,some (JS s))::r)
abbrev MC(m:cP):List (Nat×Option ag):=(4,some (jf 8 m))::eR 3 8 m 0
abbrev Bh(s:Sd):ag:=.cells [.int .i64 s.1,.int .i64 s.2] 60 (0,0)
abbrev DH(r:List (Nat×Option Value)):List (Nat×Option Value):=(0,some (.pointer (some ⟨0,0,none⟩)))::(3,some (.pointer (some ⟨2,0,none⟩)))::(13,some (.pointer (some ⟨5,0,none⟩)))::(73,some (.pointer (some ⟨4,0,none⟩)))::r
abbrev Bo(u:List Ce)(x:Ce)(M:cP)(js:List Nat):List (Nat×Option ag):=He u [(2,some (j8 x)),(3,some (rV M)),(4,some (.iter 3 M.length js M.length)),(5,some (.cells [.map (some 6)] 181 (0,0)))]
abbrev Ul(m:cP):List (Nat×Option ag):=(6,some (jf 8 m))::eR 3 8 m 0
attribute [go_sem] yC uy MC Bh DH Bo Ul
theorem M1{P:Program}{k:Nat}{s:XS}:aX P k s s:=fun N ρ0 W0 w0 e ex a w h0 h1 h2 hc=>hc
theorem qb{n i c:Nat}{z:Zs}{s:gH}{m:cP}(hz:ZI n i c z)(hr:Rz z s m):m.length<=c/\(∀p∈m,p.2.length<=c)/\s.length<=c/\∀k,-(c:Int)<=(av k s).getD 0/\(av k s).getD 0<=c:=by
 have hsl:s.length=z.ids.length:=by rw[<-hr.ks,Yv]
 have hml:m.length=z.ids.length:=by rw[<-hr.km,Yv]
 have hf:=hz.few;refine⟨by omega,fun p hp=>?_,by omega,fun k=>?_⟩
 ·obtain⟨j,hj,rfl⟩:=YL hp;obtain⟨l,a1,a2,_⟩:=hr.met j (by omega);rw[Yl hj]at a1;rw[Option.some.inj a1];have:=hz.man j (by omega);show l.length<=c;omega
 cases e:av k s with
 |none=>show -(c:Int)<=0/\(0:Int)<=c;omega
 |some v=>
  obtain⟨j,hj,e2⟩:=YL (eK e);have h1:=hr.sums j (by omega);rw[Yl hj,e2]at h1;have:=hz.sum j (by omega);rw[<-(Prod.mk.inj (Option.some.inj h1)).2]at this;exact this
set_option maxHeartbeats 4000000 in
theorem IT(u:List Ce)(x:Ce)(hu:Uq u)(hb:Qz u x)(hx:0<x.sd.length):Ft 64 [jR x] u (.int .i64 (ly u x)):=by
 have hfew:=hb.few;obtain⟨w1,w2⟩:=Tk (u:=u) hx;refine Wu Tryz.func64 Tryz.results64 (h:=?_);refine rs ?_;refine rs ?_;refine rS ?_;refine fr (fun i:Nat=>⟨an (yC [(21,some (sl x.sd)),(22,some (.int .i64 (x.sd.length:Nat))),(23,some (.int .i64 (i:Nat)))]),wd (uy u x (ie u x i).1 []++MC (ie u x i).2) ((ie u x i).2.length+8) [] 0,[]⟩)
  (fun i=>i<=x.sd.length/\ZI x.sd.length i (64*i) (d8 u x i)) (fun i=>x.sd.length-i) 0 ⟨Yq _,⟨rfl,rfl,rfl,Y4,Nat.le_refl _,fun k h=>absurd h (YI k),fun k h=>absurd h (YI k),fun k h=>absurd h (YI k)⟩⟩ (fun i hv h=>?_) (fun i hv h=>?_) (h0:=by
   show aX _ _ _ ⟨an (yC [(21,some (sl x.sd)),(22,some (.int .i64 (x.sd.length:Nat))),(23,some (.int .i64 ((0:Nat):Int)))]),wd (uy u x [] [(4,some (jf 8 []))]) 8 [] 0,[]⟩;exact bg)
 ·obtain⟨hi,hz⟩:=hv;have hlt:i<x.sd.length:=by omega
  obtain⟨hjb,hrz⟩:=tB (u:=u) (x:=x) i hi;obtain⟨q,hq,hat⟩:=hb.at_ i hlt;have hys:=hb.ys i hlt;have hsg:=hb.sg i hlt;have hk:av (x.sd.getD i default).1 (gC u)=some (u.getD q default):=by
   rcases wV hu.srt hu.inj (x.sd.getD i default).1 with⟨e,_⟩|⟨q',_,e,e2⟩
   ·omega
   rw[e2,show q'=q by omega]
  have hyd:fG u x i=(u.getD q default).sd:=by unfold fG;rw[hat,Yt]
  have e0:ie u x (i+1)=oo i (x.sd.getD i default).2 (fG u x i) (ie u x i) (fG u x i).length:=rfl;have ez:d8 u x (i+1)=lv i (x.sd.getD i default).2 (fG u x i) (i6 (d8 u x i) i) (fG u x i).length:=rfl;have hz1:ZI x.sd.length (i+1) (64*i) (i6 (d8 u x i) i):=⟨hz.l1,hz.l2,hz.l3,by show(List.set _ _ _).length=_;rw[Yo];exact hz.l4,hz.few,hz.sum,hz.man,fun k hk=>by have:=hz.fst k hk;show 0<=(d8 u x i).firsts.getD k default/\(d8 u x i).firsts.getD k default<_;omega⟩;have hrs:=fun j=>BU (p:=ie u x i) (sg:=(x.sd.getD i default).2) (ys:=fG u x i) (hjb.set hlt) (Gq hrz) j
  obtain⟨g1,g2,g3,g4⟩:=qb hz hrz;rw[hyd]at e0 ez hys hsg hrs;generalize i6 (d8 u x i) i=z0 at hz1 ez hrs;generalize ie u x i=p0 at g1 g2 g3 g4 hrs e0 ⊢;refine bs (rs ?_);refine rX hk ?_;generalize hyy:u.getD q default=y at ez hys hsg hrs e0 ⊢;generalize hsd:x.sd.getD i default=sd at hsg hrs ez e0 ⊢;refine cv (yC [(21,some (sl x.sd)),(22,some (.int .i64 (x.sd.length:Nat))),(23,some (.int .i64 (i:Nat))),(7,some (.int .i64 (i:Nat))),(8,some (.pointer (some ⟨5,0,none⟩))),(35,some (sl y.sd)),(36,some (.int .i64 (y.sd.length:Nat))),(37,some (.int .i64 ((0:Nat):Int)))]) (uy u x p0.1 [(5,some (Bh sd))]++MC p0.2) (p0.2.length+8) ?_ (hl:=WP (p0.2.length+8) 5);refine fr (fun j:Nat=>⟨an (yC [(21,some (sl x.sd)),(22,some (.int .i64 (x.sd.length:Nat))),(23,some (.int .i64 (i:Nat))),(7,some (.int .i64 (i:Nat))),(8,some (.pointer (some ⟨5,0,none⟩))),(35,some (sl y.sd)),(36,some (.int .i64 (y.sd.length:Nat))),(37,some (.int .i64 (j:Nat)))]),wd (uy u x (oo i sd.2 y.sd p0 j).1 [(5,some (Bh sd))]++MC (oo i sd.2 y.sd p0 j).2) ((oo i sd.2 y.sd p0 j).2.length+8) [] 0,[]⟩)
   (fun j=>j<=y.sd.length/\ZI x.sd.length (i+1) (64*i+j) (lv i sd.2 y.sd z0 j)) (fun j=>y.sd.length-j) 0 ⟨Yq _,hz1⟩ (fun j hv h=>?_) (fun j hv h=>?_) (h0:=M1)
  ·obtain⟨hj,hzj⟩:=hv;have hjl:j<y.sd.length:=by omega
   obtain⟨_,hrj⟩:=hrs j;have hsj:=hsg j hjl;have e2:oo i sd.2 y.sd p0 (j+1)=(aS sd.2 (oo i sd.2 y.sd p0 j).1 (y.sd.getD j default),b8 (y.sd.getD j default).1 (i:Int) (oo i sd.2 y.sd p0 j).2):=rfl;have e3:lv i sd.2 y.sd z0 (j+1)=gG i sd.2 (lv i sd.2 y.sd z0 j) (y.sd.getD j default):=rfl;have hz3:ZI x.sd.length (i+1) (64*i+(j+1)) (lv i sd.2 y.sd z0 (j+1)):=by rw[e3];exact hzj.step hlt hsj
   obtain⟨k1,k2,k3,k4⟩:=qb hzj hrj;generalize oo i sd.2 y.sd p0 j=p at e2 k1 k2 k3 k4 ⊢;obtain⟨S,M⟩:=p;simp only at e2 k1 k2 k3 k4 ⊢;generalize hr:y.sd.getD j default=r at hsj e2;have k4:=k4 r.1;unfold aS at e2;generalize hpr:sd.2*r.2=pr at hsj e2;refine bs (rs ?_);refine rf (And.intro hr hpr) ?_;cases hx1:dg r.1 M 0 with
   |none=>
    have hgk:=gm.1 hx1;have hpl:=E0 hx1;have hM:b8 r.1 (i:Int) M=bb r.1 [(i:Int)] M:=by unfold b8;rw[hgk];rfl
    have hup:=fun W rr v=>vp (W:=W) (r:=rr) (v:=v) (B:=8) (k:=r.1) (rs:=M) [(i:Int)]
    refine wI (And.intro hx1 hup) ?_;refine rl ?_;refine nx (j+1) ⟨by omega,hz3⟩ (by omega) ?_;rw[e2,hM];exact yR r.1 [(i:Int)] (M.length+10)
   |some q0=>
    obtain⟨i0,l0⟩:=q0;obtain⟨hpl,hi0,hget,hgk⟩:=Ez hx1;have hM:b8 r.1 (i:Int) M=bb r.1 (l0++[(i:Int)]) M:=by unfold b8;rw[hgk];rfl
    have hll:=k2 _ (eK hgk);simp only at hll;have hup:=fun W rr v=>vM (W:=W) (r:=rr) (v:=v) (B:=8) (d:=7) (l0++[(i:Int)]) hx1
    refine cv (yC [(21,some (sl x.sd)),(22,some (.int .i64 (x.sd.length:Nat))),(23,some (.int .i64 (i:Nat))),(7,some (.int .i64 (i:Nat))),(8,some (.pointer (some ⟨5,0,none⟩))),(35,some (sl y.sd)),(36,some (.int .i64 (y.sd.length:Nat))),(37,some (.int .i64 (j:Nat))),(10,some (.pointer (some ⟨M.length+8,0,none⟩)))]) ((7,(M[i0]?).map fun x=>ro 3 x.2)::(8+i0,none)::(uy u x (bb r.1 ((av r.1 S).getD 0+pr) S) [(5,some (Bh sd)),(M.length+8,some (Bh r))]++((4,some (.map (aA (iL 8 7 i0) M 0) M.length))::eR 3 8 M 0))) (M.length+9) ?_ (hl:=Mg i0 7);rw[hget];refine wI (And.intro hx1 (And.intro hup (YG (f:=fun x:Int×List Int=>ro 3 x.2) (a:=(r.1,l0))))) ?_ (hk:=by
     refine fK (by kernel_rfl) (by kernel_rfl) ?_;refine aI (by kernel_rfl) (aI (by kernel_rfl) ?_);refine mf [7] ?hhd (by kernel_rfl) (by kernel_rfl) rfl ?hhx ?_
     case hhd=>kernel_rfl
     case hhx=>simp(disch:=first|decide|omega|(simp only[Yh,List.length_cons,List.length_nil,Yk,Ym,Yo]<;>omega)|(simp(disch:=decide) only[ae,ab,aa,ci.eq_1];done)) only[qc,fq.eq_1,go_sem]
     repeat (refine aI (by first|(refine dj (by with_reducible rfl) (by kernel_rfl) (by kernel_rfl) ?_;simp(disch:=first|decide|omega|(simp only[Yh,List.length_cons,List.length_nil,Yk,Ym,Yo]<;>omega)|(simp(disch:=decide) only[ae,ab,aa,ci.eq_1];done)) only[fq.eq_1,cond_true,go_sem];done)|kernel_rfl) ?_)
     rfl)
    refine rl ?_;refine nx (j+1) ⟨by omega,hz3⟩ (by omega) ?_;rw[e2,hM];exact yR r.1 (l0++[(i:Int)]) (M.length+10)
  obtain⟨hj,hzj⟩:=hv;rw[show j=y.sd.length by omega]at hzj ⊢;refine rl ?_;refine nx (i+1) ⟨by omega,?_⟩ (by omega) ?_
  ·rw[ez];obtain⟨a1,a2,a3,a4,a5,a6,a7,a8⟩:=hzj;exact⟨a1,a2,a3,a4,by omega,fun k hk=>by have:=a6 k hk;omega,fun k hk=>by have:=a7 k hk;omega,a8⟩
  rw[e0];obtain⟨_,hrj⟩:=hrs y.sd.length;obtain⟨k1,k2,k3,k4⟩:=qb hzj hrj;generalize oo i sd.2 y.sd p0 y.sd.length=p at k1 ⊢;exact Yb 5
 obtain⟨hi,hz⟩:=hv;rw[show i=x.sd.length by omega]at hz ⊢;obtain⟨hjb,hrz⟩:=tB (u:=u) (x:=x) x.sd.length (Nat.le_refl _);obtain⟨g1,g2,g3,g4⟩:=qb hz hrz;have hel:=hjb.el;generalize ie u x x.sd.length=p at w1 w2 g1 g2 g3 g4 hel ⊢;obtain⟨S,M⟩:=p;simp only at w1 w2 g1 g2 g3 g4 hel ⊢;refine eD (jC (e:=3) (B:=8) (mp:=4) (A:=uy u x S []) (by decide) (by omega) (by omega) (fun q hq=>by have:=g2 q hq;show _<=4611686018427387904;omega) (fun q hq=>by simp only[YD,Yy,or_false]at hq;rcases hq with rfl|rfl|rfl|rfl<;>exact⟨by simp only;omega,by simp only;decide⟩) M.length 0 _ (Nat.zero_add _) (by repeat (first|exact ab|refine Eq.trans (aa (by decide)) ?_)) (fun j _ hj=>by
  repeat (refine Eq.trans (aa (by omega)) ?_)
  rw[fe,if_pos (by omega)];congr 2;omega) (fun m o hm=>by
  have hmm:=tw 8 hm;refine⟨by omega,?_⟩;have h4:lk (uy u x S []) 4=none:=rfl;by_cases e4:m=4
  ·rw[e4,h4]at hm;cases hm
  have hk:=bP hm;simp only[YD,Yy,or_false,Prod.mk.injEq,Option.some.injEq]at hk;rcases hk with⟨rfl,rfl⟩|⟨rfl,rfl⟩|⟨rfl,rfl⟩|⟨rfl,rfl⟩<;>repeat (first|exact ab|refine Eq.trans (aa (by decide)) ?_))) ?_
 refine cv (yC []) (uy u x S [(4,some (rV M))]) 5 ?_ (hl:=sw [(0,0),(1,1),(2,2),(3,3),(4,4)]);refine rS ?_;refine bl ?_;refine lp (fun y:m8 S.length=>⟨an (yC [(64,some (.pointer (some ⟨5,0,none⟩)))]),wd (uy u x S [(4,some (rV M)),(5,some (.iter 3 S.length y.js S.length))]) 6 [] 0,[]⟩) (fun y=>∀j∈y.js,∀k b,S[j]?=some (k,b)->b=0) (fun y=>S.length-y.js.length) (EZ _) (fun j hj=>by cases hj) (fun y hy=>?_);refine ak (cm ?_);refine A1 (x:=.tmp 64) (r:=5) (mp:=3) (rs:=S) (f:=fun _=>kV) y rfl rfl ?hx2 ?hr2 ?hm2 (fun hall=>?_) (fun j kk b hj hjn hjb=>?_)
 case hx2=>simp(disch:=decide) only[go_sem]
 case hr2=>simp(disch:=decide) only[go_sem]
 case hm2=>simp(disch:=decide) only[go_sem]
 ·refine⟨_,cu (by decide),bq b0 1 (s1:=?s1z) ?hz1 (cQ ?qz)⟩
  case hz1=>simp(disch:=decide) only[go_sem]<;>with_reducible rfl
  refine sf ?_;refine xe ?_;have hS:¬∃m∈S,m.2≠0:=fun⟨m,hm,h⟩=>by
   obtain⟨j,hj,hjm⟩:=YL hm;exact h (hy j (hall j hj) m.1 m.2 (by rw[<-hjm];exact Yl hj))
  obtain⟨w3,w4⟩:=w2 hS;refine rs ?_;refine rS ?_;refine bl ?_;refine lp (fun y:m8 M.length×cP=>⟨an (DH []),wd (Bo u x M y.1.js++Ul y.2) (y.2.length+8) [] 0,[]⟩) (fun y=>(∀j∈y.1.js,∀k l,M[j]?=some (k,l)->l.length=2)/\y.2=qq M y.1.js/\vC (2*y.1.js.length) y.2) (fun y=>M.length-y.1.js.length) (EZ _,[]) ⟨fun j hj=>(by cases hj),rfl,⟨Yq _,fun q hq=>(by cases hq)⟩⟩ (fun y hy=>?_) (h0:=by
   show aX _ _ _ ⟨an (DH []),wd (Bo u x M []++[(6,some (.map [] 0))]) 8 [] 0,[]⟩;exact sw [(0,0),(1,1),(2,2),(4,3),(8,4),(7,5),(6,6)])
  obtain⟨y,jn⟩:=y;obtain⟨htw,hje,hle⟩:=hy;simp only at htw hje hle;have hyl:=gp y.nd y.lt;have hjn:=hle.1;refine ak (cm ?_);refine A1 (x:=.tmp 73) (r:=4) (mp:=3) (rs:=M) (f:=fun _ l=>sl l) y rfl rfl ?hx3 ?hr3 ?hm3 (fun hall=>?_) (fun j kk l hj hjn1 hjb=>?_)
  case hx3=>simp(disch:=decide) only[go_sem]
  case hr3=>simp(disch:=first|decide|omega) only[go_sem]
  case hm3=>simp(disch:=first|decide|omega) only[go_sem]
  ·refine⟨_,cu (by decide),bq b0 1 (s1:=?s1y) ?hz3 (cQ ?qy)⟩
   case hz3=>simp(disch:=decide) only[go_sem]<;>with_reducible rfl
   refine sf ?_;refine xe ?_;have hM2:¬∃m∈M,m.2.length≠2:=fun⟨m,hm,h⟩=>by
    obtain⟨j,hj,hjm⟩:=YL hm;exact h (htw j (hall j hj) m.1 m.2 (by rw[<-hjm];exact Yl hj))
   have w5:=w4 hM2;have hnb:∀a b,b∈gU jn a↔LX M a b:=fun a b=>by rw[hje];exact Ok hall
   have hJ8:∀a,(gU jn a).length<=8192:=fun a=>by
    unfold gU;cases hg:av a jn with
    |none=>exact Yq _
    |some l=>
     have:=hle.2 _ (eK hg);show l.length<=8192;simp only at this;omega
   refine eD (jC (e:=3) (B:=8) (mp:=6) (A:=Bo u x M y.js) (by decide) (by omega) (by omega) (fun q hq=>by have:=hle.2 q hq;show _<=4611686018427387904;omega) (fun q hq=>by simp only[YD,Yy,or_false]at hq;rcases hq with rfl|rfl|rfl|rfl|rfl|rfl<;>exact⟨by simp only;omega,by simp only;decide⟩) jn.length 0 _ (Nat.zero_add _) (by repeat (first|exact ab|refine Eq.trans (aa (by decide)) ?_)) (fun j _ hj=>by
    repeat (refine Eq.trans (aa (by omega)) ?_)
    rw[fe,if_pos (by omega)];congr 2;omega) (fun m o hm=>by
    have hmm:=tw 8 hm;refine⟨by omega,?_⟩;have hk:=bP hm;simp only[YD,Yy,or_false,Prod.mk.injEq,Option.some.injEq]at hk;rcases hk with⟨rfl,rfl⟩|⟨rfl,rfl⟩|⟨rfl,rfl⟩|⟨rfl,rfl⟩|⟨rfl,rfl⟩|⟨rfl,rfl⟩<;>repeat (first|exact ab|refine Eq.trans (aa (by decide)) ?_))) ?_
   refine cv [(0,some (.pointer (some ⟨0,0,none⟩))),(3,some (.pointer (some ⟨2,0,none⟩))),(13,some (.pointer (some ⟨3,0,none⟩)))] [(0,some (fI 1 (sl (dP u)))),(1,some (eJ u)),(2,some (j8 x)),(3,some Lv),(4,some (rV jn))] 5 ?_ (hl:=sw [(0,0),(1,1),(2,2),(5,3),(6,4)]);refine rs ?_;refine rs ?_;refine rs ?_;refine cv [(0,some (.pointer (some ⟨0,0,none⟩))),(3,some (.pointer (some ⟨2,0,none⟩))),(16,some (.pointer (some ⟨6,0,none⟩))),(17,some (.pointer (some ⟨7,0,none⟩)))] (vL (fI 1 (sl (dP u))) (eJ u) (j8 x) jn []) 8 ?_;have hU:∀a∈(List.range x.sd.length).map (fun(a:Nat)=>(a:Int)),∀b∈gU jn a,b∈(List.range x.sd.length).map (fun(a:Nat)=>(a:Int)):=fun a _ b hb=>by
    obtain⟨q,hq,e⟩:=(hnb a b).1 hb;have:=hel q hq b (by rcases e with e|e<;>rw[e]<;>simp);exact List.mem_map.2 ⟨b.toNat,List.mem_range.2 (by omega),by show((b.toNat:Nat):Int)=b;omega⟩
   refine ak (cm (bq b0 1 (s1:=?sv) ?hv1 (e8 (f:=99) (args:=[.int .i64 0,.pointer (some ⟨6,0,none⟩),.pointer (some ⟨3,0,none⟩),.pointer (some ⟨7,0,none⟩)]) (S:=Ex (fI 1 (sl (dP u))) (eJ u) (j8 x) jn [] 0) (enters_of (by kernel_rfl)) rfl ?hv2 ?hv3 ?hv4)))
   case hv1=>simp(disch:=decide) only[go_sem]<;>with_reducible rfl
   case hv2=>simp(disch:=decide) only[go_sem];rfl
   case hv3=>exact AG _ _ _ jn _ hU hJ8 _ [] 0 (List.mem_map.2 ⟨0,List.mem_range.2 hx,rfl⟩) ZG (Nat.le_refl _)
   intro e W' ⟨S3,he,g0,g5,hp⟩;refine⟨_,_,he,cu (by decide),?_⟩;refine iz (mi (L:=vL (fI 1 (sl (dP u))) (eJ u) (j8 x) jn S3) (n':=8) (lg:=[]) (nl:=0) g5 g0) ?_;refine cQ ?_;have w6:=w5 (S3.map (·.1)) hp.nd fun a=>O4 hnb hp a
   rw[Yv]at w6;by_cases hc:S3.length=x.sd.length
   ·rw[if_pos hc]at w6;refine rS ?_;refine cf ?_;refine sk (rs ?_);refine rt ?_;rw[w6];exact⟨rfl,by simp(disch:=decide) only[ae,ab,aa],by simp(disch:=decide) only[ae,ab,aa]⟩
   rw[if_neg hc]at w6;refine rS ?_;refine ct ?_;refine rs ?_;refine rt ?_;rw[w6];exact⟨rfl,by simp(disch:=decide) only[ae,ab,aa],by simp(disch:=decide) only[ae,ab,aa]⟩
  refine⟨_,cu (by decide),bq b0 1 (s1:=?s1w) ?hz4 (cQ ?qw)⟩
  case hz4=>simp(disch:=decide) only[go_sem]<;>with_reducible rfl
  refine st (sk (bl ?_));have hfind:(aA (fun _ l=>sl l) M 0).find? (fun e=>Nat.beq e.born j)=some ⟨kV kk,sl l,j⟩:=by have:=mr (f:=fun _ (l:List Int)=>sl l) (i:=0) hjb;rw[Nat.zero_add]at this;exact this
  have hgl:(gF y j hj hjn1).js.getLast?=some j:=by show(y.js++[j]).getLast?=some j;simp
  have hlt:=uP y hj hjn1;have hjs2:(gF y j hj hjn1).js=y.js++[j]:=rfl;have hjl2:(gF y j hj hjn1).js.length=y.js.length+1:=by rw[hjs2];simp
  have hyl2:=gp (gF y j hj hjn1).nd (gF y j hj hjn1).lt;generalize gF y j hj hjn1=y2 at hgl hlt hjs2 hjl2 hyl2 ⊢;have hl64:=g2 _ (YO hjb);simp only at hl64;refine rf (And.intro hgl hfind) ?_;by_cases hb2:l.length≠2
  ·refine rS ?_;refine ct ?_;refine rs ?_;refine rt ?_;rw[w3 ⟨(kk,l),YO hjb,hb2⟩];exact⟨rfl,by simp(disch:=first|decide|omega) only[ae,ab,aa],by simp(disch:=first|decide|omega) only[ae,ab,aa]⟩
  have hb2:l.length=2:=Decidable.not_not.1 hb2;refine rS ?_;refine cf ?_;refine sk ?_;have hl2:l=[l.getD 0 default,l.getD 1 default]:=by obtain⟨p,q,rfl⟩:=Ib hb2;rfl
  have hle1:vC (2*y.js.length+1) (b8 (l.getD 0 default) (l.getD 1 default) jn):=yi hle;have hle2:vC (2*y2.js.length) (b8 (l.getD 1 default) (l.getD 0 default) (b8 (l.getD 0 default) (l.getD 1 default) jn)):=by rw[hjl2];exact yi hle1
  have hJ2:b8 (l.getD 1 default) (l.getD 0 default) (b8 (l.getD 0 default) (l.getD 1 default) jn)=qq M y2.js:=by rw[hjs2,FS hjb,<-hje,hl2];rfl
  refine jP ⟨an (DH [(15,some (sl l))]),wd (Bo u x M y2.js++Ul (b8 (l.getD 0 default) (l.getD 1 default) jn)) ((b8 (l.getD 0 default) (l.getD 1 default) jn).length+8) [] 0,[]⟩ ?_ ?_
  ·cases hxa:dg (l.getD 0 default) jn 0 with
   |none=>
    have hgk:=gm.1 hxa;have hpl:=E0 hxa;have hM:b8 (l.getD 0 default) (l.getD 1 default) jn=bb (l.getD 0 default) [(l.getD 1 default)] jn:=by unfold b8;rw[hgk];rfl
    have hup:=fun W rr w=>vp (W:=W) (r:=rr) (v:=w) (B:=8) (k:=(l.getD 0 default)) (rs:=jn) [(l.getD 1 default)]
    refine wI (And.intro hxa hup) ?_;rw[hM];exact yR (l.getD 0 default) [(l.getD 1 default)] (jn.length+9)
   |some q0=>
    obtain⟨i0,l0⟩:=q0;obtain⟨hpl,hi0,hget,hgk⟩:=Ez hxa;have hM:b8 (l.getD 0 default) (l.getD 1 default) jn=bb (l.getD 0 default) (l0++[(l.getD 1 default)]) jn:=by unfold b8;rw[hgk];rfl
    have hll:=hle.2 _ (eK hgk);simp only at hll;have hup:=fun W rr w=>vM (W:=W) (r:=rr) (v:=w) (B:=8) (d:=7) (l0++[(l.getD 1 default)]) hxa
    refine cv (DH [(15,some (sl l))]) ((7,(jn[i0]?).map fun x=>ro 3 x.2)::(8+i0,none)::(Bo u x M y2.js++((6,some (.map (aA (iL 8 7 i0) jn 0) jn.length))::eR 3 8 jn 0))) (jn.length+8) ?_ (hl:=Mg i0 7);rw[hget];refine wI (And.intro hxa (And.intro hup (YG (f:=fun x:Int×List Int=>ro 3 x.2) (a:=((l.getD 0 default),l0))))) ?_ (hk:=by
     refine fK (by kernel_rfl) (by kernel_rfl) ?_;refine mf [7] ?hhd (by kernel_rfl) (by kernel_rfl) rfl ?hhx ?_
     case hhd=>kernel_rfl
     case hhx=>simp(disch:=first|decide|omega|(simp only[Yh,List.length_cons,List.length_nil,Yk,Ym,Yo]<;>omega)|(simp(disch:=decide) only[ae,ab,aa,ci.eq_1];done)) only[qc,fq.eq_1,go_sem]
     repeat (refine aI (by first|(refine dj (by with_reducible rfl) (by kernel_rfl) (by kernel_rfl) ?_;simp(disch:=first|decide|omega|(simp only[Yh,List.length_cons,List.length_nil,Yk,Ym,Yo]<;>omega)|(simp(disch:=decide) only[ae,ab,aa,ci.eq_1];done)) only[fq.eq_1,cond_true,go_sem];done)|kernel_rfl) ?_)
     rfl)
    rw[hM];exact yR (l.getD 0 default) (l0++[(l.getD 1 default)]) (jn.length+9)
  generalize b8 (l.getD 0 default) (l.getD 1 default) jn=J1 at hle1 hle2 hJ2 ⊢;have hjn1l:=hle1.1;cases hxb:dg (l.getD 1 default) J1 0 with
  |none=>
   have hgk:=gm.1 hxb;have hpl:=E0 hxb;have hM:b8 (l.getD 1 default) (l.getD 0 default) J1=bb (l.getD 1 default) [(l.getD 0 default)] J1:=by unfold b8;rw[hgk];rfl
   have hup:=fun W rr w=>vp (W:=W) (r:=rr) (v:=w) (B:=8) (k:=(l.getD 1 default)) (rs:=J1) [(l.getD 0 default)]
   refine wI (And.intro hxb hup) ?_;rw[hM]at hJ2 hle2;refine nx (y2,bb (l.getD 1 default) [(l.getD 0 default)] J1) ⟨fun j' hj' k' l' h'=>?_,hJ2,hle2⟩ hlt (yR (l.getD 1 default) [(l.getD 0 default)] (J1.length+9));rw[hjs2]at hj';rcases List.mem_append.1 hj' with z|z
   ·exact htw j' z k' l' h'
   rw[List.mem_singleton.1 z,hjb]at h';cases h';exact hb2
  |some q0=>
   obtain⟨i0,l0⟩:=q0;obtain⟨hpl,hi0,hget,hgk⟩:=Ez hxb;have hM:b8 (l.getD 1 default) (l.getD 0 default) J1=bb (l.getD 1 default) (l0++[(l.getD 0 default)]) J1:=by unfold b8;rw[hgk];rfl
   have hll:=hle1.2 _ (eK hgk);simp only at hll;have hup:=fun W rr w=>vM (W:=W) (r:=rr) (v:=w) (B:=8) (d:=7) (l0++[(l.getD 0 default)]) hxb
   refine cv (DH [(15,some (sl l))]) ((7,(J1[i0]?).map fun x=>ro 3 x.2)::(8+i0,none)::(Bo u x M y2.js++((6,some (.map (aA (iL 8 7 i0) J1 0) J1.length))::eR 3 8 J1 0))) (J1.length+8) ?_ (hl:=Mg i0 7);rw[hget];refine wI (And.intro hxb (And.intro hup (YG (f:=fun x:Int×List Int=>ro 3 x.2) (a:=((l.getD 1 default),l0))))) ?_ (hk:=by
    refine fK (by kernel_rfl) (by kernel_rfl) ?_;refine mf [7] ?hhd (by kernel_rfl) (by kernel_rfl) rfl ?hhx ?_
    case hhd=>kernel_rfl
    case hhx=>simp(disch:=first|decide|omega|(simp only[Yh,List.length_cons,List.length_nil,Yk,Ym,Yo]<;>omega)|(simp(disch:=decide) only[ae,ab,aa,ci.eq_1];done)) only[qc,fq.eq_1,go_sem]
    repeat (refine aI (by first|(refine dj (by with_reducible rfl) (by kernel_rfl) (by kernel_rfl) ?_;simp(disch:=first|decide|omega|(simp only[Yh,List.length_cons,List.length_nil,Yk,Ym,Yo]<;>omega)|(simp(disch:=decide) only[ae,ab,aa,ci.eq_1];done)) only[fq.eq_1,cond_true,go_sem];done)|kernel_rfl) ?_)
    rfl)
   rw[hM]at hJ2 hle2;refine nx (y2,bb (l.getD 1 default) (l0++[(l.getD 0 default)]) J1) ⟨fun j' hj' k' l' h'=>?_,hJ2,hle2⟩ hlt (yR (l.getD 1 default) (l0++[(l.getD 0 default)]) (J1.length+9));rw[hjs2]at hj';rcases List.mem_append.1 hj' with z|z
   ·exact htw j' z k' l' h'
   rw[List.mem_singleton.1 z,hjb]at h';cases h';exact hb2
 refine⟨_,cu (by decide),bq b0 1 (s1:=?s1n) ?hz2 (cQ ?qn)⟩
 case hz2=>simp(disch:=decide) only[go_sem]<;>with_reducible rfl
 refine st (sk (bl ?_));have hfind:(aA (fun _=>kV) S 0).find? (fun e=>Nat.beq e.born j)=some ⟨kV kk,kV b,j⟩:=by have:=mr (f:=fun _=>kV) (i:=0) hjb;rw[Nat.zero_add]at this;exact this
 have hgl:(gF y j hj hjn).js.getLast?=some j:=by show(y.js++[j]).getLast?=some j;simp
 have hlt:=uP y hj hjn;have hjs2:(gF y j hj hjn).js=y.js++[j]:=rfl;generalize gF y j hj hjn=y2 at hgl hlt hjs2 ⊢;refine rf (And.intro hgl hfind) ?_;refine rs ?_;refine cp (fun hb0=>?_) (fun hb0=>?_)
 ·refine rs ?_;refine rt ?_;rw[w1 ⟨(kk,b),YO hjb,hb0⟩];exact⟨rfl,by simp(disch:=decide) only[ae,ab,aa],by simp(disch:=decide) only[ae,ab,aa]⟩
 refine ap ?_;refine nx y2 (fun j' hj' k' b' h'=>?_) hlt;rw[hjs2]at hj';rcases List.mem_append.1 hj' with q|q
 ·exact hy j' q k' b' h'
 rw[List.mem_singleton.1 q,hjb]at h';cases h';exact Decidable.not_not.1 hb0
theorem I6{o:List Ce}(hs:bG ar o):∀i,i<=o.length->(dw o i).Pairwise fun a b=>a.id<b.id
 |0,_=>List.Pairwise.nil
 |i+1,hi=>by
  have ih:=I6 hs i (by omega);unfold dw;split
  ·rename_i h;have hk:=(mw.1 ((A8 hs (i:=i) (by omega)).2 h));refine List.pairwise_append.2 ⟨ih,List.pairwise_singleton _ _,fun a ha b hb=>?_⟩;rw[List.mem_singleton.1 hb];have h1:=hk a ha;obtain⟨j,h2,rfl⟩:=A4 (by omega) (tk i (by omega) a ha);have:=nV hs (i:=j) (j:=i) h2 (by omega);omega
  exact ih
theorem V0{u:List Ce}(h:u.Pairwise fun a b=>a.id<b.id):Uq u:=by
 have hlt:∀i j,i<j->j<u.length->(u.getD i default).id<(u.getD j default).id:=fun i j hij hj=>by
  rw[Yn,Yn,Yl hj,Yl (by omega)];exact List.pairwise_iff_getElem.1 h i j (by omega) hj hij
 refine⟨?_,fun i j hi hj e=>?_⟩
 ·clear hlt
  induction h with
  |nil=>trivial
  |cons h1 _ ih=>exact⟨fun y hy=>by have:=h1 y hy;show _<=_;exact Int.le_of_lt this,ih⟩
 rcases ZE i j with q|q|q
 ·have:=hlt i j q hj;omega
 ·exact q
 have:=hlt j i q hi;omega
theorem XA(l:List Ce):Uq (kY l):=V0 (I6 qj _ (Nat.le_refl _))
set_option maxHeartbeats 4000000 in
theorem Rq(l:List Ce)(hl:l.length<=1000000)(hs:∀c∈l,c.sd.length<=1000000):Fn Tryz.prog 32 [kF l] (.ret (.tuple #[.int .i64 (fm l).1,.int .i64 (fm l).2])):=by
 have ho:=gB _ l (Nat.le_refl _);have hso:∀c∈aK l,c.sd.length<=1000000:=fun c hc=>by
  obtain⟨c0,h1,rfl⟩:=od _ l (Nat.le_refl _) c hc;simp only;rw[qg];exact hs c0 h1
 refine ir Tryz.func32 Tryz.results32 (h:=?_);refine rs ?_;by_cases h0:4000<l.length
 ·refine rS ?_;refine ct ?_;refine rs ?_;refine rt ?_;rw[fm,if_pos h0];rfl
 refine rS ?_;refine cf ?_;refine sk ?_;have hof:=UE l hl hs;have huq:=XA l;have hue:kY l=dw (aK l) (aK l).length:=rfl;have hsrt:=qj (l:=l);refine rc (bh hof) ?_;refine rc (b1 (Bl l hl hs)) ?_;unfold fm;rw[if_neg h0];generalize aK l=o at ho hso hue hsrt ⊢;generalize kY l=u at huq hue ⊢;refine rS ?_;refine fr (fun i:Nat=>⟨an [(4,some (.pointer (some ⟨1,0,none⟩))),(5,some (.int .i64 (if i=0 then 0 else(o.getD (i-1) default).id))),(6,some (sl o)),(22,some (sl o)),(23,some (.int .i64 (o.length:Nat))),(24,some (.int .i64 (i:Nat)))],wd [(1,some (fI 2 (sl (dP u)))),(2,some (eJ u))] 3 [] 0,[]⟩) (fun i=>i<=o.length/\jH (lz o u) i=none) (fun i=>o.length-i) 0 ⟨Yq _,rfl⟩ (fun i hv h=>?_) (fun i hv h=>?_) (h0:=by rw[if_pos rfl];exact bg)
 ·obtain⟨hi,hn⟩:=hv;have hsi:=hso _ (bn (l:=o) (i:=i) (by omega));have hlast:(o.getD i default).id<=(if i=0 then 0 else(o.getD (i-1) default).id)↔((o.getD i default).id<1\/(0<i/\(o.getD i default).id=(o.getD (i-1) default).id)):=by
   by_cases e:i=0
   ·rw[if_pos e];omega
   rw[if_neg e];have h1:=(lI (l5 hn (i-1) (by omega))).1;have h2:=nV hsrt (i:=i-1) (j:=i) (by omega) (by omega);have h3:¬(o.getD (i-1) default).id<1:=fun q=>h1 (.inl q)
   omega
  have enx:(if i+1=0 then 0 else(o.getD (i+1-1) default).id)=(o.getD i default).id:=by rw[if_neg (by omega),Zl]
  generalize(if i=0 then(0:Int)else(o.getD (i-1) default).id)=last at hlast ⊢;refine bs (rs ?_);by_cases h1:(o.getD i default).id<1\/(0<i/\(o.getD i default).id=(o.getD (i-1) default).id)
  ·have e:lz o u i=some ((o.getD i default).id,20):=if_pos h1;have h2:=hlast.2 h1;refine rS ?_;refine ct ?_;refine rs ?_;refine rt ?_;rw[nA hn e (by omega)];rfl
  have h2:¬(o.getD i default).id<=last:=fun q=>h1 (hlast.1 q)
  refine rS ?_;refine cf ?_;refine sk (rs ?_);refine cv [(4,some (.pointer (some ⟨1,0,none⟩))),(5,some (.int .i64 (o.getD i default).id)),(6,some (sl o)),(8,some (.pointer (some ⟨3,0,none⟩))),(22,some (sl o)),(23,some (.int .i64 (o.length:Nat))),(24,some (.int .i64 (i:Nat)))] [(1,some (fI 2 (sl (dP u)))),(2,some (eJ u)),(3,some (j8 (o.getD i default)))] 4 ?_;have hgo:=Jo (w:=1) (b:=2) (W:=wd [(1,some (fI 2 (sl (dP u)))),(2,some (eJ u)),(3,some (j8 (o.getD i default)))] 4 [] 0) (xs:=[jR (o.getD i default)]) (v:=.int .i64 (dt u (o.getD i default))) (u:=u) (by simp(disch:=decide) only[ae,ab,aa]) (by simp(disch:=decide) only[ae,ab,aa]) (by decide);refine lB hgo (bh (Ju (Qf u (o.getD i default) huq hsi))) ?_;by_cases h3:dt u (o.getD i default)=0
  ·have e:lz o u i=none:=by rw[lz,if_neg h1,if_neg (fun q=>q h3)]
   refine rs ?_;refine cf ?_;refine ap (rl ?_);refine nx (i+1) ⟨by omega,(kO hn).trans e⟩ (by omega) ?_;rw[enx];exact sw [(1,1),(2,2)]
  have e:lz o u i=some ((o.getD i default).id,dt u (o.getD i default)):=by rw[lz,if_neg h1,if_pos h3]
  refine rs ?_;refine ct ?_;refine rs ?_;refine rt ?_;rw[nA hn e (by omega)]
 obtain⟨hi,hn⟩:=hv;rw[show i=o.length by omega]at hn ⊢;rw[hn];have hall:∀j,j<o.length->¬((o.getD j default).id<1\/(0<j/\(o.getD j default).id=(o.getD (j-1) default).id))/\dt u (o.getD j default)=0:=fun j hj=>lI (l5 hn j hj)
 have hu2:u=o:=by rw[hue,qx (fun j hj q=>(hall j hj).1 (.inr q)) _ (Nat.le_refl _),List.take_length]
 subst hu2;have hf:∀c∈u,dt u c=0:=fun c hc=>by
  obtain⟨j,hj,rfl⟩:=YL hc;have:=(hall j hj).2;rw[Yn,Yl hj]at this;exact this
 refine rS ?_;refine fr (fun i:Nat=>⟨an [(4,some (.pointer (some ⟨1,0,none⟩))),(45,some (sl u)),(46,some (.int .i64 (u.length:Nat))),(47,some (.int .i64 (i:Nat)))],wd [(1,some (fI 2 (sl (dP u)))),(2,some (eJ u))] 3 [] 0,[]⟩) (fun i=>i<=u.length/\jH (mY u) i=none) (fun i=>u.length-i) 0 ⟨Yq _,rfl⟩ (fun i hv h=>?_) (fun i hv h=>?_)
 ·obtain⟨hi,hn⟩:=hv;have hx:=bn (l:=u) (i:=i) (by omega);refine bs (rs ?_);by_cases h1:(u.getD i default).dim<2
  ·have e:mY u i=none:=if_pos h1;refine rs ?_;refine cf ?_;refine ap (rl ?_);exact nx (i+1) ⟨by omega,(kO hn).trans e⟩ (by omega) (sw [(1,1),(2,2)])
  have hpos:0<(u.getD i default).sd.length:=by have:=(xT (hf _ hx)).2.1;unfold tY at this;omega
  refine rs ?_;refine ct ?_;refine cv [(4,some (.pointer (some ⟨1,0,none⟩))),(11,some (.pointer (some ⟨3,0,none⟩))),(45,some (sl u)),(46,some (.int .i64 (u.length:Nat))),(47,some (.int .i64 (i:Nat)))] [(1,some (fI 2 (sl (dP u)))),(2,some (eJ u)),(3,some (j8 (u.getD i default)))] 4 ?_;have hgo:=Jo (w:=1) (b:=2) (W:=wd [(1,some (fI 2 (sl (dP u)))),(2,some (eJ u)),(3,some (j8 (u.getD i default)))] 4 [] 0) (xs:=[jR (u.getD i default)]) (v:=.int .i64 (ly u (u.getD i default))) (u:=u) (by simp(disch:=decide) only[ae,ab,aa]) (by simp(disch:=decide) only[ae,ab,aa]) (by decide);refine lB hgo (bh (Ju (IT u (u.getD i default) huq (Bt hf hx) hpos))) ?_;by_cases h3:ly u (u.getD i default)=0
  ·have e:mY u i=none:=by rw[mY,if_neg h1,if_neg (fun q=>q h3)]
   refine rs ?_;refine cf ?_;refine ap (rl ?_);exact nx (i+1) ⟨by omega,(kO hn).trans e⟩ (by omega) (sw [(1,1),(2,2)])
  have e:mY u i=some ((u.getD i default).id,ly u (u.getD i default)):=by rw[mY,if_neg h1,if_pos h3]
  refine rs ?_;refine ct ?_;refine rs ?_;refine rt ?_;rw[nA hn e (by omega)]
 obtain⟨hi,hn⟩:=hv;rw[show i=u.length by omega]at hn;refine rs ?_;refine rt ?_;rw[hn];rfl
end Go.Proofs.YthlkgmdkabelpaaGreat.X
