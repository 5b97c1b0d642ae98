/-
  Packed by program (tools/pack.py) out of the texts Y0 Y1 Y2 Y3. No condition.
-/

set_option linter.all false
namespace Go.Proofs.YthlkgmdkabelpaaGreat.St
section
variable {α:Type} (key:α->Int)
def bG:List α->Prop
 |[]=>True
 |x::l=>(∀y∈l,key x<=key y)/\bG l
def fk(k:Int)(l:List α):List α:=l.filter fun x=>decide (key x=k)
def uk(l m:List α):Prop:=bG key m/\∀k,fk key k m=fk key k l
def lN(x:α):List α->List α
 |[]=>[x]
 |y::l=>if key y<key x then y::lN x l else x::y::l
def bB:List α->List α
 |[]=>[]
 |x::l=>lN key x (bB l)
end
section
variable {α:Type} {key:α->Int}
theorem jg{k:Int}{a b:List α}:fk key k (a++b)=fk key k a++fk key k b:=List.filter_append ..
theorem wi{k:Int}:fk key k []=[]:=rfl
theorem cS{k:Int}{x:α}{l:List α}:fk key k (x::l)=if key x=k then x::fk key k l else fk key k l:=by
 unfold fk;rw[List.filter_cons];by_cases h:key x=k<;>simp[h]
theorem tt{k:Int}{l:List α}(h:∀x∈l,key x≠k):fk key k l=[]:=by
 unfold fk;rw[List.filter_eq_nil_iff];intro x hx;simpa using h x hx
theorem mL{k:Int}{l:List α}{x:α}:x∈fk key k l↔x∈l/\key x=k:=by
 unfold fk;rw[List.mem_filter];simp
theorem uk.mem{l m:List α}(h:uk key l m){x:α}:x∈m↔x∈l:=by
 have:=h.2 (key x);constructor
 ·intro hx;have:x∈fk key (key x) l:=by rw[<-this];exact mL.2 ⟨hx,rfl⟩
  exact(mL.1 this).1
 intro hx;have:x∈fk key (key x) m:=by rw[this];exact mL.2 ⟨hx,rfl⟩
 exact(mL.1 this).1
theorem jE{a b:List α}:bG key (a++b)↔bG key a/\bG key b/\∀x∈a,∀y∈b,key x<=key y:=by
 induction a with
 |nil=>simp[bG]
 |cons x a ih=>
  simp only[List.cons_append,bG,ih,List.mem_append,List.mem_cons];constructor
  ·rintro ⟨h1,h2,h3,h4⟩;refine⟨⟨fun y hy=>h1 y (.inl hy),h2⟩,h3,?_⟩;rintro z (rfl|hz) y hy
   ·exact h1 y (.inr hy)
   exact h4 z hz y hy
  rintro ⟨⟨h1,h2⟩,h3,h4⟩;refine⟨?_,h2,h3,fun z hz=>h4 z (.inr hz)⟩;rintro y (hy|hy)
  ·exact h1 y hy
  exact h4 x (.inl rfl) y hy
theorem bG.head{x:α}{l:List α}(h:bG key (x::l)):∀y∈l,key x<=key y:=h.1
theorem oq:∀{a b:List α},bG key a->bG key b->(∀k,fk key k a=fk key k b)->a=b
 |[],[],_,_,_=>rfl
 |[],y::b,_,_,h=>by
  have:=h (key y);rw[wi,cS,if_pos rfl]at this;cases this
 |x::a,[],_,_,h=>by
  have:=h (key x);rw[wi,cS,if_pos rfl]at this;cases this
 |x::a,y::b,ha,hb,h=>by
  have hx:x∈y::b:=(mL.1 (h (key x)▸mL.2 ⟨List.mem_cons_self,rfl⟩)).1;have hy:y∈x::a:=(mL.1 ((h (key y)).symm▸mL.2 ⟨List.mem_cons_self,rfl⟩)).1;have h1:key y<=key x:=by
   rcases List.mem_cons.1 hx with e|e
   ·rw[e];exact Int.le_refl _
   exact hb.1 x e
  have h2:key x<=key y:=by
   rcases List.mem_cons.1 hy with e|e
   ·rw[e];exact Int.le_refl _
   exact ha.1 y e
  have he:key x=key y:=Int.le_antisymm h2 h1;have:=h (key x);rw[cS,cS,if_pos rfl,if_pos he.symm]at this;obtain⟨rfl,_⟩:=List.cons.inj this;refine congrArg (x::·) (oq ha.2 hb.2 fun k=>?_);have:=h k;rw[cS,cS]at this;split at this
  ·exact(List.cons.inj this).2
  exact this
theorem DJ{k:Int}{x:α}:∀{l:List α},fk key k (lN key x l)=fk key k (x::l)
 |[]=>rfl
 |y::l=>by
  unfold lN;split
  ·rename_i h;rw[cS,DJ,cS,cS,cS];by_cases h1:key y=k
   ·rw[if_pos h1,if_neg (by omega),if_neg (by omega),if_pos h1]
   simp[h1]
  rfl
theorem Am{x z:α}:∀{l:List α},z∈lN key x l↔z=x\/z∈l
 |[]=>by simp[lN]
 |y::l=>by
  unfold lN;split
  ·rw[List.mem_cons,Am,List.mem_cons];constructor<;>(rintro (h|h|h)<;>simp[h])
  rw[List.mem_cons,List.mem_cons]
theorem BD{x:α}:∀{l:List α},bG key l->bG key (lN key x l)
 |[],_=>⟨fun _ h=>(by cases h),trivial⟩
 |y::l,h=>by
  unfold lN;split
  ·rename_i hlt;refine⟨fun z hz=>?_,BD h.2⟩;rcases Am.1 hz with rfl|hz
   ·omega
   exact h.1 z hz
  rename_i hlt;refine⟨fun z hz=>?_,h⟩;rcases List.mem_cons.1 hz with rfl|hz
  ·omega
  have:=h.1 z hz;omega
theorem fv:∀(l:List α),uk key l (bB key l)
 |[]=>⟨trivial,fun _=>rfl⟩
 |x::l=>by
  obtain⟨h1,h2⟩:=fv l;refine⟨BD h1,fun k=>?_⟩;show fk key k (lN key x (bB key l))=_;rw[DJ,cS,cS,h2]
theorem uk.eq{l m:List α}(h:uk key l m):m=bB key l:=
 oq h.1 (fv l).1 fun k=>(h.2 k).trans ((fv l).2 k).symm
theorem uk.refl{l:List α}(h:bG key l):uk key l l:=⟨h,fun _=>rfl⟩
theorem jj{l:List α}(h:bG key l):bB key l=l:=(uk.refl h).eq.symm
theorem CI{l m:List α}(h:∀k,fk key k l=fk key k m):bB key l=bB key m:=
 oq (fv l).1 (fv m).1 fun k=>((fv l).2 k).trans ((h k).trans ((fv m).2 k).symm)
theorem lJ{k:Int}{l:List α}:fk key k (bB key l)=fk key k l:=(fv l).2 k
theorem fu{l:List α}:bG key (bB key l):=(fv l).1
theorem y4{l:List α}{x:α}:x∈bB key l↔x∈l:=(fv l).mem
theorem ux{x:α}:∀{l:List α},(lN key x l).length=l.length+1
 |[]=>rfl
 |y::l=>by
  unfold lN;split
  ·rw[List.length_cons,ux,List.length_cons]
  rfl
theorem bO:∀{l:List α},(bB key l).length=l.length
 |[]=>rfl
 |x::l=>by
  show(lN key x (bB key l)).length=_;rw[ux,bO];rfl
theorem o6{u1 u2 v1 v2:List α}(hu:∀x∈u1,∀y∈u2,key x<=key y)(hv:∀x∈v1,∀y∈v2,key x<=key y)(h1:∀x∈u1,∀y∈v2,key x<=key y)(h2:∀x∈v1,∀y∈u2,key x<key y) :
 bB key (u1++u2++(v1++v2))=bB key (u1++v1)++bB key (u2++v2):=by
 refine oq fu ?_ fun k=>?_
 ·rw[jE];refine⟨fu,fu,fun x hx y hy=>?_⟩;rw[y4,List.mem_append]at hx hy;rcases hx with hx|hx<;>rcases hy with hy|hy
  ·exact hu x hx y hy
  ·exact h1 x hx y hy
  ·exact Int.le_of_lt (h2 x hx y hy)
  exact hv x hx y hy
 rw[lJ,jg (a:=bB key _),lJ,lJ];simp only[jg,List.append_assoc];congr 1;rw[<-List.append_assoc,<-List.append_assoc];congr 1;by_cases h:∃x∈v1,key x=k
 ·obtain⟨x,hx,rfl⟩:=h;rw[tt (l:=u2) fun y hy e=>by have:=h2 x hx y hy;omega];simp
 rw[tt (l:=v1) fun y hy e=>h ⟨y,hy,e⟩];simp
def bm(key:α->Int)(l:List α)(a b:Nat):List α:=l.take a++bB key ((l.take b).drop a)++l.drop b
theorem dh{l:List α}{a b:Nat}(h:a<=b)(hb:b<=l.length):(bm key l a b).length=l.length:=by
 unfold bm;simp only[List.length_append,List.length_take,List.length_drop,bO];omega
end
section
variable {α:Type}
def gc(l:List α)(i j:Nat):List α:=match l[i]?,l[j]? with
 |some x,some y=>(l.set i y).set j x
 |_,_=>l
def bz(l:List α)(a m b:Nat):List α:=l.take a++((l.drop m).take (b-m)++((l.drop a).take (m-a)++l.drop b))
def iq(l:List α)(a b:Nat):Nat->List α
 |0=>l
 |n+1=>gc (iq l a b n) (a+n) (b+n)
theorem Aa{l:List α}{i j:Nat}:(gc l i j).length=l.length:=by
 unfold gc;split<;>simp
theorem sO{l:List α}{i j:Nat}(hi:i<l.length)(hj:j<l.length)(q:Nat):(gc l i j)[q]?=if q=j then l[i]? else if q=i then l[j]? else l[q]?:=by
 unfold gc;rw[List.getElem?_eq_getElem hi,List.getElem?_eq_getElem hj];simp only;rw[List.getElem?_set,List.getElem?_set];by_cases h1:q=j
 ·subst h1;simp[hj]
 rw[if_neg (fun e=>h1 e.symm),if_neg h1];by_cases h2:q=i
 ·subst h2;simp[hi]
 rw[if_neg (fun e=>h2 e.symm),if_neg h2]
theorem ed{l:List α}{a b:Nat}:∀n,(iq l a b n).length=l.length
 |0=>rfl
 |n+1=>by rw[iq,Aa,ed]
theorem tE{l:List α}{a b:Nat}:∀{n:Nat},a+n<=b->b+n<=l.length->∀q,(iq l a b n)[q]?=if a<=q/\q<a+n then l[q-a+b]? else if b<=q/\q<b+n then l[q-b+a]? else l[q]?
 |0,_,_,q=>by rw[iq,if_neg (by omega),if_neg (by omega)]
 |n+1,h1,h2,q=>by
  rw[iq,sO (by rw[ed];omega) (by rw[ed];omega)];simp only[tE (show a+n<=b by omega) (show b+n<=l.length by omega)];by_cases e1:q=b+n
  ·subst e1;rw[if_pos rfl,if_neg (by omega),if_neg (by omega),if_neg (by omega),if_pos (by omega)];congr 1;omega
  rw[if_neg e1];by_cases e2:q=a+n
  ·subst e2;rw[if_pos rfl,if_neg (by omega),if_neg (by omega),if_pos (by omega)];congr 1;omega
  rw[if_neg e2]
  repeat' split
  all_goals first|omega|rfl|(congr 1;omega)
theorem eN{l:List α}{a m b:Nat}(h1:a<=m)(h2:m<=b)(h3:b<=l.length):(bz l a m b).length=l.length:=by
 unfold bz;simp only[List.length_append,List.length_take,List.length_drop];omega
theorem eH{l:List α}{a m b:Nat}(h1:a<=m)(h2:m<=b)(h3:b<=l.length)(q:Nat):(bz l a m b)[q]?=if q<a then l[q]? else if q<a+(b-m)then l[q+(m-a)]? else if q<b then l[q-(b-m)]? else l[q]?:=by
 unfold bz;rw[List.getElem?_append,List.length_take,Nat.min_eq_left (by omega)];by_cases c1:q<a
 ·rw[if_pos c1,if_pos c1,List.getElem?_take,if_pos c1]
 rw[if_neg c1,if_neg c1,List.getElem?_append,List.length_take,List.length_drop,Nat.min_eq_left (by omega)];by_cases c2:q<a+(b-m)
 ·rw[if_pos (by omega),if_pos c2,List.getElem?_take,if_pos (by omega),List.getElem?_drop];congr 1;omega
 rw[if_neg (by omega),if_neg c2,List.getElem?_append,List.length_take,List.length_drop,Nat.min_eq_left (by omega)];by_cases c3:q<b
 ·rw[if_pos (by omega),if_pos c3,List.getElem?_take,if_pos (by omega),List.getElem?_drop];congr 1;omega
 rw[if_neg (by omega),if_neg c3,List.getElem?_drop];congr 1;omega
theorem lQ{l:List α}{a b:Nat}(h:a<=b)(hb:b<=l.length):bz l a a b=l:=by
 refine List.ext_getElem? fun q=>?_
 rw[eH (Nat.le_refl _) h hb];split
 ·rfl
 split
 ·congr 1;omega
 split
 ·omega
 rfl
theorem oA{l:List α}{a b:Nat}(h:a<=b)(hb:b<=l.length):bz l a b b=l:=by
 refine List.ext_getElem? fun q=>?_
 rw[eH h (Nat.le_refl _) hb];split
 ·rfl
 split
 ·omega
 split
 ·congr 1;omega
 rfl
theorem Hk{l:List α}{m i j:Nat}(hi:i<=m)(hj:m+j<=l.length)(h:j<i):bz (iq l (m-i) m j) (m-(i-j)) m (m+j)=bz l (m-i) m (m+j):=by
 refine List.ext_getElem? fun q=>?_
 rw[eH (by omega) (by omega) (by rw[ed];omega),eH (by omega) (by omega) hj];simp only[tE (show m-i+j<=m by omega) hj]
 repeat' split
 all_goals first|omega|rfl|(congr 1;omega)
theorem I3{l:List α}{m i j:Nat}(hi:i<=m)(hj:m+j<=l.length)(h:i<j):bz (iq l (m-i) (m+j-i) i) (m-i) m (m+(j-i))=bz l (m-i) m (m+j):=by
 refine List.ext_getElem? fun q=>?_
 rw[eH (by omega) (by omega) (by rw[ed];omega),eH (by omega) (by omega) hj];simp only[tE (show m-i+i<=m+j-i by omega) (show m+j-i+i<=l.length by omega)]
 repeat' split
 all_goals first|omega|rfl|(congr 1;omega)
theorem Gu{l:List α}{m i:Nat}(hi:i<=m)(hj:m+i<=l.length):iq l (m-i) m i=bz l (m-i) m (m+i):=by
 refine List.ext_getElem? fun q=>?_
 rw[eH (by omega) (by omega) hj];simp only[tE (show m-i+i<=m by omega) hj]
 repeat' split
 all_goals first|omega|rfl|(congr 1;omega)
theorem Gx{l:List α}{a k:Nat}(h:a<=k)(hk:k+2<=l.length):gc (bz l a (a+1) (k+1)) k (k+1)=bz l a (a+1) (k+2):=by
 have hl:(bz l a (a+1) (k+1)).length=l.length:=eN (by omega) (by omega) (by omega);refine List.ext_getElem? fun q=>?_
 rw[sO (by omega) (by omega)];simp only[eH (show a<=a+1 by omega) (show a+1<=k+1 by omega) (show k+1<=l.length by omega),eH (show a<=a+1 by omega) (show a+1<=k+2 by omega) (show k+2<=l.length by omega)]
 repeat' split
 all_goals first|omega|rfl|(congr 1;omega)
theorem qm{l:List α}{k m:Nat}(hk:0<k)(h:k<=m)(hm:m+1<=l.length):gc (bz l k m (m+1)) k (k-1)=bz l (k-1) m (m+1):=by
 have hl:(bz l k m (m+1)).length=l.length:=eN (by omega) (by omega) (by omega);refine List.ext_getElem? fun q=>?_
 rw[sO (by omega) (by omega)];simp only[eH (show k<=m by omega) (show m<=m+1 by omega) (show m+1<=l.length by omega),eH (show k-1<=m by omega) (show m<=m+1 by omega) (show m+1<=l.length by omega)]
 repeat' split
 all_goals first|omega|rfl|(congr 1;omega)
end
section
variable {α:Type} {key:α->Int}
theorem F8{p x q:List α}:((p++(x++q)).take (p.length+x.length)).drop p.length=x:=by
 rw[<-List.append_assoc,List.take_left' (by rw[List.length_append]),List.drop_left' rfl]
theorem dp{p x q:List α}{a b:Nat}(ha:a=p.length)(hb:b=p.length+x.length):bm key (p++(x++q)) a b=p++(bB key x++q):=by
 subst ha hb;unfold bm;rw[F8,List.take_left' rfl,<-List.append_assoc p x q,List.drop_left' (by rw[List.length_append]),List.append_assoc]
theorem sL{p u v q:List α}{a m b:Nat}(ha:a=p.length)(hm:m=a+u.length)(hb:b=m+v.length):bz (p++(u++(v++q))) a m b=p++(v++(u++q)):=by
 subst ha hm hb;unfold bz;rw[List.take_left' rfl,List.drop_left' rfl,Nat.add_sub_cancel_left,Nat.add_sub_cancel_left,List.take_left' rfl];rw[show p++(u++(v++q))=(p++u)++(v++q) by simp,List.drop_left' (by rw[List.length_append]),List.take_left' rfl];rw[show p++u++(v++q)=(p++u++v)++q by simp,List.drop_left' (by rw[List.length_append,List.length_append])]
theorem xm{l:List α}{a b:Nat}(h1:a<=b)(h2:b<=l.length):∃p x q,l=p++(x++q)/\p.length=a/\x.length=b-a:=
 ⟨l.take a,(l.drop a).take (b-a),l.drop b,by
  rw[show l.drop b=(l.drop a).drop (b-a) by rw[List.drop_drop];congr 1;omega,List.take_append_drop,List.take_append_drop],by rw[List.length_take];omega,by rw[List.length_take,List.length_drop];omega⟩
theorem getElem?_mid{p x q:List α}{i:Nat}(h1:p.length<=i)(h2:i<p.length+x.length):(p++(x++q))[i]?=x[i-p.length]?:=by
 rw[List.getElem?_append,if_neg (by omega),List.getElem?_append,if_pos (by omega)]
theorem bG.le_last{l:List α}(h:bG key l){z:α}(hz:l[l.length-1]?=some z):∀x∈l,key x<=key z:=by
 induction l with
 |nil=>intro x hx;cases hx
 |cons y l ih=>
  intro x hx;cases l with
  |nil=>
   simp at hz hx;subst hz hx;exact Int.le_refl _
  |cons w l'=>
   have hz':(w::l')[(w::l').length-1]?=some z:=by rw[<-hz];simp
   rcases List.mem_cons.1 hx with rfl|hx
   ·exact h.1 z (List.mem_of_getElem? hz')
   exact ih h.2 hz' x hx
theorem bG.first_le{l:List α}(h:bG key l){z:α}(hz:l[0]?=some z):∀x∈l,key z<=key x:=by
 cases l with
 |nil=>intro x hx;cases hx
 |cons y l=>
  simp at hz;subst hz;intro x hx;rcases List.mem_cons.1 hx with rfl|hx
  ·exact Int.le_refl _
  exact h.1 x hx
end
section
variable {α:Type} {key:α->Int}
def dG(l:List α)(a b:Nat):List α:=(l.take b).drop a
def bH(key:α->Int)(l:List α)(i:Nat):Int:=(l[i]?.map key).getD 0
theorem dK{p x q:List α}{a b:Nat}(ha:a=p.length)(hb:b=p.length+x.length):dG (p++(x++q)) a b=x:=by
 subst ha hb;exact F8
theorem ql{l:List α}{a b:Nat}(hb:b<=l.length):(dG l a b).length=b-a:=by
 unfold dG;rw[List.length_drop,List.length_take,Nat.min_eq_left hb]
theorem Em{l:List α}{a b:Nat}:bm key l a b=l.take a++(bB key (dG l a b)++l.drop b):=by
 unfold bm dG;rw[List.append_assoc]
theorem DL{l:List α}{a b i:Nat}:(dG l a b)[i]?=if a+i<b then l[a+i]? else none:=by
 unfold dG;rw[List.getElem?_drop,List.getElem?_take]
theorem AK{l:List α}{a b q:Nat}(h1:a<=b)(h2:b<=l.length)(h:q<a\/b<=q):(bm key l a b)[q]?=l[q]?:=by
 rw[Em,List.getElem?_append,List.length_take,Nat.min_eq_left (by omega)];rcases h with h|h
 ·rw[if_pos h,List.getElem?_take,if_pos h]
 rw[if_neg (by omega),List.getElem?_append,bO,ql h2,if_neg (by omega),List.getElem?_drop];congr 1;omega
theorem GY{l m:List α}{a b:Nat}(h:∀q,a<=q->q<b->l[q]?=m[q]?):dG l a b=dG m a b:=by
 refine List.ext_getElem? fun i=>?_
 rw[DL,DL];split
 ·exact h _ (by omega) (by omega)
 rfl
theorem kN{l:List α}{a b c d:Nat}(h1:a<=b)(h2:b<=l.length)(h:d<=a\/b<=c):dG (bm key l a b) c d=dG l c d:=
 GY fun q g1 g2=>AK h1 h2 (by omega)
theorem Bp{l:List α}{a b:Nat}(h1:a<=b)(h2:b<=l.length):dG (bm key l a b) a b=bB key (dG l a b):=by
 rw[Em];exact dK (by rw[List.length_take];omega) (by rw[List.length_take,bO,ql h2];omega)
theorem gd{l:List α}{a b:Nat}(h1:a<=b)(h2:b<=l.length)(h:bG key (dG l a b)):bm key l a b=l:=by
 obtain⟨p,x,q,rfl,hp,hx⟩:=xm h1 h2;have hb:b=p.length+x.length:=by omega
 rw[dK hp.symm hb]at h;rw[dp hp.symm hb,jj h]
theorem vh{l:List α}{a b:Nat}(h:b<=a+1)(h1:a<=b)(h2:b<=l.length):bm key l a b=l:=gd h1 h2 (by
 have hl:=ql (a:=a) h2
 match hs:dG l a b with
 |[]=>exact trivial
 |[x]=>exact⟨fun _ h=>(by cases h),trivial⟩
 |x::y::t=>rw[hs]at hl;simp at hl;omega)
theorem KG{l:List α}{a s m e b:Nat}(h1:a<=s)(h2:s<=m)(h3:m<=e)(h4:e<=b)(h5:b<=l.length) :
 ∃p u1 u2 v1 v2 q,l=p++(u1++(u2++(v1++(v2++q))))/\p.length=a/\u1.length=s-a/\u2.length=m-s/\v1.length=e-m/\v2.length=b-e:=by
 obtain⟨p,x,q,rfl,hp,hx⟩:=xm (show a<=b by omega) h5;obtain⟨u,v,w,rfl,hu,hv⟩:=xm (l:=x) (a:=s-a) (b:=m-a) (by omega) (by omega);have hw:w.length=b-m:=by simp only[List.length_append]at hx;omega
 refine⟨p,u,v,w.take (e-m),w.drop (e-m),q,?_,hp,hu,by omega,by rw[List.length_take];omega,by rw[List.length_drop];omega⟩;simp only[List.append_assoc];rw[<-List.append_assoc (w.take _),List.take_append_drop]
theorem wn{l:List α}{i:Nat}{x:α}(h:l[i]?=some x):bH key l i=key x:=by unfold bH;rw[h];rfl
theorem kB{p x q:List α}{i:Nat}(h1:p.length<=i)(h2:i<p.length+x.length):∃y∈x,x[i-p.length]?=some y/\bH key (p++(x++q)) i=key y:=by
 have h:i-p.length<x.length:=by omega
 refine⟨x[i-p.length],List.getElem_mem h,List.getElem?_eq_getElem h,?_⟩;refine wn ?_;rw[getElem?_mid h1 h2,List.getElem?_eq_getElem h]
structure RM(key:α->Int)(l:List α)(a m b s:Nat) where
 lo:Nat
 hi:Nat
 hb:b<=l.length
 am:a<m
 mb:m<b
 elo:lo=if(a+b)/2<m then(a+b)/2+m-b else a
 ehi:hi=if(a+b)/2<m then(a+b)/2 else m
 h1:lo<=s
 h2:s<=hi
 c1:s=lo\/bH key l (s-1)<=bH key l ((a+b)/2+m-s)
 c2:s=hi\/bH key l ((a+b)/2+m-s-1)<bH key l s
theorem BW{l:List α}{a m b s:Nat}(h:RM key l a m b s)(hs1:bG key (dG l a m))(hs2:bG key (dG l m b)) :
 ∀e,e=(a+b)/2+m-s->a<=s/\s<=(a+b)/2/\s<=m/\m<=e/\e<=b/\(a+b)/2<=e/\bG key (dG (bz l s m e) a s)/\bG key (dG (bz l s m e) s ((a+b)/2))/\bG key (dG (bz l s m e) ((a+b)/2) e)/\bG key (dG (bz l s m e) e b) /\
  bm key (bm key (bz l s m e) a ((a+b)/2)) ((a+b)/2) b=bm key l a b:=by
 obtain⟨lo,hi,hb,am,mb,elo,ehi,g1,g2,c1,c2⟩:=h;intro e he;obtain⟨mid,hmid⟩:∃mid,mid=(a+b)/2:=⟨_,rfl⟩;rw[<-hmid]at elo ehi c1 c2 he ⊢;have b1:a<=s:=by split at elo<;>omega
 have b2:s<=mid:=by split at ehi<;>omega
 have b3:s<=m:=by split at ehi<;>omega
 have b4:m<=e:=by omega
 have b5:e<=b:=by split at elo<;>omega
 have b6:mid<=e:=by omega
 refine⟨b1,b2,b3,b4,b5,b6,?_⟩;obtain⟨p,u1,u2,v1,v2,q,rfl,hp,hu1,hu2,hv1,hv2⟩:=KG b1 b3 b4 b5 hb;have es:s=(p++u1).length:=by rw[List.length_append];omega
 have hr:bz (p++(u1++(u2++(v1++(v2++q))))) s m e=p++(u1++(v1++(u2++(v2++q)))):=by rw[<-List.append_assoc,sL (p:=p++u1) (u:=u2) (v:=v1) (q:=v2++q) es (by omega) (by omega),List.append_assoc]
 rw[hr];have q1:dG (p++(u1++(u2++(v1++(v2++q))))) a m=u1++u2:=by rw[<-List.append_assoc u1];exact dK hp.symm (by rw[List.length_append];omega)
 have q2:dG (p++(u1++(u2++(v1++(v2++q))))) m b=v1++v2:=by rw[<-List.append_assoc v1,<-List.append_assoc p,<-List.append_assoc (p++u1)];exact dK (by simp only[List.length_append];omega) (by simp only[List.length_append];omega)
 rw[q1]at hs1;rw[q2]at hs2;obtain⟨su1,su2,sux⟩:=jE.1 hs1;obtain⟨sv1,sv2,svx⟩:=jE.1 hs2;refine⟨?_,?_,?_,?_,?_⟩
 ·rw[dK hp.symm (by omega)];exact su1
 ·rw[<-List.append_assoc,dK es (by rw[List.length_append];omega)];exact sv1
 ·rw[<-List.append_assoc u1,<-List.append_assoc,dK (by simp only[List.length_append];omega) (by simp only[List.length_append];omega)];exact su2
 ·rw[<-List.append_assoc v1,<-List.append_assoc u1,<-List.append_assoc,dK (by simp only[List.length_append];omega) (by simp only[List.length_append];omega)];exact sv2
 have hx:∀x∈u1,∀y∈v2,key x<=key y:=fun x hx y hy=>by
  have hlu:u1.length≠0:=fun e=>by rw[List.length_eq_zero_iff.1 e]at hx;cases hx
  have hlv:v2.length≠0:=fun e=>by rw[List.length_eq_zero_iff.1 e]at hy;cases hy
  have c:bH key (p++(u1++(u2++(v1++(v2++q))))) (s-1)<=bH key (p++(u1++(u2++(v1++(v2++q))))) e:=by
   rcases c1 with c|c
   ·split at elo<;>omega
   rw[he];exact c
  obtain⟨z,hz,hz1,hz2⟩:=kB (key:=key) (p:=p) (x:=u1) (q:=u2++(v1++(v2++q))) (i:=s-1) (by omega) (by omega);have hz3:=su1.le_last (show u1[u1.length-1]?=some z by rw[<-hz1];congr 1;omega) x hx;rw[hz2]at c;have heq:p++(u1++(u2++(v1++(v2++q))))=(p++(u1++(u2++v1)))++(v2++q):=by simp
  rw[heq]at c;obtain⟨w,hw,hw1,hw2⟩:=kB (key:=key) (p:=p++(u1++(u2++v1))) (x:=v2) (q:=q) (i:=e) (by simp only[List.length_append];omega) (by simp only[List.length_append];omega);have hw3:=sv2.first_le (show v2[0]?=some w by rw[<-hw1];congr 1;simp only[List.length_append];omega) y hy
  rw[hw2]at c;omega
 have hy:∀x∈v1,∀y∈u2,key x<key y:=fun x hx y hy=>by
  have hlu:u2.length≠0:=fun e=>by rw[List.length_eq_zero_iff.1 e]at hy;cases hy
  have hlv:v1.length≠0:=fun e=>by rw[List.length_eq_zero_iff.1 e]at hx;cases hx
  have c:bH key (p++(u1++(u2++(v1++(v2++q))))) (e-1)<bH key (p++(u1++(u2++(v1++(v2++q))))) s:=by
   rcases c2 with c|c
   ·split at ehi<;>omega
   rw[he];exact c
  have heq:p++(u1++(u2++(v1++(v2++q))))=(p++u1)++(u2++(v1++(v2++q))):=by simp
  have heq2:p++(u1++(u2++(v1++(v2++q))))=(p++(u1++u2))++(v1++(v2++q)):=by simp
  obtain⟨w,hw,hw1,hw2⟩:=kB (key:=key) (p:=p++u1) (x:=u2) (q:=v1++(v2++q)) (i:=s) (by simp only[List.length_append];omega) (by simp only[List.length_append];omega);have hw3:=su2.first_le (show u2[0]?=some w by rw[<-hw1];congr 1;simp only[List.length_append];omega) y hy
  obtain⟨z,hz,hz1,hz2⟩:=kB (key:=key) (p:=p++(u1++u2)) (x:=v1) (q:=v2++q) (i:=e-1) (by simp only[List.length_append];omega) (by simp only[List.length_append];omega);have hz3:=sv1.le_last (show v1[v1.length-1]?=some z by rw[<-hz1];congr 1;simp only[List.length_append];omega) x hx;rw[<-heq2]at hz2;rw[<-heq]at hw2;rw[hz2,hw2]at c;omega
 rw[show p++(u1++(v1++(u2++(v2++q))))=p++((u1++v1)++(u2++(v2++q))) by simp,dp hp.symm (by rw[List.length_append];omega)];rw[show p++(bB key (u1++v1)++(u2++(v2++q)))=(p++bB key (u1++v1))++((u2++v2)++q) by simp,dp (by rw[List.length_append,bO,List.length_append];omega) (by rw[List.length_append,bO];simp only[List.length_append];omega)];rw[show p++(u1++(u2++(v1++(v2++q))))=p++((u1++u2++(v1++v2))++q) by simp,dp hp.symm (by simp only[List.length_append];omega),o6 sux svx hx hy];simp
theorem Hm{l:List α}{a b i:Nat}(hb:b<=l.length)(h1:a+1<=i)(h2:i<=b)(hs:bG key (dG l (a+1) b))(c1:i=a+1\/bH key l (i-1)<bH key l a)(c2:i=b\/bH key l a<=bH key l i) :
 bz l a (a+1) i=bm key l a b:=by
 obtain⟨p,u1,x,v1,v2,q,rfl,hp,hu1,hx,hv1,hv2⟩:=KG (Nat.le_refl a) (show a<=a+1 by omega) h1 h2 hb;have:u1=[]:=List.length_eq_zero_iff.1 (by omega);subst this;obtain⟨x,rfl⟩:∃y,x=[y]:=List.length_eq_one_iff.1 (by omega);simp only[List.nil_append];have hs':bG key (v1++v2):=by
  have:dG (p++([]++([x]++(v1++(v2++q))))) (a+1) b=v1++v2:=by rw[show p++([]++([x]++(v1++(v2++q))))=(p++[x])++((v1++v2)++q) by simp];exact dK (by rw[List.length_append];simp;omega) (by simp only[List.length_append,List.length_cons,List.length_nil];omega)
  rw[this]at hs;exact hs
 obtain⟨sv1,sv2,svx⟩:=jE.1 hs';rw[sL hp.symm (by simp) (by omega)];rw[show p++([x]++(v1++(v2++q)))=p++(([]++[x]++(v1++v2))++q) by simp,dp hp.symm (by simp only[List.length_append,List.length_cons,List.length_nil];omega)];have ex:∀w:List α,bH key (p++([]++([x]++w))) a=key x:=fun w=>wn (by rw[List.nil_append,List.getElem?_append,if_neg (by omega),hp,Nat.sub_self];rfl)
 rw[ex]at c1 c2;have hlt:∀z∈v1,∀y∈[x],key z<key y:=fun z hz y hy=>by
  rw[List.mem_singleton]at hy;subst hy;have hl:v1.length≠0:=fun e=>by rw[List.length_eq_zero_iff.1 e]at hz;cases hz
  rcases c1 with c|c
  ·omega
  rw[show p++([]++([y]++(v1++(v2++q))))=(p++[y])++(v1++(v2++q)) by simp]at c;obtain⟨w,hw,hw1,hw2⟩:=kB (key:=key) (p:=p++[y]) (x:=v1) (q:=v2++q) (i:=i-1) (by simp only[List.length_append,List.length_cons,List.length_nil];omega) (by simp only[List.length_append,List.length_cons,List.length_nil];omega);have:=sv1.le_last (show v1[v1.length-1]?=some w by rw[<-hw1];congr 1;simp only[List.length_append,List.length_cons,List.length_nil];omega) z hz;omega
 have hle:∀y∈v2,key x<=key y:=fun y hy=>by
  have hl:v2.length≠0:=fun e=>by rw[List.length_eq_zero_iff.1 e]at hy;cases hy
  rcases c2 with c|c
  ·omega
  rw[show p++([]++([x]++(v1++(v2++q))))=(p++([x]++v1))++(v2++q) by simp]at c;obtain⟨w,hw,hw1,hw2⟩:=kB (key:=key) (p:=p++([x]++v1)) (x:=v2) (q:=q) (i:=i) (by simp only[List.length_append,List.length_cons,List.length_nil];omega) (by simp only[List.length_append,List.length_cons,List.length_nil];omega);have:=sv2.first_le (show v2[0]?=some w by rw[<-hw1];congr 1;simp only[List.length_append,List.length_cons,List.length_nil];omega) y hy
  omega
 rw[o6 (fun _ h=>by cases h) svx (fun _ h=>by cases h) hlt,List.nil_append,jj sv1,jj (l:=[x]++v2) ⟨hle,sv2⟩];simp
theorem pK{l:List α}{a b i:Nat}(hb:b+1<=l.length)(h1:a<=i)(h2:i<=b)(hs:bG key (dG l a b))(c1:i=a\/bH key l (i-1)<=bH key l b)(c2:i=b\/bH key l b<bH key l i) :
 bz l i b (b+1)=bm key l a (b+1):=by
 obtain⟨p,u1,u2,x,v2,q,rfl,hp,hu1,hu2,hx,hv2⟩:=KG h1 h2 (show b<=b+1 by omega) (Nat.le_refl _) hb;have:v2=[]:=List.length_eq_zero_iff.1 (by omega);subst this;obtain⟨x,rfl⟩:∃y,x=[y]:=List.length_eq_one_iff.1 (by omega);simp only[List.nil_append];have hs':bG key (u1++u2):=by
  have:dG (p++(u1++(u2++([x]++([]++q))))) a b=u1++u2:=by rw[show p++(u1++(u2++([x]++([]++q))))=p++((u1++u2)++([x]++q)) by simp];exact dK hp.symm (by simp only[List.length_append];omega)
  rw[this]at hs;exact hs
 obtain⟨su1,su2,sux⟩:=jE.1 hs';rw[show p++(u1++(u2++([x]++q)))=(p++u1)++(u2++([x]++q)) by simp,sL (by rw[List.length_append];omega) (by omega) (by simp)];rw[show p++u1++(u2++([x]++q))=p++((u1++u2++([x]++[]))++q) by simp,dp hp.symm (by simp only[List.length_append,List.length_cons,List.length_nil];omega)];have ex:bH key (p++(u1++(u2++([x]++([]++q))))) b=key x:=wn (by
  rw[show p++(u1++(u2++([x]++([]++q))))=(p++(u1++u2))++([x]++q) by simp,List.getElem?_append,if_neg (by simp only[List.length_append];omega),show b-(p++(u1++u2)).length=0 by simp only[List.length_append];omega];rfl)
 rw[ex]at c1 c2;have hle:∀y∈u1,∀z∈[x],key y<=key z:=fun y hy z hz=>by
  rw[List.mem_singleton]at hz;subst hz;have hl:u1.length≠0:=fun e=>by rw[List.length_eq_zero_iff.1 e]at hy;cases hy
  rcases c1 with c|c
  ·omega
  obtain⟨w,hw,hw1,hw2⟩:=kB (key:=key) (p:=p) (x:=u1) (q:=u2++([z]++([]++q))) (i:=i-1) (by omega) (by omega);have:=su1.le_last (show u1[u1.length-1]?=some w by rw[<-hw1];congr 1;omega) y hy;omega
 have hlt:∀z∈[x],∀y∈u2,key z<key y:=fun z hz y hy=>by
  rw[List.mem_singleton]at hz;subst hz;have hl:u2.length≠0:=fun e=>by rw[List.length_eq_zero_iff.1 e]at hy;cases hy
  rcases c2 with c|c
  ·omega
  rw[show p++(u1++(u2++([z]++([]++q))))=(p++u1)++(u2++([z]++([]++q))) by simp]at c;obtain⟨w,hw,hw1,hw2⟩:=kB (key:=key) (p:=p++u1) (x:=u2) (q:=[z]++([]++q)) (i:=i) (by simp only[List.length_append];omega) (by simp only[List.length_append];omega);have:=su2.first_le (show u2[0]?=some w by rw[<-hw1];congr 1;simp only[List.length_append];omega) y hy
  omega
 rw[o6 sux (fun _ _ _ h=>by cases h) (fun _ _ _ h=>by cases h) hlt,jj (l:=u1++[x]) (jE.2 ⟨su1,⟨fun _ h=>(by cases h),trivial⟩,hle⟩),List.append_nil,jj su2];simp
end
section
variable {α:Type}
inductive xI(key:α->Int)(bs:Nat):List α->Prop
 |nil:xI key bs []
 |snoc {p x:List α}:xI key bs p->x.length=bs->bG key x->xI key bs (p++x)
inductive fJ(key:α->Int)(bs:Nat):List α->Prop
 |last {x:List α}:x.length<=bs->bG key x->fJ key bs x
 |cons {x r:List α}:x.length=bs->bG key x->fJ key bs r->fJ key bs (x++r)
variable {key:α->Int} {bs:Nat}
theorem fJ.of_full{p r:List α}(h:xI key bs p):fJ key bs r->fJ key bs (p++r):=by
 induction h generalizing r with
 |nil=>exact id
 |snoc _ h2 h3 ih=>intro hr;rw[List.append_assoc];exact ih (.cons h2 h3 hr)
theorem fJ.small{r:List α}(h:fJ key bs r)(hr:r.length<=bs):bG key r:=by
 cases h with
 |last _ h=>exact h
 |cons h1 h2 h3=>
  rename_i x r;have:r=[]:=List.length_eq_zero_iff.1 (by rw[List.length_append]at hr;omega);subst this;rwa [List.append_nil]
theorem fJ.two{r:List α}(h:fJ key bs r)(hr:bs<r.length):∃x y,r=x++y/\x.length=bs/\bG key x/\fJ key bs y:=by
 cases h with
 |last h _=>omega
 |cons h1 h2 h3=>exact⟨_,_,rfl,h1,h2,h3⟩
theorem fJ.pair{r:List α}(h:fJ key bs r)(hb:0<bs)(hr:2*bs<=r.length):∃x y z,r=x++(y++z)/\x.length=bs/\y.length=bs/\bG key x/\bG key y/\fJ key bs z:=by
 obtain⟨x,w,rfl,h1,h2,h3⟩:=h.two (by omega);rw[List.length_append]at hr;cases h3 with
 |last g1 g2=>exact⟨x,w,[],by simp,h1,by omega,h2,g2,.last (Nat.zero_le _) trivial⟩
 |cons g1 g2 g3=>exact⟨x,_,_,rfl,h1,g1,h2,g2,g3⟩
theorem fJ.tail{r:List α}(h:fJ key bs r)(h1:bs<r.length)(h2:r.length<2*bs):∃x y,r=x++y/\x.length=bs/\bG key x/\bG key y:=by
 obtain⟨x,w,rfl,g1,g2,g3⟩:=h.two h1;rw[List.length_append]at h2;exact⟨x,w,rfl,g1,g2,g3.small (by omega)⟩
structure A5(key:α->Int)(b1 b2:Nat)(l0 l:List α)(a:Nat) where
 p:List α
 r:List α
 eq:l=p++r
 ha:p.length=a
 full:xI key b1 p
 rest:fJ key b2 r
 fk:∀k,fk key k l=fk key k l0
theorem wl{l:List α}{a b:Nat}(h1:a<=b)(h2:b<=l.length)(k:Int):fk key k (bm key l a b)=fk key k l:=by
 obtain⟨p,x,q,rfl,hp,hx⟩:=xm h1 h2;rw[dp hp.symm (by omega)];simp only[jg,lJ]
theorem yy(bs2:Nat){l0 l:List α}(h:fJ key bs l)(hf:∀k,Go.Proofs.YthlkgmdkabelpaaGreat.St.fk key k l=Go.Proofs.YthlkgmdkabelpaaGreat.St.fk key k l0):Nonempty (A5 key bs2 bs l0 l 0):=⟨[],l,rfl,rfl,.nil,h,hf⟩
theorem Ca{l0 l:List α}{a:Nat}(h:A5 key (2*bs) bs l0 l a)(hb:0<bs)(hl:a+2*bs<=l.length):bG key (dG l a (a+bs))/\bG key (dG l (a+bs) (a+2*bs))/\Nonempty (A5 key (2*bs) bs l0 (bm key l a (a+2*bs)) (a+2*bs)):=by
 obtain⟨p,r,rfl,rfl,hf,hr,hk⟩:=h;rw[List.length_append]at hl;obtain⟨x,y,z,rfl,h1,h2,h3,h4,h5⟩:=hr.pair hb (by omega);refine⟨?_,?_,⟨⟨p++bB key (x++y),z,?_,?_,.snoc hf ?_ fu,h5,fun k=>?_⟩⟩⟩
 ·rw[dK rfl (by omega)];exact h3
 ·rw[<-List.append_assoc,dK (by rw[List.length_append];omega) (by rw[List.length_append];omega)];exact h4
 ·rw[<-List.append_assoc x,dp rfl (by rw[List.length_append];omega),List.append_assoc]
 ·rw[List.length_append,bO,List.length_append];omega
 ·rw[bO,List.length_append];omega
 rw[wl (by omega) (by simp only[List.length_append];omega)];exact hk k
theorem B4{l0 l:List α}{a:Nat}(h:A5 key (2*bs) bs l0 l a)(hl:l.length<a+2*bs)(hm:a+bs<l.length):bG key (dG l a (a+bs))/\bG key (dG l (a+bs) l.length)/\fJ key (2*bs) (bm key l a l.length)/\∀k,Go.Proofs.YthlkgmdkabelpaaGreat.St.fk key k (bm key l a l.length)=Go.Proofs.YthlkgmdkabelpaaGreat.St.fk key k l0:=by
 obtain⟨p,r,rfl,rfl,hf,hr,hk⟩:=h;rw[List.length_append]at hl hm;obtain⟨x,y,rfl,h1,h3,h4⟩:=hr.tail (by omega) (by omega);refine⟨?_,?_,?_,fun k=>?_⟩
 ·rw[dK rfl (by omega)];exact h3
 ·rw[show p++(x++y)=(p++x)++(y++[]) by simp,dK (by rw[List.length_append];omega) (by simp only[List.length_append,List.length_nil];omega)];exact h4
 ·rw[show p++(x++y)=p++((x++y)++[]) by simp,dp rfl (by simp only[List.length_append,List.length_nil];omega),List.append_nil];exact fJ.of_full hf (.last (by rw[bO];omega) fu)
 rw[wl (by rw[List.length_append];omega) (Nat.le_refl _)];exact hk k
theorem Ek{l0 l:List α}{a:Nat}(h:A5 key (2*bs) bs l0 l a)(hm:l.length<=a+bs):fJ key (2*bs) l/\∀k,Go.Proofs.YthlkgmdkabelpaaGreat.St.fk key k l=Go.Proofs.YthlkgmdkabelpaaGreat.St.fk key k l0:=by
 obtain⟨p,r,rfl,rfl,hf,hr,hk⟩:=h;rw[List.length_append]at hm;exact⟨fJ.of_full hf (.last (by omega) (hr.small (by omega))),hk⟩
theorem CC{l0 l:List α}(h:fJ key bs l)(hf:∀k,Go.Proofs.YthlkgmdkabelpaaGreat.St.fk key k l=Go.Proofs.YthlkgmdkabelpaaGreat.St.fk key k l0)(hl:l.length<=bs):l=bB key l0:=uk.eq ⟨h.small hl,hf⟩
structure wQ(key:α->Int)(bs:Nat)(l0 l:List α)(a:Nat) where
 p:List α
 r:List α
 eq:l=p++r
 ha:p.length=a
 full:xI key bs p
 fk:∀k,fk key k l=fk key k l0
theorem wq(l0:List α):Nonempty (wQ key bs l0 l0 0):=⟨[],l0,rfl,rfl,.nil,fun _=>rfl⟩
theorem yq{l0 l:List α}{a:Nat}(h:wQ key bs l0 l a)(hl:a+bs<=l.length):Nonempty (wQ key bs l0 (bm key l a (a+bs)) (a+bs)):=by
 obtain⟨p,r,rfl,rfl,hf,hk⟩:=h;rw[List.length_append]at hl;have hr:r=r.take bs++r.drop bs:=(List.take_append_drop ..).symm;have ht:(r.take bs).length=bs:=by rw[List.length_take];omega
 refine⟨⟨p++bB key (r.take bs),r.drop bs,?_,?_,.snoc hf ?_ fu,fun k=>?_⟩⟩
 ·conv=>lhs;rw[hr]
  rw[dp rfl (by omega),List.append_assoc]
 ·rw[List.length_append,bO,ht]
 ·rw[bO,ht]
 rw[wl (by omega) (by rw[List.length_append];omega)];exact hk k
theorem BN{l0 l:List α}{a:Nat}(h:wQ key bs l0 l a)(hl:l.length<a+bs):fJ key bs (bm key l a l.length)/\∀k,Go.Proofs.YthlkgmdkabelpaaGreat.St.fk key k (bm key l a l.length)=Go.Proofs.YthlkgmdkabelpaaGreat.St.fk key k l0:=by
 obtain⟨p,r,rfl,rfl,hf,hk⟩:=h;rw[List.length_append]at hl;refine⟨?_,fun k=>?_⟩
 ·rw[show p++r=p++(r++[]) by simp,dp rfl (by simp only[List.length_append,List.length_nil];omega),List.append_nil];exact fJ.of_full hf (.last (by rw[bO];omega) fu)
 rw[wl (by rw[List.length_append];omega) (Nat.le_refl _)];exact hk k
end
end Go.Proofs.YthlkgmdkabelpaaGreat.St
