/-
  Packed by program (tools/pack.py) out of the texts Y0 Y1 Y2 Y3. No condition.
-/

set_option linter.all false
namespace Go.Proofs.YthlkgmdkabelpaaGreat.St
section
variable {α:Type} (key:α->Int)
def bV:List α->Prop
 |[]=>True
 |x::l=>(∀y∈l,key x<=key y)/\bV l
def fk(k:Int)(l:List α):List α:=l.filter fun x=>decide (key x=k)
def vK(l m:List α):Prop:=bV key m/\∀k,fk key k m=fk key k l
def mX(x:α):List α->List α
 |[]=>[x]
 |y::l=>if key y<key x then y::mX x l else x::y::l
def bO:List α->List α
 |[]=>[]
 |x::l=>mX key x (bO l)
end
section
variable {α:Type} {key:α->Int}
theorem jZ{k:Int}{a b:List α}:fk key k (a++b)=fk key k a++fk key k b:=List.filter_append ..
theorem xV{k:Int}:fk key k []=[]:=rfl
theorem dc{k:Int}{x:α}{l:List α}:fk key k (x::l)=if key x=k then x::fk key k l else fk key k l:=by
 unfold fk;rw[List.filter_cons];by_cases h:key x=k<;>simp[h]
theorem uP{k:Int}{l:List α}(h:∀x∈l,key x≠k):fk key k l=[]:=by
 unfold fk;rw[List.filter_eq_nil_iff];intro x hx;simpa using h x hx
theorem nD{k:Int}{l:List α}{x:α}:x∈fk key k l↔x∈l/\key x=k:=by
 unfold fk;rw[List.mem_filter];simp
theorem vK.mem{l m:List α}(h:vK key l m){x:α}:x∈m↔x∈l:=by
 have:=h.2 (key x);constructor
 ·intro hx;have:x∈fk key (key x) l:=by rw[<-this];exact nD.2 ⟨hx,rfl⟩
  exact(nD.1 this).1
 intro hx;have:x∈fk key (key x) m:=by rw[this];exact nD.2 ⟨hx,rfl⟩
 exact(nD.1 this).1
theorem kq{a b:List α}:bV key (a++b)↔bV key a/\bV key b/\∀x∈a,∀y∈b,key x<=key y:=by
 induction a with
 |nil=>simp[bV]
 |cons x a ih=>
  simp only[List.cons_append,bV,ih,List.mem_append,List.mem_cons];constructor
  ·rintro ⟨h1,h2,h3,h4⟩;refine⟨⟨fun y hy=>h1 y (.inl hy),h2⟩,h3,?_⟩;rintro z (rfl|hz) y hy
   ·exact h1 y (.inr hy)
   exact h4 z hz y hy
  rintro ⟨⟨h1,h2⟩,h3,h4⟩;refine⟨?_,h2,h3,fun z hz=>h4 z (.inr hz)⟩;rintro y (hy|hy)
  ·exact h1 y hy
  exact h4 x (.inl rfl) y hy
theorem bV.head{x:α}{l:List α}(h:bV key (x::l)):∀y∈l,key x<=key y:=h.1
theorem pj:∀{a b:List α},bV key a->bV key b->(∀k,fk key k a=fk key k b)->a=b
 |[],[],_,_,_=>rfl
 |[],y::b,_,_,h=>by
  have:=h (key y);rw[xV,dc,if_pos rfl]at this;cases this
 |x::a,[],_,_,h=>by
  have:=h (key x);rw[xV,dc,if_pos rfl]at this;cases this
 |x::a,y::b,ha,hb,h=>by
  have hx:x∈y::b:=(nD.1 (h (key x)▸nD.2 ⟨List.mem_cons_self,rfl⟩)).1;have hy:y∈x::a:=(nD.1 ((h (key y)).symm▸nD.2 ⟨List.mem_cons_self,rfl⟩)).1;have h1:key y<=key x:=by
   rcases List.mem_cons.1 hx with e|e
   ·rw[e];exact Int.le_refl _
   exact hb.1 x e
  have h2:key x<=key y:=by
   rcases List.mem_cons.1 hy with e|e
   ·rw[e];exact Int.le_refl _
   exact ha.1 y e
  have he:key x=key y:=Int.le_antisymm h2 h1;have:=h (key x);rw[dc,dc,if_pos rfl,if_pos he.symm]at this;obtain⟨rfl,_⟩:=List.cons.inj this;refine congrArg (x::·) (pj ha.2 hb.2 fun k=>?_);have:=h k;rw[dc,dc]at this;split at this
  ·exact(List.cons.inj this).2
  exact this
theorem Gx{k:Int}{x:α}:∀{l:List α},fk key k (mX key x l)=fk key k (x::l)
 |[]=>rfl
 |y::l=>by
  unfold mX;split
  ·rename_i h;rw[dc,Gx,dc,dc,dc];by_cases h1:key y=k
   ·rw[if_pos h1,if_neg (by omega),if_neg (by omega),if_pos h1]
   simp[h1]
  rfl
theorem DC{x z:α}:∀{l:List α},z∈mX key x l↔z=x\/z∈l
 |[]=>by simp[mX]
 |y::l=>by
  unfold mX;split
  ·rw[List.mem_cons,DC,List.mem_cons];constructor<;>(rintro (h|h|h)<;>simp[h])
  rw[List.mem_cons,List.mem_cons]
theorem Ct{x:α}:∀{l:List α},bV key l->bV key (mX key x l)
 |[],_=>⟨fun _ h=>(by cases h),trivial⟩
 |y::l,h=>by
  unfold mX;split
  ·rename_i hlt;refine⟨fun z hz=>?_,Ct h.2⟩;rcases DC.1 hz with rfl|hz
   ·omega
   exact h.1 z hz
  rename_i hlt;refine⟨fun z hz=>?_,h⟩;rcases List.mem_cons.1 hz with rfl|hz
  ·omega
  have:=h.1 z hz;omega
theorem gg:∀(l:List α),vK key l (bO key l)
 |[]=>⟨trivial,fun _=>rfl⟩
 |x::l=>by
  obtain⟨h1,h2⟩:=gg l;refine⟨Ct h1,fun k=>?_⟩;show fk key k (mX key x (bO key l))=_;rw[Gx,dc,dc,h2]
theorem vK.eq{l m:List α}(h:vK key l m):m=bO key l:=
 pj h.1 (gg l).1 fun k=>(h.2 k).trans ((gg l).2 k).symm
theorem vK.refl{l:List α}(h:bV key l):vK key l l:=⟨h,fun _=>rfl⟩
theorem jQ{l:List α}(h:bV key l):bO key l=l:=(vK.refl h).eq.symm
theorem EU{l m:List α}(h:∀k,fk key k l=fk key k m):bO key l=bO key m:=
 pj (gg l).1 (gg m).1 fun k=>((gg l).2 k).trans ((h k).trans ((gg m).2 k).symm)
theorem mN{k:Int}{l:List α}:fk key k (bO key l)=fk key k l:=(gg l).2 k
theorem gi{l:List α}:bV key (bO key l):=(gg l).1
theorem Ax{l:List α}{x:α}:x∈bO key l↔x∈l:=(gg l).mem
theorem vE{x:α}:∀{l:List α},(mX key x l).length=l.length+1
 |[]=>rfl
 |y::l=>by
  unfold mX;split
  ·rw[List.length_cons,vE,List.length_cons]
  rfl
theorem b8:∀{l:List α},(bO key l).length=l.length
 |[]=>rfl
 |x::l=>by
  show(mX key x (bO key l)).length=_;rw[vE,b8];rfl
theorem qx{u1 u2 v1 v2:List α}(hu:∀x∈u1,∀y∈u2,key x<=key y)(hv:∀x∈v1,∀y∈v2,key x<=key y)(h1:∀x∈u1,∀y∈v2,key x<=key y)(h2:∀x∈v1,∀y∈u2,key x<key y) :
 bO key (u1++u2++(v1++v2))=bO key (u1++v1)++bO key (u2++v2):=by
 refine pj gi ?_ fun k=>?_
 ·rw[kq];refine⟨gi,gi,fun x hx y hy=>?_⟩;rw[Ax,List.mem_append]at hx hy;rcases hx with hx|hx<;>rcases hy with hy|hy
  ·exact hu x hx y hy
  ·exact h1 x hx y hy
  ·exact Int.le_of_lt (h2 x hx y hy)
  exact hv x hx y hy
 rw[mN,jZ (a:=bO key _),mN,mN];simp only[jZ,List.append_assoc];congr 1;rw[<-List.append_assoc,<-List.append_assoc];congr 1;by_cases h:∃x∈v1,key x=k
 ·obtain⟨x,hx,rfl⟩:=h;rw[uP (l:=u2) fun y hy e=>by have:=h2 x hx y hy;omega];simp
 rw[uP (l:=v1) fun y hy e=>h ⟨y,hy,e⟩];simp
def bB(key:α->Int)(l:List α)(a b:Nat):List α:=l.take a++bO key ((l.take b).drop a)++l.drop b
theorem dx{l:List α}{a b:Nat}(h:a<=b)(hb:b<=l.length):(bB key l a b).length=l.length:=by
 unfold bB;simp only[List.length_append,List.length_take,List.length_drop,b8];omega
end
section
variable {α:Type}
def gN(l:List α)(i j:Nat):List α:=match l[i]?,l[j]? with
 |some x,some y=>(l.set i y).set j x
 |_,_=>l
def bJ(l:List α)(a m b:Nat):List α:=l.take a++((l.drop m).take (b-m)++((l.drop a).take (m-a)++l.drop b))
def i5(l:List α)(a b:Nat):Nat->List α
 |0=>l
 |n+1=>gN (i5 l a b n) (a+n) (b+n)
theorem CP{l:List α}{i j:Nat}:(gN l i j).length=l.length:=by
 unfold gN;split<;>simp
theorem uf{l:List α}{i j:Nat}(hi:i<l.length)(hj:j<l.length)(q:Nat):(gN l i j)[q]?=if q=j then l[i]? else if q=i then l[j]? else l[q]?:=by
 unfold gN;rw[List.getElem?_eq_getElem hi,List.getElem?_eq_getElem hj];simp only;rw[List.getElem?_set,List.getElem?_set];by_cases h1:q=j
 ·subst h1;simp[hj]
 rw[if_neg (fun e=>h1 e.symm),if_neg h1];by_cases h2:q=i
 ·subst h2;simp[hi]
 rw[if_neg (fun e=>h2 e.symm),if_neg h2]
theorem e8{l:List α}{a b:Nat}:∀n,(i5 l a b n).length=l.length
 |0=>rfl
 |n+1=>by rw[i5,CP,e8]
theorem u6{l:List α}{a b:Nat}:∀{n:Nat},a+n<=b->b+n<=l.length->∀q,(i5 l a b n)[q]?=if a<=q/\q<a+n then l[q-a+b]? else if b<=q/\q<b+n then l[q-b+a]? else l[q]?
 |0,_,_,q=>by rw[i5,if_neg (by omega),if_neg (by omega)]
 |n+1,h1,h2,q=>by
  rw[i5,uf (by rw[e8];omega) (by rw[e8];omega)];simp only[u6 (show a+n<=b by omega) (show b+n<=l.length by omega)];by_cases e1:q=b+n
  ·subst e1;rw[if_pos rfl,if_neg (by omega),if_neg (by omega),if_neg (by omega),if_pos (by omega)];congr 1;omega
  rw[if_neg e1];by_cases e2:q=a+n
  ·subst e2;rw[if_pos rfl,if_neg (by omega),if_neg (by omega),if_pos (by omega)];congr 1;omega
  rw[if_neg e2]
  repeat' split
  all_goals first|omega|rfl|(congr 1;omega)
theorem fw{l:List α}{a m b:Nat}(h1:a<=m)(h2:m<=b)(h3:b<=l.length):(bJ l a m b).length=l.length:=by
 unfold bJ;simp only[List.length_append,List.length_take,List.length_drop];omega
theorem fv{l:List α}{a m b:Nat}(h1:a<=m)(h2:m<=b)(h3:b<=l.length)(q:Nat):(bJ l a m b)[q]?=if q<a then l[q]? else if q<a+(b-m)then l[q+(m-a)]? else if q<b then l[q-(b-m)]? else l[q]?:=by
 unfold bJ;rw[List.getElem?_append,List.length_take,Nat.min_eq_left (by omega)];by_cases c1:q<a
 ·rw[if_pos c1,if_pos c1,List.getElem?_take,if_pos c1]
 rw[if_neg c1,if_neg c1,List.getElem?_append,List.length_take,List.length_drop,Nat.min_eq_left (by omega)];by_cases c2:q<a+(b-m)
 ·rw[if_pos (by omega),if_pos c2,List.getElem?_take,if_pos (by omega),List.getElem?_drop];congr 1;omega
 rw[if_neg (by omega),if_neg c2,List.getElem?_append,List.length_take,List.length_drop,Nat.min_eq_left (by omega)];by_cases c3:q<b
 ·rw[if_pos (by omega),if_pos c3,List.getElem?_take,if_pos (by omega),List.getElem?_drop];congr 1;omega
 rw[if_neg (by omega),if_neg c3,List.getElem?_drop];congr 1;omega
theorem m7{l:List α}{a b:Nat}(h:a<=b)(hb:b<=l.length):bJ l a a b=l:=by
 refine List.ext_getElem? fun q=>?_
 rw[fv (Nat.le_refl _) h hb];split
 ·rfl
 split
 ·congr 1;omega
 split
 ·omega
 rfl
theorem qi{l:List α}{a b:Nat}(h:a<=b)(hb:b<=l.length):bJ l a b b=l:=by
 refine List.ext_getElem? fun q=>?_
 rw[fv h (Nat.le_refl _) hb];split
 ·rfl
 split
 ·omega
 split
 ·congr 1;omega
 rfl
theorem Lx{l:List α}{m i j:Nat}(hi:i<=m)(hj:m+j<=l.length)(h:j<i):bJ (i5 l (m-i) m j) (m-(i-j)) m (m+j)=bJ l (m-i) m (m+j):=by
 refine List.ext_getElem? fun q=>?_
 rw[fv (by omega) (by omega) (by rw[e8];omega),fv (by omega) (by omega) hj];simp only[u6 (show m-i+j<=m by omega) hj]
 repeat' split
 all_goals first|omega|rfl|(congr 1;omega)
theorem Lg{l:List α}{m i j:Nat}(hi:i<=m)(hj:m+j<=l.length)(h:i<j):bJ (i5 l (m-i) (m+j-i) i) (m-i) m (m+(j-i))=bJ l (m-i) m (m+j):=by
 refine List.ext_getElem? fun q=>?_
 rw[fv (by omega) (by omega) (by rw[e8];omega),fv (by omega) (by omega) hj];simp only[u6 (show m-i+i<=m+j-i by omega) (show m+j-i+i<=l.length by omega)]
 repeat' split
 all_goals first|omega|rfl|(congr 1;omega)
theorem KV{l:List α}{m i:Nat}(hi:i<=m)(hj:m+i<=l.length):i5 l (m-i) m i=bJ l (m-i) m (m+i):=by
 refine List.ext_getElem? fun q=>?_
 rw[fv (by omega) (by omega) hj];simp only[u6 (show m-i+i<=m by omega) hj]
 repeat' split
 all_goals first|omega|rfl|(congr 1;omega)
theorem Kz{l:List α}{a k:Nat}(h:a<=k)(hk:k+2<=l.length):gN (bJ l a (a+1) (k+1)) k (k+1)=bJ l a (a+1) (k+2):=by
 have hl:(bJ l a (a+1) (k+1)).length=l.length:=fw (by omega) (by omega) (by omega);refine List.ext_getElem? fun q=>?_
 rw[uf (by omega) (by omega)];simp only[fv (show a<=a+1 by omega) (show a+1<=k+1 by omega) (show k+1<=l.length by omega),fv (show a<=a+1 by omega) (show a+1<=k+2 by omega) (show k+2<=l.length by omega)]
 repeat' split
 all_goals first|omega|rfl|(congr 1;omega)
theorem sW{l:List α}{k m:Nat}(hk:0<k)(h:k<=m)(hm:m+1<=l.length):gN (bJ l k m (m+1)) k (k-1)=bJ l (k-1) m (m+1):=by
 have hl:(bJ l k m (m+1)).length=l.length:=fw (by omega) (by omega) (by omega);refine List.ext_getElem? fun q=>?_
 rw[uf (by omega) (by omega)];simp only[fv (show k<=m by omega) (show m<=m+1 by omega) (show m+1<=l.length by omega),fv (show k-1<=m by omega) (show m<=m+1 by omega) (show m+1<=l.length by omega)]
 repeat' split
 all_goals first|omega|rfl|(congr 1;omega)
end
section
variable {α:Type} {key:α->Int}
theorem KG{p x q:List α}:((p++(x++q)).take (p.length+x.length)).drop p.length=x:=by
 rw[<-List.append_assoc,List.take_left' (by rw[List.length_append]),List.drop_left' rfl]
theorem dE{p x q:List α}{a b:Nat}(ha:a=p.length)(hb:b=p.length+x.length):bB key (p++(x++q)) a b=p++(bO key x++q):=by
 subst ha hb;unfold bB;rw[KG,List.take_left' rfl,<-List.append_assoc p x q,List.drop_left' (by rw[List.length_append]),List.append_assoc]
theorem ut{p u v q:List α}{a m b:Nat}(ha:a=p.length)(hm:m=a+u.length)(hb:b=m+v.length):bJ (p++(u++(v++q))) a m b=p++(v++(u++q)):=by
 subst ha hm hb;unfold bJ;rw[List.take_left' rfl,List.drop_left' rfl,Nat.add_sub_cancel_left,Nat.add_sub_cancel_left,List.take_left' rfl];rw[show p++(u++(v++q))=(p++u)++(v++q) by simp,List.drop_left' (by rw[List.length_append]),List.take_left' rfl];rw[show p++u++(v++q)=(p++u++v)++q by simp,List.drop_left' (by rw[List.length_append,List.length_append])]
theorem Aa{l:List α}{a b:Nat}(h1:a<=b)(h2:b<=l.length):∃p x q,l=p++(x++q)/\p.length=a/\x.length=b-a:=
 ⟨l.take a,(l.drop a).take (b-a),l.drop b,by
  rw[show l.drop b=(l.drop a).drop (b-a) by rw[List.drop_drop];congr 1;omega,List.take_append_drop,List.take_append_drop],by rw[List.length_take];omega,by rw[List.length_take,List.length_drop];omega⟩
theorem getElem?_mid{p x q:List α}{i:Nat}(h1:p.length<=i)(h2:i<p.length+x.length):(p++(x++q))[i]?=x[i-p.length]?:=by
 rw[List.getElem?_append,if_neg (by omega),List.getElem?_append,if_pos (by omega)]
theorem bV.le_last{l:List α}(h:bV key l){z:α}(hz:l[l.length-1]?=some z):∀x∈l,key x<=key z:=by
 induction l with
 |nil=>intro x hx;cases hx
 |cons y l ih=>
  intro x hx;cases l with
  |nil=>
   simp at hz hx;subst hz hx;exact Int.le_refl _
  |cons w l'=>
   have hz':(w::l')[(w::l').length-1]?=some z:=by rw[<-hz];simp
   rcases List.mem_cons.1 hx with rfl|hx
   ·exact h.1 z (List.mem_of_getElem? hz')
   exact ih h.2 hz' x hx
theorem bV.first_le{l:List α}(h:bV key l){z:α}(hz:l[0]?=some z):∀x∈l,key z<=key x:=by
 cases l with
 |nil=>intro x hx;cases hx
 |cons y l=>
  simp at hz;subst hz;intro x hx;rcases List.mem_cons.1 hx with rfl|hx
  ·exact Int.le_refl _
  exact h.1 x hx
end
section
variable {α:Type} {key:α->Int}
def dY(l:List α)(a b:Nat):List α:=(l.take b).drop a
def bW(key:α->Int)(l:List α)(i:Nat):Int:=(l[i]?.map key).getD 0
theorem ec{p x q:List α}{a b:Nat}(ha:a=p.length)(hb:b=p.length+x.length):dY (p++(x++q)) a b=x:=by
 subst ha hb;exact KG
theorem rI{l:List α}{a b:Nat}(hb:b<=l.length):(dY l a b).length=b-a:=by
 unfold dY;rw[List.length_drop,List.length_take,Nat.min_eq_left hb]
theorem Gt{l:List α}{a b:Nat}:bB key l a b=l.take a++(bO key (dY l a b)++l.drop b):=by
 unfold bB dY;rw[List.append_assoc]
theorem Hb{l:List α}{a b i:Nat}:(dY l a b)[i]?=if a+i<b then l[a+i]? else none:=by
 unfold dY;rw[List.getElem?_drop,List.getElem?_take]
theorem EL{l:List α}{a b q:Nat}(h1:a<=b)(h2:b<=l.length)(h:q<a\/b<=q):(bB key l a b)[q]?=l[q]?:=by
 rw[Gt,List.getElem?_append,List.length_take,Nat.min_eq_left (by omega)];rcases h with h|h
 ·rw[if_pos h,List.getElem?_take,if_pos h]
 rw[if_neg (by omega),List.getElem?_append,b8,rI h2,if_neg (by omega),List.getElem?_drop];congr 1;omega
theorem Mu{l m:List α}{a b:Nat}(h:∀q,a<=q->q<b->l[q]?=m[q]?):dY l a b=dY m a b:=by
 refine List.ext_getElem? fun i=>?_
 rw[Hb,Hb];split
 ·exact h _ (by omega) (by omega)
 rfl
theorem mq{l:List α}{a b c d:Nat}(h1:a<=b)(h2:b<=l.length)(h:d<=a\/b<=c):dY (bB key l a b) c d=dY l c d:=
 Mu fun q g1 g2=>EL h1 h2 (by omega)
theorem DN{l:List α}{a b:Nat}(h1:a<=b)(h2:b<=l.length):dY (bB key l a b) a b=bO key (dY l a b):=by
 rw[Gt];exact ec (by rw[List.length_take];omega) (by rw[List.length_take,b8,rI h2];omega)
theorem gM{l:List α}{a b:Nat}(h1:a<=b)(h2:b<=l.length)(h:bV key (dY l a b)):bB key l a b=l:=by
 obtain⟨p,x,q,rfl,hp,hx⟩:=Aa h1 h2;have hb:b=p.length+x.length:=by omega
 rw[ec hp.symm hb]at h;rw[dE hp.symm hb,jQ h]
theorem xj{l:List α}{a b:Nat}(h:b<=a+1)(h1:a<=b)(h2:b<=l.length):bB key l a b=l:=gM h1 h2 (by
 have hl:=rI (a:=a) h2
 match hs:dY l a b with
 |[]=>exact trivial
 |[x]=>exact⟨fun _ h=>(by cases h),trivial⟩
 |x::y::t=>rw[hs]at hl;simp at hl;omega)
theorem MW{l:List α}{a s m e b:Nat}(h1:a<=s)(h2:s<=m)(h3:m<=e)(h4:e<=b)(h5:b<=l.length) :
 ∃p u1 u2 v1 v2 q,l=p++(u1++(u2++(v1++(v2++q))))/\p.length=a/\u1.length=s-a/\u2.length=m-s/\v1.length=e-m/\v2.length=b-e:=by
 obtain⟨p,x,q,rfl,hp,hx⟩:=Aa (show a<=b by omega) h5;obtain⟨u,v,w,rfl,hu,hv⟩:=Aa (l:=x) (a:=s-a) (b:=m-a) (by omega) (by omega);have hw:w.length=b-m:=by simp only[List.length_append]at hx;omega
 refine⟨p,u,v,w.take (e-m),w.drop (e-m),q,?_,hp,hu,by omega,by rw[List.length_take];omega,by rw[List.length_drop];omega⟩;simp only[List.append_assoc];rw[<-List.append_assoc (w.take _),List.take_append_drop]
theorem yy{l:List α}{i:Nat}{x:α}(h:l[i]?=some x):bW key l i=key x:=by unfold bW;rw[h];rfl
theorem lO{p x q:List α}{i:Nat}(h1:p.length<=i)(h2:i<p.length+x.length):∃y∈x,x[i-p.length]?=some y/\bW key (p++(x++q)) i=key y:=by
 have h:i-p.length<x.length:=by omega
 refine⟨x[i-p.length],List.getElem_mem h,List.getElem?_eq_getElem h,?_⟩;refine yy ?_;rw[getElem?_mid h1 h2,List.getElem?_eq_getElem h]
structure Xo(key:α->Int)(l:List α)(a m b s:Nat) where
 lo:Nat
 hi:Nat
 hb:b<=l.length
 am:a<m
 mb:m<b
 elo:lo=if(a+b)/2<m then(a+b)/2+m-b else a
 ehi:hi=if(a+b)/2<m then(a+b)/2 else m
 h1:lo<=s
 h2:s<=hi
 c1:s=lo\/bW key l (s-1)<=bW key l ((a+b)/2+m-s)
 c2:s=hi\/bW key l ((a+b)/2+m-s-1)<bW key l s
theorem Em{l:List α}{a m b s:Nat}(h:Xo key l a m b s)(hs1:bV key (dY l a m))(hs2:bV key (dY l m b)) :
 ∀e,e=(a+b)/2+m-s->a<=s/\s<=(a+b)/2/\s<=m/\m<=e/\e<=b/\(a+b)/2<=e/\bV key (dY (bJ l s m e) a s)/\bV key (dY (bJ l s m e) s ((a+b)/2))/\bV key (dY (bJ l s m e) ((a+b)/2) e)/\bV key (dY (bJ l s m e) e b) /\
  bB key (bB key (bJ l s m e) a ((a+b)/2)) ((a+b)/2) b=bB key l a b:=by
 obtain⟨lo,hi,hb,am,mb,elo,ehi,g1,g2,c1,c2⟩:=h;intro e he;obtain⟨mid,hmid⟩:∃mid,mid=(a+b)/2:=⟨_,rfl⟩;rw[<-hmid]at elo ehi c1 c2 he ⊢;have b1:a<=s:=by split at elo<;>omega
 have b2:s<=mid:=by split at ehi<;>omega
 have b3:s<=m:=by split at ehi<;>omega
 have b4:m<=e:=by omega
 have b5:e<=b:=by split at elo<;>omega
 have b6:mid<=e:=by omega
 refine⟨b1,b2,b3,b4,b5,b6,?_⟩;obtain⟨p,u1,u2,v1,v2,q,rfl,hp,hu1,hu2,hv1,hv2⟩:=MW b1 b3 b4 b5 hb;have es:s=(p++u1).length:=by rw[List.length_append];omega
 have hr:bJ (p++(u1++(u2++(v1++(v2++q))))) s m e=p++(u1++(v1++(u2++(v2++q)))):=by rw[<-List.append_assoc,ut (p:=p++u1) (u:=u2) (v:=v1) (q:=v2++q) es (by omega) (by omega),List.append_assoc]
 rw[hr];have q1:dY (p++(u1++(u2++(v1++(v2++q))))) a m=u1++u2:=by rw[<-List.append_assoc u1];exact ec hp.symm (by rw[List.length_append];omega)
 have q2:dY (p++(u1++(u2++(v1++(v2++q))))) m b=v1++v2:=by rw[<-List.append_assoc v1,<-List.append_assoc p,<-List.append_assoc (p++u1)];exact ec (by simp only[List.length_append];omega) (by simp only[List.length_append];omega)
 rw[q1]at hs1;rw[q2]at hs2;obtain⟨su1,su2,sux⟩:=kq.1 hs1;obtain⟨sv1,sv2,svx⟩:=kq.1 hs2;refine⟨?_,?_,?_,?_,?_⟩
 ·rw[ec hp.symm (by omega)];exact su1
 ·rw[<-List.append_assoc,ec es (by rw[List.length_append];omega)];exact sv1
 ·rw[<-List.append_assoc u1,<-List.append_assoc,ec (by simp only[List.length_append];omega) (by simp only[List.length_append];omega)];exact su2
 ·rw[<-List.append_assoc v1,<-List.append_assoc u1,<-List.append_assoc,ec (by simp only[List.length_append];omega) (by simp only[List.length_append];omega)];exact sv2
 have hx:∀x∈u1,∀y∈v2,key x<=key y:=fun x hx y hy=>by
  have hlu:u1.length≠0:=fun e=>by rw[List.length_eq_zero_iff.1 e]at hx;cases hx
  have hlv:v2.length≠0:=fun e=>by rw[List.length_eq_zero_iff.1 e]at hy;cases hy
  have c:bW key (p++(u1++(u2++(v1++(v2++q))))) (s-1)<=bW key (p++(u1++(u2++(v1++(v2++q))))) e:=by
   rcases c1 with c|c
   ·split at elo<;>omega
   rw[he];exact c
  obtain⟨z,hz,hz1,hz2⟩:=lO (key:=key) (p:=p) (x:=u1) (q:=u2++(v1++(v2++q))) (i:=s-1) (by omega) (by omega);have hz3:=su1.le_last (show u1[u1.length-1]?=some z by rw[<-hz1];congr 1;omega) x hx;rw[hz2]at c;have heq:p++(u1++(u2++(v1++(v2++q))))=(p++(u1++(u2++v1)))++(v2++q):=by simp
  rw[heq]at c;obtain⟨w,hw,hw1,hw2⟩:=lO (key:=key) (p:=p++(u1++(u2++v1))) (x:=v2) (q:=q) (i:=e) (by simp only[List.length_append];omega) (by simp only[List.length_append];omega);have hw3:=sv2.first_le (show v2[0]?=some w by rw[<-hw1];congr 1;simp only[List.length_append];omega) y hy
  rw[hw2]at c;omega
 have hy:∀x∈v1,∀y∈u2,key x<key y:=fun x hx y hy=>by
  have hlu:u2.length≠0:=fun e=>by rw[List.length_eq_zero_iff.1 e]at hy;cases hy
  have hlv:v1.length≠0:=fun e=>by rw[List.length_eq_zero_iff.1 e]at hx;cases hx
  have c:bW key (p++(u1++(u2++(v1++(v2++q))))) (e-1)<bW key (p++(u1++(u2++(v1++(v2++q))))) s:=by
   rcases c2 with c|c
   ·split at ehi<;>omega
   rw[he];exact c
  have heq:p++(u1++(u2++(v1++(v2++q))))=(p++u1)++(u2++(v1++(v2++q))):=by simp
  have heq2:p++(u1++(u2++(v1++(v2++q))))=(p++(u1++u2))++(v1++(v2++q)):=by simp
  obtain⟨w,hw,hw1,hw2⟩:=lO (key:=key) (p:=p++u1) (x:=u2) (q:=v1++(v2++q)) (i:=s) (by simp only[List.length_append];omega) (by simp only[List.length_append];omega);have hw3:=su2.first_le (show u2[0]?=some w by rw[<-hw1];congr 1;simp only[List.length_append];omega) y hy
  obtain⟨z,hz,hz1,hz2⟩:=lO (key:=key) (p:=p++(u1++u2)) (x:=v1) (q:=v2++q) (i:=e-1) (by simp only[List.length_append];omega) (by simp only[List.length_append];omega);have hz3:=sv1.le_last (show v1[v1.length-1]?=some z by rw[<-hz1];congr 1;simp only[List.length_append];omega) x hx;rw[<-heq2]at hz2;rw[<-heq]at hw2;rw[hz2,hw2]at c;omega
 rw[show p++(u1++(v1++(u2++(v2++q))))=p++((u1++v1)++(u2++(v2++q))) by simp,dE hp.symm (by rw[List.length_append];omega)];rw[show p++(bO key (u1++v1)++(u2++(v2++q)))=(p++bO key (u1++v1))++((u2++v2)++q) by simp,dE (by rw[List.length_append,b8,List.length_append];omega) (by rw[List.length_append,b8];simp only[List.length_append];omega)];rw[show p++(u1++(u2++(v1++(v2++q))))=p++((u1++u2++(v1++v2))++q) by simp,dE hp.symm (by simp only[List.length_append];omega),qx sux svx hx hy];simp
theorem ML{l:List α}{a b i:Nat}(hb:b<=l.length)(h1:a+1<=i)(h2:i<=b)(hs:bV key (dY l (a+1) b))(c1:i=a+1\/bW key l (i-1)<bW key l a)(c2:i=b\/bW key l a<=bW key l i) :
 bJ l a (a+1) i=bB key l a b:=by
 obtain⟨p,u1,x,v1,v2,q,rfl,hp,hu1,hx,hv1,hv2⟩:=MW (Nat.le_refl a) (show a<=a+1 by omega) h1 h2 hb;have:u1=[]:=List.length_eq_zero_iff.1 (by omega);subst this;obtain⟨x,rfl⟩:∃y,x=[y]:=List.length_eq_one_iff.1 (by omega);simp only[List.nil_append];have hs':bV key (v1++v2):=by
  have:dY (p++([]++([x]++(v1++(v2++q))))) (a+1) b=v1++v2:=by rw[show p++([]++([x]++(v1++(v2++q))))=(p++[x])++((v1++v2)++q) by simp];exact ec (by rw[List.length_append];simp;omega) (by simp only[List.length_append,List.length_cons,List.length_nil];omega)
  rw[this]at hs;exact hs
 obtain⟨sv1,sv2,svx⟩:=kq.1 hs';rw[ut hp.symm (by simp) (by omega)];rw[show p++([x]++(v1++(v2++q)))=p++(([]++[x]++(v1++v2))++q) by simp,dE hp.symm (by simp only[List.length_append,List.length_cons,List.length_nil];omega)];have ex:∀w:List α,bW key (p++([]++([x]++w))) a=key x:=fun w=>yy (by rw[List.nil_append,List.getElem?_append,if_neg (by omega),hp,Nat.sub_self];rfl)
 rw[ex]at c1 c2;have hlt:∀z∈v1,∀y∈[x],key z<key y:=fun z hz y hy=>by
  rw[List.mem_singleton]at hy;subst hy;have hl:v1.length≠0:=fun e=>by rw[List.length_eq_zero_iff.1 e]at hz;cases hz
  rcases c1 with c|c
  ·omega
  rw[show p++([]++([y]++(v1++(v2++q))))=(p++[y])++(v1++(v2++q)) by simp]at c;obtain⟨w,hw,hw1,hw2⟩:=lO (key:=key) (p:=p++[y]) (x:=v1) (q:=v2++q) (i:=i-1) (by simp only[List.length_append,List.length_cons,List.length_nil];omega) (by simp only[List.length_append,List.length_cons,List.length_nil];omega);have:=sv1.le_last (show v1[v1.length-1]?=some w by rw[<-hw1];congr 1;simp only[List.length_append,List.length_cons,List.length_nil];omega) z hz;omega
 have hle:∀y∈v2,key x<=key y:=fun y hy=>by
  have hl:v2.length≠0:=fun e=>by rw[List.length_eq_zero_iff.1 e]at hy;cases hy
  rcases c2 with c|c
  ·omega
  rw[show p++([]++([x]++(v1++(v2++q))))=(p++([x]++v1))++(v2++q) by simp]at c;obtain⟨w,hw,hw1,hw2⟩:=lO (key:=key) (p:=p++([x]++v1)) (x:=v2) (q:=q) (i:=i) (by simp only[List.length_append,List.length_cons,List.length_nil];omega) (by simp only[List.length_append,List.length_cons,List.length_nil];omega);have:=sv2.first_le (show v2[0]?=some w by rw[<-hw1];congr 1;simp only[List.length_append,List.length_cons,List.length_nil];omega) y hy
  omega
 rw[qx (fun _ h=>by cases h) svx (fun _ h=>by cases h) hlt,List.nil_append,jQ sv1,jQ (l:=[x]++v2) ⟨hle,sv2⟩];simp
theorem rO{l:List α}{a b i:Nat}(hb:b+1<=l.length)(h1:a<=i)(h2:i<=b)(hs:bV key (dY l a b))(c1:i=a\/bW key l (i-1)<=bW key l b)(c2:i=b\/bW key l b<bW key l i) :
 bJ l i b (b+1)=bB key l a (b+1):=by
 obtain⟨p,u1,u2,x,v2,q,rfl,hp,hu1,hu2,hx,hv2⟩:=MW h1 h2 (show b<=b+1 by omega) (Nat.le_refl _) hb;have:v2=[]:=List.length_eq_zero_iff.1 (by omega);subst this;obtain⟨x,rfl⟩:∃y,x=[y]:=List.length_eq_one_iff.1 (by omega);simp only[List.nil_append];have hs':bV key (u1++u2):=by
  have:dY (p++(u1++(u2++([x]++([]++q))))) a b=u1++u2:=by rw[show p++(u1++(u2++([x]++([]++q))))=p++((u1++u2)++([x]++q)) by simp];exact ec hp.symm (by simp only[List.length_append];omega)
  rw[this]at hs;exact hs
 obtain⟨su1,su2,sux⟩:=kq.1 hs';rw[show p++(u1++(u2++([x]++q)))=(p++u1)++(u2++([x]++q)) by simp,ut (by rw[List.length_append];omega) (by omega) (by simp)];rw[show p++u1++(u2++([x]++q))=p++((u1++u2++([x]++[]))++q) by simp,dE hp.symm (by simp only[List.length_append,List.length_cons,List.length_nil];omega)];have ex:bW key (p++(u1++(u2++([x]++([]++q))))) b=key x:=yy (by
  rw[show p++(u1++(u2++([x]++([]++q))))=(p++(u1++u2))++([x]++q) by simp,List.getElem?_append,if_neg (by simp only[List.length_append];omega),show b-(p++(u1++u2)).length=0 by simp only[List.length_append];omega];rfl)
 rw[ex]at c1 c2;have hle:∀y∈u1,∀z∈[x],key y<=key z:=fun y hy z hz=>by
  rw[List.mem_singleton]at hz;subst hz;have hl:u1.length≠0:=fun e=>by rw[List.length_eq_zero_iff.1 e]at hy;cases hy
  rcases c1 with c|c
  ·omega
  obtain⟨w,hw,hw1,hw2⟩:=lO (key:=key) (p:=p) (x:=u1) (q:=u2++([z]++([]++q))) (i:=i-1) (by omega) (by omega);have:=su1.le_last (show u1[u1.length-1]?=some w by rw[<-hw1];congr 1;omega) y hy;omega
 have hlt:∀z∈[x],∀y∈u2,key z<key y:=fun z hz y hy=>by
  rw[List.mem_singleton]at hz;subst hz;have hl:u2.length≠0:=fun e=>by rw[List.length_eq_zero_iff.1 e]at hy;cases hy
  rcases c2 with c|c
  ·omega
  rw[show p++(u1++(u2++([z]++([]++q))))=(p++u1)++(u2++([z]++([]++q))) by simp]at c;obtain⟨w,hw,hw1,hw2⟩:=lO (key:=key) (p:=p++u1) (x:=u2) (q:=[z]++([]++q)) (i:=i) (by simp only[List.length_append];omega) (by simp only[List.length_append];omega);have:=su2.first_le (show u2[0]?=some w by rw[<-hw1];congr 1;simp only[List.length_append];omega) y hy
  omega
 rw[qx sux (fun _ _ _ h=>by cases h) (fun _ _ _ h=>by cases h) hlt,jQ (l:=u1++[x]) (kq.2 ⟨su1,⟨fun _ h=>(by cases h),trivial⟩,hle⟩),List.append_nil,jQ su2];simp
end
section
variable {α:Type}
inductive yG(key:α->Int)(bs:Nat):List α->Prop
 |nil:yG key bs []
 |snoc {p x:List α}:yG key bs p->x.length=bs->bV key x->yG key bs (p++x)
inductive gl(key:α->Int)(bs:Nat):List α->Prop
 |last {x:List α}:x.length<=bs->bV key x->gl key bs x
 |cons {x r:List α}:x.length=bs->bV key x->gl key bs r->gl key bs (x++r)
variable {key:α->Int} {bs:Nat}
theorem gl.of_full{p r:List α}(h:yG key bs p):gl key bs r->gl key bs (p++r):=by
 induction h generalizing r with
 |nil=>exact id
 |snoc _ h2 h3 ih=>intro hr;rw[List.append_assoc];exact ih (.cons h2 h3 hr)
theorem gl.small{r:List α}(h:gl key bs r)(hr:r.length<=bs):bV key r:=by
 cases h with
 |last _ h=>exact h
 |cons h1 h2 h3=>
  rename_i x r;have:r=[]:=List.length_eq_zero_iff.1 (by rw[List.length_append]at hr;omega);subst this;rwa [List.append_nil]
theorem gl.two{r:List α}(h:gl key bs r)(hr:bs<r.length):∃x y,r=x++y/\x.length=bs/\bV key x/\gl key bs y:=by
 cases h with
 |last h _=>omega
 |cons h1 h2 h3=>exact⟨_,_,rfl,h1,h2,h3⟩
theorem gl.pair{r:List α}(h:gl key bs r)(hb:0<bs)(hr:2*bs<=r.length):∃x y z,r=x++(y++z)/\x.length=bs/\y.length=bs/\bV key x/\bV key y/\gl key bs z:=by
 obtain⟨x,w,rfl,h1,h2,h3⟩:=h.two (by omega);rw[List.length_append]at hr;cases h3 with
 |last g1 g2=>exact⟨x,w,[],by simp,h1,by omega,h2,g2,.last (Nat.zero_le _) trivial⟩
 |cons g1 g2 g3=>exact⟨x,_,_,rfl,h1,g1,h2,g2,g3⟩
theorem gl.tail{r:List α}(h:gl key bs r)(h1:bs<r.length)(h2:r.length<2*bs):∃x y,r=x++y/\x.length=bs/\bV key x/\bV key y:=by
 obtain⟨x,w,rfl,g1,g2,g3⟩:=h.two h1;rw[List.length_append]at h2;exact⟨x,w,rfl,g1,g2,g3.small (by omega)⟩
structure Ep(key:α->Int)(b1 b2:Nat)(l0 l:List α)(a:Nat) where
 p:List α
 r:List α
 eq:l=p++r
 ha:p.length=a
 full:yG key b1 p
 rest:gl key b2 r
 fk:∀k,fk key k l=fk key k l0
theorem yD{l:List α}{a b:Nat}(h1:a<=b)(h2:b<=l.length)(k:Int):fk key k (bB key l a b)=fk key k l:=by
 obtain⟨p,x,q,rfl,hp,hx⟩:=Aa h1 h2;rw[dE hp.symm (by omega)];simp only[jZ,mN]
theorem A4(bs2:Nat){l0 l:List α}(h:gl key bs l)(hf:∀k,Go.Proofs.YthlkgmdkabelpaaGreat.St.fk key k l=Go.Proofs.YthlkgmdkabelpaaGreat.St.fk key k l0):Nonempty (Ep key bs2 bs l0 l 0):=⟨[],l,rfl,rfl,.nil,h,hf⟩
theorem ER{l0 l:List α}{a:Nat}(h:Ep key (2*bs) bs l0 l a)(hb:0<bs)(hl:a+2*bs<=l.length):bV key (dY l a (a+bs))/\bV key (dY l (a+bs) (a+2*bs))/\Nonempty (Ep key (2*bs) bs l0 (bB key l a (a+2*bs)) (a+2*bs)):=by
 obtain⟨p,r,rfl,rfl,hf,hr,hk⟩:=h;rw[List.length_append]at hl;obtain⟨x,y,z,rfl,h1,h2,h3,h4,h5⟩:=hr.pair hb (by omega);refine⟨?_,?_,⟨⟨p++bO key (x++y),z,?_,?_,.snoc hf ?_ gi,h5,fun k=>?_⟩⟩⟩
 ·rw[ec rfl (by omega)];exact h3
 ·rw[<-List.append_assoc,ec (by rw[List.length_append];omega) (by rw[List.length_append];omega)];exact h4
 ·rw[<-List.append_assoc x,dE rfl (by rw[List.length_append];omega),List.append_assoc]
 ·rw[List.length_append,b8,List.length_append];omega
 ·rw[b8,List.length_append];omega
 rw[yD (by omega) (by simp only[List.length_append];omega)];exact hk k
theorem C6{l0 l:List α}{a:Nat}(h:Ep key (2*bs) bs l0 l a)(hl:l.length<a+2*bs)(hm:a+bs<l.length):bV key (dY l a (a+bs))/\bV key (dY l (a+bs) l.length)/\gl key (2*bs) (bB key l a l.length)/\∀k,Go.Proofs.YthlkgmdkabelpaaGreat.St.fk key k (bB key l a l.length)=Go.Proofs.YthlkgmdkabelpaaGreat.St.fk key k l0:=by
 obtain⟨p,r,rfl,rfl,hf,hr,hk⟩:=h;rw[List.length_append]at hl hm;obtain⟨x,y,rfl,h1,h3,h4⟩:=hr.tail (by omega) (by omega);refine⟨?_,?_,?_,fun k=>?_⟩
 ·rw[ec rfl (by omega)];exact h3
 ·rw[show p++(x++y)=(p++x)++(y++[]) by simp,ec (by rw[List.length_append];omega) (by simp only[List.length_append,List.length_nil];omega)];exact h4
 ·rw[show p++(x++y)=p++((x++y)++[]) by simp,dE rfl (by simp only[List.length_append,List.length_nil];omega),List.append_nil];exact gl.of_full hf (.last (by rw[b8];omega) gi)
 rw[yD (by rw[List.length_append];omega) (Nat.le_refl _)];exact hk k
theorem G4{l0 l:List α}{a:Nat}(h:Ep key (2*bs) bs l0 l a)(hm:l.length<=a+bs):gl key (2*bs) l/\∀k,Go.Proofs.YthlkgmdkabelpaaGreat.St.fk key k l=Go.Proofs.YthlkgmdkabelpaaGreat.St.fk key k l0:=by
 obtain⟨p,r,rfl,rfl,hf,hr,hk⟩:=h;rw[List.length_append]at hm;exact⟨gl.of_full hf (.last (by omega) (hr.small (by omega))),hk⟩
theorem DM{l0 l:List α}(h:gl key bs l)(hf:∀k,Go.Proofs.YthlkgmdkabelpaaGreat.St.fk key k l=Go.Proofs.YthlkgmdkabelpaaGreat.St.fk key k l0)(hl:l.length<=bs):l=bO key l0:=vK.eq ⟨h.small hl,hf⟩
structure zy(key:α->Int)(bs:Nat)(l0 l:List α)(a:Nat) where
 p:List α
 r:List α
 eq:l=p++r
 ha:p.length=a
 full:yG key bs p
 fk:∀k,fk key k l=fk key k l0
theorem yz(l0:List α):Nonempty (zy key bs l0 l0 0):=⟨[],l0,rfl,rfl,.nil,fun _=>rfl⟩
theorem AQ{l0 l:List α}{a:Nat}(h:zy key bs l0 l a)(hl:a+bs<=l.length):Nonempty (zy key bs l0 (bB key l a (a+bs)) (a+bs)):=by
 obtain⟨p,r,rfl,rfl,hf,hk⟩:=h;rw[List.length_append]at hl;have hr:r=r.take bs++r.drop bs:=(List.take_append_drop ..).symm;have ht:(r.take bs).length=bs:=by rw[List.length_take];omega
 refine⟨⟨p++bO key (r.take bs),r.drop bs,?_,?_,.snoc hf ?_ gi,fun k=>?_⟩⟩
 ·conv=>lhs;rw[hr]
  rw[dE rfl (by omega),List.append_assoc]
 ·rw[List.length_append,b8,ht]
 ·rw[b8,ht]
 rw[yD (by omega) (by rw[List.length_append];omega)];exact hk k
theorem DY{l0 l:List α}{a:Nat}(h:zy key bs l0 l a)(hl:l.length<a+bs):gl key bs (bB key l a l.length)/\∀k,Go.Proofs.YthlkgmdkabelpaaGreat.St.fk key k (bB key l a l.length)=Go.Proofs.YthlkgmdkabelpaaGreat.St.fk key k l0:=by
 obtain⟨p,r,rfl,rfl,hf,hk⟩:=h;rw[List.length_append]at hl;refine⟨?_,fun k=>?_⟩
 ·rw[show p++r=p++(r++[]) by simp,dE rfl (by simp only[List.length_append,List.length_nil];omega),List.append_nil];exact gl.of_full hf (.last (by rw[b8];omega) gi)
 rw[yD (by rw[List.length_append];omega) (Nat.le_refl _)];exact hk k
end
end Go.Proofs.YthlkgmdkabelpaaGreat.St
