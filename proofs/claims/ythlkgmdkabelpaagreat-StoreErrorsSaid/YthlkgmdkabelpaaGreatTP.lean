/-
  Packed by program (tools/pack.py) out of the texts U20 MSP MS4 MS5 MS6. No condition.
-/
import Derived.Test.YthlkgmdkabelpaaGreatTO
import Derived.Test.YthlkgmdkabelpaaGreatTM
import Derived.Test.YthlkgmdkabelpaaGreatTN
set_option linter.all false
namespace Go.Proofs.YthlkgmdkabelpaaGreat.X
open Go Go.RowKit
theorem iB(k:HB):∀(a b:bj),bM k (a++b)=(bM k a).or (bM k b)
 |[],b=>by simp[bM]
 |x::l,b=>by
  rw[List.cons_append,bM,bM];split
  ·simp
  exact iB k l b
theorem rG{k:HB}:∀{l:bj},(∀x∈l,k≠x.1)->bM k l=none
 |[],_=>rfl
 |x::l,h=>by
  unfold bM;rw[if_neg (h x Yw)];exact rG fun y hy=>h y (YH _ hy)
theorem yA(h:HB):∀rs:bj,(∀x∈rs.take (li h rs),cG x.1 h=true)/\∀x l,rs.drop (li h rs)=x::l->cG x.1 h=false
 |[]=>⟨fun x hx=>by simp at hx,fun x l e=>by simp at e⟩
 |y::l=>by
  obtain⟨h1,h2⟩:=yA h l;unfold li;by_cases hy:cG y.1 h=true
  ·rw[if_pos hy,List.take_succ_cons,List.drop_succ_cons];refine⟨fun x hx=>?_,h2⟩;rcases List.mem_cons.1 hx with rfl|hx
   ·exact hy
   exact h1 x hx
  rw[if_neg hy];refine⟨fun x hx=>by simp at hx,fun x l e=>?_⟩;rw[List.drop_zero]at e;cases e;simpa using hy
structure ew(es rs:bj):Prop where
 sorted:rs.Pairwise fun x y=>cG x.1 y.1=true
 perm:(c8 es).Perm (c8 rs)
 get:∀h,bM h es=bM h rs
theorem ew.nil:ew [] []:=⟨.nil,.refl _,fun _=>rfl⟩
theorem Eg{x y:HB}(h:cG x y=true):x≠y:=fun e=>by subst e;rw[gX.irrefl]at h;cases h
theorem ew.put{es rs:bj}(s:ew es rs)(o:List UInt8):ew (eE es o) (u4 rs o):=by
 obtain⟨h,hh⟩:∃h,h=bf o:=⟨_,rfl⟩;obtain⟨p1,p2⟩:=yA h rs;have hsp:rs.take (li h rs)++rs.drop (li h rs)=rs:=ZF _ _;obtain⟨A,hA⟩:∃A,A=rs.take (li h rs):=⟨_,rfl⟩;obtain⟨B,hB⟩:∃B,B=rs.drop (li h rs):=⟨_,rfl⟩;have hins:Fq rs o=A++(h,o)::B:=by unfold Fq;rw[<-hh,<-hA,<-hB]
 have hgA:bM h A=none:=rG fun x hx=>by
  rw[hA]at hx;exact fun e=>Eg (p1 x hx) e.symm
 have hhit:ya rs o=match B.head? with|some x=>decide (x.1=h)|none=>false:=by unfold ya;rw[<-hh,hB,List.head?_drop];cases rs[li h rs]?<;>rfl
 have hsrt:=s.sorted;rw[<-hsp,<-hA,<-hB]at hsrt;obtain⟨sA,sB,sAB⟩:=List.pairwise_append.1 hsrt;cases hb:ya rs o with
 |true=>
  have hR:u4 rs o=rs:=by unfold u4;rw[hb];rfl
  have hg:bM h rs=(match B.head? with|some x=>some x.2|none=>none):=by
   rw[<-hsp,<-hA,<-hB,iB,hgA];rw[hb]at hhit;cases hB':B with
   |nil=>rw[hB']at hhit;cases hhit
   |cons x l=>
    rw[hB']at hhit;have hx:x.1=h:=by simpa using hhit.symm
    unfold bM;rw[if_pos hx.symm];rfl
  have hS:eE es o=es:=by
   unfold eE;rw[<-hh,s.get h,hg];rw[hb]at hhit;cases hB':B with
   |nil=>rw[hB']at hhit;cases hhit
   |cons x l=>rfl
  rw[hR,hS];exact s
 |false=>
  have hR:u4 rs o=A++(h,o)::B:=by unfold u4;rw[hb];exact hins
  have hlt:∀y∈B,cG h y.1=true:=by
   rw[hb]at hhit;cases hB':B with
   |nil=>intro y hy;cases hy
   |cons x l=>
    rw[hB']at hhit sB;have hx:x.1≠h:=by simpa using hhit.symm
    have hnl:=p2 x l (by rw[<-hB,hB']);have hxl:cG h x.1=true:=by
     cases e:cG h x.1 with
     |true=>rfl
     |false=>exact absurd (mh hnl e) hx
    intro y hy;rcases List.mem_cons.1 hy with rfl|hy
    ·exact hxl
    exact gX.trans _ _ _ hxl ((List.pairwise_cons.1 sB).1 y hy)
  have hgB:bM h B=none:=rG fun x hx e=>Eg (hlt x hx) e
  have hge:bM h es=none:=by rw[s.get h,<-hsp,<-hA,<-hB,iB,hgA,hgB];rfl
  have hS:eE es o=es++[(h,o)]:=by unfold eE;rw[<-hh,hge];rfl
  rw[hR,hS];refine⟨?_,?_,fun k=>?_⟩
  ·refine List.pairwise_append.2 ⟨sA,List.pairwise_cons.2 ⟨hlt,sB⟩,fun a ha b hb'=>?_⟩;rcases List.mem_cons.1 hb' with rfl|hb'
   ·exact p1 a (by rw[<-hA];exact ha)
   exact sAB a ha b hb'
  ·have hp:=s.perm;rw[<-hsp,<-hA,<-hB]at hp;unfold c8 at hp ⊢;rw[YW]at hp;rw[YW,YW,YM,YM,Y9];refine(List.perm_append_comm (l₁:=es.map (·.1)) (l₂:=[h])).trans ?_;rw[List.singleton_append];exact(List.Perm.cons h hp).trans List.perm_middle.symm
  have hk:=s.get k;rw[<-hsp,<-hA,<-hB,iB]at hk;rw[iB,iB,hk];by_cases e:k=h
  ·subst e;rw[hgA,hgB];simp[bM]
  simp only[bM,if_neg e];cases bM k A<;>cases bM k B<;>rfl
theorem ew.keys{es rs:bj}(s:ew es rs):cZ (c8 es)=c8 rs:=by
 refine(vn s.perm.symm ?_).symm;unfold c8;refine List.pairwise_map.2 (s.sorted.imp fun{x y} h=>?_);cases e:cG y.1 x.1 with
 |false=>rfl
 |true=>have:=gX.trans _ _ _ h e;rw[gX.irrefl]at this;cases this
theorem Ax{k:HB}:∀{l:bj},k∈c8 l->∃t,bM k l=some t
 |[],h=>by cases h
 |x::l,h=>by
  unfold bM;by_cases e:k=x.1
  ·exact⟨_,if_pos e⟩
  rw[if_neg e];rcases List.mem_cons.1 h with q|q
  ·exact absurd q e
  exact Ax q
theorem ew.found{es rs:bj}(s:ew es rs)(h:HB)(hm:h∈c8 rs):∃t,bM h es=some t/\bM h rs=some t:=by
 obtain⟨t,ht⟩:=Ax hm;exact⟨t,by rw[s.get h];exact ht,ht⟩
open Go.Proofs.YthlkgmdkabelpaaGreat.St
def iS(l:List Oj):bj:=l.map fun o=>(o.h,o.t)
theorem D3(h:HB):∀l,li h (iS l)=fU h l
 |[]=>rfl
 |o::l=>by
  show(if cG o.h h=true then li h (iS l)+1 else 0)=(if cG o.h h=true then fU h l+1 else 0);rw[D3 h l]
theorem NM(l:List Oj)(t:List UInt8):iS (qk l t)=u4 (iS l) t:=by
 have hp:=D3 (bf t) l;have e2:ya (iS l) t=decide (fU (bf t) l<l.length/\(l.getD (fU (bf t) l) default).h=bf t):=by
  unfold ya;rw[hp];unfold iS;rw[Y7,Yn];cases hx:l[fU (bf t) l]? with
  |none=>
   have:=List.getElem?_eq_none_iff.1 hx;exact(decide_eq_false (by omega)).symm
  |some x=>
   have:=(List.getElem?_eq_some_iff.1 hx).1;simp[this]
 unfold qk u4 Fq;rw[e2];by_cases hc:fU (bf t) l<l.length/\(l.getD (fU (bf t) l) default).h=bf t
 ·rw[if_pos hc,decide_eq_true hc,if_pos rfl]
 rw[if_neg hc,decide_eq_false hc,if_neg (by decide),hp];unfold iS;rw[YW,YM,List.map_take,List.map_drop]
theorem Dj(h:HB):∀l,oe h l=bM h (iS l)
 |[]=>rfl
 |o::l=>by
  show(if o.h=h then some o.t else oe h l)=(if h=o.h then some o.t else bM h (iS l));rw[Dj h l];by_cases e:o.h=h
  ·rw[if_pos e,if_pos e.symm]
  rw[if_neg e,if_neg (fun q=>e q.symm)]
theorem BZ(l:List Oj):c8 (iS l)=l.map (·.h):=by
 unfold c8 iS;rw[List.map_map];rfl
theorem vo{γ:Type}{k:Int}{b:γ}:∀{l:List (Int×γ)},av k l≠none->bE (bb k b l)=bE l
 |[],h=>absurd rfl h
 |x::l,h=>by
  unfold bb;unfold av at h;split
  ·rename_i e;show k::bE l=x.1::bE l;rw[e]
  rename_i e;rw[if_neg e]at h;show x.1::bE (bb k b l)=x.1::bE l;rw[vo h]
theorem JE{l:List Ce}(h:bG ar l):∀{i j:Nat},i<=j->j<l.length->(l.getD i default).id<=(l.getD j default).id:=by
 induction l with
 |nil=>intro i j _ h;cases h
 |cons x l ih=>
  intro i j hij hj;cases i with
  |zero=>
   cases j with
   |zero=>exact Int.le_refl _
   |succ j=>exact h.1 _ (bn (l:=l) (i:=j) (by rw[List.length_cons]at hj;omega))
  |succ i=>
   cases j with
   |zero=>omega
   |succ j=>exact ih h.2 (by omega) (by rw[List.length_cons]at hj;omega)
structure XX(o:List Ce)(j:Nat):Prop where
 out:(eM o j).out=(bE (cI o j)).map fun k=>⟨lm o k.toNat⟩
 tree:(eM o j).tree=(bE (cI o j)).flatMap fun k=>bK k.toNat++dz (lm o k.toNat)
 asc:(bE (cI o j)).Pairwise (·<·)
 top:∀k∈bE (cI o j),k<=(eM o j).last
 mem:0<=(eM o j).last->(eM o j).last∈bE (cI o j)
 low:∀i,j<=i->i<o.length->(eM o j).last<=(cB o i:Nat)
theorem Kz{o:List Ce}(h:bG ar o):∀j,j<=o.length->XX o j
 |0,_=>⟨rfl,rfl,.nil,fun k h=>(by cases h),fun h=>absurd h (by show ¬(0:Int)<=-1;decide),fun i _ _=>by show(-1:Int)<=_;omega⟩
 |j+1,hj=>by
  have ih:=Kz h j (by omega);have hup:∀i,j<=i->i<o.length->cB o j<=cB o i:=fun i h1 h2=>by
   have:=JE h h1 h2;unfold cB;exact Nat.div_le_div_right (by omega)
  have eb:cI o (j+1)=bb ((cB o j:Nat):Int) ((av ((cB o j:Nat):Int) (cI o j)).getD []++[o.getD j default]) (cI o j):=rfl;by_cases hk:((cB o j:Nat):Int)=(eM o j).last
  ·have eo:eM o (j+1)=eM o j:=if_pos hk;have hm:=ih.mem (by omega);have ek:bE (cI o (j+1))=bE (cI o j):=by rw[eb];exact vo (ol.2 (by rw[hk];exact hm))
   exact⟨by rw[eo,ek];exact ih.out,by rw[eo,ek];exact ih.tree,by rw[ek];exact ih.asc,by rw[eo,ek];exact ih.top,by rw[eo,ek];exact ih.mem,fun i h1 h2=>by rw[eo];exact ih.low i (by omega) h2⟩
  have eo:eM o (j+1)=⟨(cB o j:Nat),(eM o j).out++[⟨lm o (cB o j)⟩],(eM o j).tree++bK (cB o j)++dz (lm o (cB o j))⟩:=if_neg hk;have hlo:=ih.low j (Nat.le_refl _) (by omega);have hno:av ((cB o j:Nat):Int) (cI o j)=none:=by
   cases hg:av ((cB o j:Nat):Int) (cI o j)with
   |none=>rfl
   |some b=>
    have:=ih.top _ (ol.1 (by rw[hg];simp));omega
  have ek:bE (cI o (j+1))=bE (cI o j)++[((cB o j:Nat):Int)]:=by rw[eb,iZ hno];unfold bE;rw[YW];rfl
  rw[<-Yt (cB o j)]at eo;refine⟨?_,?_,?_,?_,?_,?_⟩
  ·rw[eo,ek,YW,<-ih.out];rfl
  ·rw[eo,ek,Y5,<-ih.tree,YB,ZB,List.append_nil,Yt,YF]
  ·rw[ek];refine List.pairwise_append.2 ⟨ih.asc,List.pairwise_singleton ..,fun a ha b hb=>?_⟩;rw[List.mem_singleton.1 hb];have:=ih.top a ha;omega
  ·rw[eo,ek];intro k hk2;show k<=((((cB o j:Nat):Int).toNat:Nat):Int);rcases List.mem_append.1 hk2 with q|q
   ·have:=ih.top k q;omega
   rw[List.mem_singleton.1 q];omega
  ·rw[eo,ek];intro _;refine List.mem_append.2 (.inr (List.mem_singleton.2 ?_));show((((cB o j:Nat):Int).toNat:Nat):Int)=_;omega
  intro i h1 h2;rw[eo];show((((cB o j:Nat):Int).toNat:Nat):Int)<=_;have:=hup i (by omega) h2;omega
theorem Dm(o:List Ce)(k:Nat):∀j,kM o k j=(((av (k:Int) (cI o j)).getD []).length,((av (k:Int) (cI o j)).getD []).flatMap (i9 k))
 |0=>rfl
 |j+1=>by
  have e:cI o (j+1)=bb ((cB o j:Nat):Int) ((av ((cB o j:Nat):Int) (cI o j)).getD []++[o.getD j default]) (cI o j):=rfl;unfold kM;rw[e,j9,Dm o k j];by_cases h:cB o j=k
  ·subst h;rw[if_pos (show(o.getD j default).id.toNat/16=cB o j from rfl),if_pos rfl];simp[Y5]
  rw[if_neg (show ¬(o.getD j default).id.toNat/16=k from h),if_neg (by omega)]
theorem Vl(o:List Ce)(k:Nat):lm o k=mE o (k:Int):=by
 unfold lm mE yE qv;rw[Dm,Yt]
theorem IZ{m:List Int}(h:m.Pairwise (·<·)):dn m=m:=by
 unfold dn;exact List.mergeSort_of_pairwise (h.imp fun{a b} h=>by simp only[decide_eq_true_eq];omega)
theorem TJ{o:List Ce}(h:bG ar o):bD o=bE (cI o o.length):=IZ (Kz h _ (Nat.le_refl _)).asc
theorem Io(o:List Ce):∀i,i<=(bD o).length->fb o i=2::(bK (cI o o.length).length++((bD o).take i).flatMap fun k=>bK k.toNat++dz (mE o k))
 |0,_=>by rw[List.take_zero,ZB,List.append_nil];rfl
 |i+1,h=>by
  have e:(bD o).take (i+1)=(bD o).take i++[(bD o).getD i default]:=by rw[List.take_succ,Yn,Yl (by omega)];rfl
  show fb o i++bK ((bD o).getD i default).toNat++dz (mE o ((bD o).getD i default))=_;rw[Io o i (by omega),e,Y5,YB,ZB,List.append_nil,List.cons_append,List.cons_append,YF,YF]
theorem QB{l:List Ce}(hid:∀c∈aK l,0<=c.id):fZ l=(bD (aK l)).map (fun k=>(⟨mE (aK l) k⟩:Tx))++[⟨fb (aK l) (bD (aK l)).length⟩]:=by
 have hs:=qj (l:=l);unfold fZ;generalize aK l=o at hs hid ⊢;have hv:=Kz hs _ (Nat.le_refl _);have hkk:=TJ hs;have hn:∀k∈bD o,lm o k.toNat=mE o k:=fun k hk=>by
  rw[hkk]at hk;obtain⟨q,hq,rfl⟩:=List.mem_map.1 hk;obtain⟨_,m,h1,_⟩:=(vJ o o.length (Nat.le_refl _)).row q hq;rw[Vl,h1,Yt]
 rw[Io o _ (Nat.le_refl _),List.take_length,hv.out,hv.tree,<-hkk];have e1:(bD o).map (fun k=>(⟨lm o k.toNat⟩:Tx))=(bD o).map fun k=>⟨mE o k⟩:=List.map_congr_left fun k hk=>by rw[hn k hk]
 have e2:((bD o).flatMap fun k=>bK k.toNat++dz (lm o k.toNat))=(bD o).flatMap fun k=>bK k.toNat++dz (mE o k):=by rw[List.flatMap_def,List.flatMap_def];exact congrArg List.flatten (List.map_congr_left fun k hk=>by rw[hn k hk])
 rw[e1,e2,Yv,Do]
theorem Sg{f:Int->List UInt8}{ks:List Int}{t:Tx}{i:Nat}(hi:i<ks.length):(ks.map (fun k=>(⟨f k⟩:Tx))++[t]).getD i default=⟨f (ks.getD i default)⟩:=by
 rw[Yn,YY (by rw[Yv];omega),Y7,Yl (by omega),Yn,Yl (by omega)];rfl
theorem O9{f:Int->List UInt8}{ks:List Int}{t:Tx}:(ks.map (fun k=>(⟨f k⟩:Tx))++[t]).getD ks.length default=t:=by
 rw[Yn,YQ (by rw[Yv];exact Nat.le_refl _),Yv,Nat.sub_self];rfl
theorem yH{es:bj}{L:List Oj}(h:ew es (iS L))(b:List UInt8):ew (eE es b) (iS (qk L b)):=by
 rw[NM];exact h.put b
theorem AB{L:List Oj}{os:List Tx}{i:Nat}:pq L os (i+1)=qk (pq L os i) (os.getD i default).b:=rfl
theorem MS{os:List Tx}{i:Nat}:hI os (i+1)=bf (os.getD i default).b:=rfl
theorem GB{es:bj}{L:List Oj}{t:Tx}(f:Int->List UInt8)(ks:List Int)(h:ew es (iS L))(pS:Nat->bj)(h0:pS 0=es)(hS:∀i,pS (i+1)=eE (pS i) (f (ks.getD i default))):∀i,i<=ks.length->ew (pS i) (iS (pq L (ks.map (fun k=>(⟨f k⟩:Tx))++[t]) i))
 |0,_=>by rw[h0];exact h
 |i+1,hi=>by
  have ih:=GB (t:=t) f ks h pS h0 hS i (by omega);rw[AB,hS,Sg (by omega)];exact yH ih _
theorem TT{es:bj}{L:List Oj}(f:Int->List UInt8)(ks:List Int)(h:ew es (iS L))(pS:Nat->bj)(T:List UInt8)(h0:pS 0=es)(hS:∀i,pS (i+1)=eE (pS i) (f (ks.getD i default))) :
 ew (eE (pS ks.length) T) (iS (pq L (ks.map (fun k=>(⟨f k⟩:Tx))++[⟨T⟩]) (ks.length+1)))/\bf T=hI (ks.map (fun k=>(⟨f k⟩:Tx))++[⟨T⟩]) (ks.length+1):=by
 rw[AB,MS,O9];exact⟨yH (GB f ks h pS h0 hS _ (Nat.le_refl _)) _,rfl⟩
theorem PZ{es:bj}{L:List Oj}{l:List Ce}(h:ew es (iS L))(hid:∀c∈l,c.id<9223372036854775808):ew (rM es l) (iS (uN L l))/\x9 l=AL l:=by
 unfold rM uN x9 AL;by_cases h0:(fm l).2=0
 ·rw[if_pos h0,if_pos h0,if_pos h0,if_pos h0];have e:=QB (l:=l) fun c hc=>((pi h0 hid).2 c hc).id.1
  have hg:=TT (mE (aK l)) (bD (aK l)) h (vq es (aK l)) (fb (aK l) (bD (aK l)).length) rfl (fun i=>rfl);rw[<-e]at hg;have hl:(fZ l).length=(bD (aK l)).length+1:=by rw[e,Yh,Yv,YN]
  rw[<-hl]at hg;exact hg
 rw[if_neg h0,if_neg h0,if_neg h0,if_neg h0];exact⟨h,rfl⟩
theorem RK:∀{l:List HB},oP (wg l) (sl l)
 |[]=>Cu
 |x::l=>iA
theorem SH{P:Program}{α:Type}{E:ni P α}{p:PP α}{xs:List Value}{W:XW}{w b:Nat}{a:α}{v:Value}(h:qU E W w b a)(hp:p xs a=some (v,a,.rd)):qX E p (.pointer (some ⟨w,0,none⟩)::xs) W=some (.ret v,W):=by
 rw[If h (by rw[hp];intro v a' e;cases e),hp];rfl
theorem Kg{w b n nl:Nat}{es:bj}{L:List (Nat×Option ag)}{lg:List Nat}(hw:lk L w=some (bT es b))(hb:lk L b=some (fD es))(h1:w<n)(h2:b<n)(h3:n<16383)(hwb:w≠b):qU yo (wd L n lg nl) w b es:=
 ⟨by rw[ae h1 (by omega),hw];rfl,fun o h=>⟨by rw[ae h2 (by omega),hb,DM h],hwb⟩⟩
abbrev lS(es:bj)(L:List Oj):List (Nat×Option ag):=[(0,some (bT es 1)),(1,some (fD es)),(2,some (fV L))]
abbrev lK(es:bj)(L:List Oj)(k:HB):List (Nat×Option ag):=[(0,some (bT es 1)),(1,some (fD es)),(2,some (fV L)),(3,some (hH k))]
theorem Bf{es:bj}{L:List Oj}(h:ew es (iS L)):L.length=es.length:=by
 have:=h.perm.length_eq;unfold c8 iS at this;simp only[Yv]at this;exact this.symm
theorem KY{es:bj}{L:List Oj}(hs:ew es (iS L)){h:HB}(hm:h∈L.map (·.h)):∃t,bM h es=some t/\oe h L=some t:=by
 obtain⟨t,h1,h2⟩:=hs.found h (by rw[BZ];exact hm);exact⟨t,h1,by rw[Dj];exact h2⟩
set_option maxHeartbeats 2000000 in
theorem Pu(hS:kl Tryz.prog 89 51)(es:bj)(L:List Oj)(hn:es.length<=1000000)(hs:ew es (iS L)):aT Tryz.prog 14 [.pointer (some ⟨0,0,none⟩),.pointer (some ⟨2,0,none⟩)] (wd (lS es L) 3 [] 0) fun e W'=>e=.ret (.bool true)/\W'.get 0=some (bT es 1)/\W'.get 1=some (fD es)/\W'.get 2=some (fV L):=by
 have hL:L.length<=1000000:=by rw[Bf hs];exact hn
 have hA:qX yo qN [.pointer (some ⟨0,0,none⟩)] (wd (lS es L) 3 [] 0)=some (.ret (wg (L.map (·.h))),wd (lS es L) 3 [] 0):=by rw[<-BZ,<-hs.keys];exact SH (Kg rfl rfl (by decide) (by decide) (by decide) (by decide)) (B6 hn)
 have hkl:(L.map (·.h)).length<=1000000:=by rw[Yv];exact hL
 have hall:=M3 L hL;have hg:∀i,i<(L.map (·.h)).length->∃t,bM ((L.map (·.h)).getD i default) es=some t/\oe ((L.map (·.h)).getD i default) L=some t:=fun i hi=>KY hs (bn hi)
 generalize L.map (·.h)=ks at hA hkl hall hg;refine low Tryz.func14 Tryz.results14 (h:=?_);show ay _ _ 3 _ _ _;refine rs ?_;refine lB hA (bh (EJ hS)) ?_;refine cv [(0,some (.pointer (some ⟨0,0,none⟩))),(1,some (.pointer (some ⟨2,0,none⟩))),(5,some (sl ks))] (lS es L) 3 ?_ (hl:=bg (hF:=sY (by decide) (by repeat (first|exact ab|refine Eq.trans (aa (by decide)) ?_)) iA (sY (by decide) (by repeat (first|exact ab|refine Eq.trans (aa (by decide)) ?_)) iA (sY (by decide) (by repeat (first|exact ab|refine Eq.trans (aa (by decide)) ?_)) RK IB))));refine WD (ur (F9 hall) (nL (V4 ks hkl))) ?_;refine cf ?_;refine sk ?_;refine rS ?_;refine fr (fun i:Nat=>⟨an [(0,some (.pointer (some ⟨0,0,none⟩))),(1,some (.pointer (some ⟨2,0,none⟩))),(19,some (sl ks)),(20,some (.int .i64 (ks.length:Nat))),(21,some (.int .i64 (i:Nat)))],wd (lS es L) 3 [] 0,[]⟩) (fun i=>i<=ks.length) (fun i=>ks.length-i) 0 (Yq _) (fun i hv h=>?_) (fun i hv h=>?_)
 ·obtain⟨t,g1,g2⟩:=hg i (by omega);refine bs (rs ?_);generalize hk:ks.getD i default=k at g1 g2;have hgt:=NY L k hL;have hG:qX yo wU [.pointer (some ⟨0,0,none⟩),cr k] (wd (lK es L k) 4 [] 0)=some (.ret (.tuple #[.string (str t),.bool true]),wd (lK es L k) 4 [] 0):=by
   refine SH (Kg rfl rfl (by decide) (by decide) (by decide) (by decide)) (Eq.trans N5 ?_);rw[g1];rfl
  rw[g2]at hgt;refine cv [(0,some (.pointer (some ⟨0,0,none⟩))),(1,some (.pointer (some ⟨2,0,none⟩))),(7,some (.pointer (some ⟨3,0,none⟩))),(19,some (sl ks)),(20,some (.int .i64 (ks.length:Nat))),(21,some (.int .i64 (i:Nat)))] (lK es L k) 4 ?_;refine lB hG (bh Wj) ?_;refine rc (TK hgt) ?_;refine rs ?_;refine cf ?_;refine ap ?_;refine rl ?_;exact nx (i+1) (by omega) (by omega) (kj [(0,0),(1,1),(2,2)])
 refine rs ?_;refine rt ?_;exact⟨rfl,by simp(disch:=decide) only[ae,ab,aa],by simp(disch:=decide) only[ae,ab,aa],by simp(disch:=decide) only[ae,ab,aa]⟩
def WH(a b c:Nat)(es:bj)(L:List Oj)(A:List Value)(W:XW):Prop:=A=[.pointer (some ⟨a,0,none⟩),.pointer (some ⟨c,0,none⟩)]/\W.get a=some (bT es b)/\W.get b=some (fD es)/\W.get c=some (fV L)
open Classical in
noncomputable def Mb(a b c:Nat)(es:bj)(L:List Oj):HF:=fun A W=>if WH a b c es L A W then some (.ret (.bool true),W)else none
theorem Jm{a b c:Nat}{es:bj}{L:List Oj}(hS:kl Tryz.prog 89 51)(hab:a≠b)(hac:a≠c)(hbc:b≠c)(hn:es.length<=1000000)(hs:ew es (iS L)):bQ Tryz.prog 14 (Mb a b c es L):=by
 have key:∀A W e' W',Mb a b c es L A W=some (e',W')->WH a b c es L A W/\e'=.ret (.bool true)/\W'=W:=fun A W e' W' q=>by
  unfold Mb at q;split at q
  ·rename_i hx;cases q;exact⟨hx,rfl,rfl⟩
  cases q
 refine⟨enters_of (by kernel_rfl),fun A W e' W' q=>?_,fun A W e' W' q=>?_⟩
 ·obtain⟨_,_,rfl⟩:=key _ _ _ _ q;exact .refl _
 obtain⟨⟨rfl,ha,hb,hc⟩,rfl,rfl⟩:=key _ _ _ _ q;clear q key;have han:=aM ha;have hbn:=aM hb;have hcn:=aM hc;obtain⟨θ,hθ⟩:∃θ:Nat->Option Nat,θ=fun n=>if n=a then some 0 else if n=b then some 1 else if n=c then some 2 else none:=⟨_,rfl⟩
 have t0:θ a=some 0:=by rw[hθ];exact if_pos rfl
 have t1:θ b=some 1:=by rw[hθ];simp only[if_neg (Ne.symm hab),if_pos]
 have t2:θ c=some 2:=by rw[hθ];simp only[if_neg (Ne.symm hac),if_neg (Ne.symm hbc),if_pos]
 have tc:∀n m,θ n=some m->(n=a/\m=0)\/(n=b/\m=1)\/(n=c/\m=2):=fun n m h=>by
  rw[hθ]at h;simp only at h;split at h
  ·rename_i q;cases h;exact .inl ⟨q,rfl⟩
  split at h
  ·rename_i q;cases h;exact .inr (.inl ⟨q,rfl⟩)
  split at h
  ·rename_i q;cases h;exact .inr (.inr ⟨q,rfl⟩)
  cases h
 obtain⟨ν,hν⟩:∃ν:Nat->Nat,ν=fun m=>if m=0 then a else if m=1 then b else c:=⟨_,rfl⟩
 have n0:ν 0=a:=by rw[hν];rfl
 have n1:ν 1=b:=by rw[hν];rfl
 have n2:ν 2=c:=by rw[hν];rfl
 refine jq (k:=3) ν θ rfl (fun m m' h h' e=>?_) (fun m h=>?_) (fun n m h=>?_) (fun m oL h=>?_) (au (bN t0) (au (bN t2) aR)) (Pu hS es L hn hs) fun eL WL' hE=>?_
 ·have h1:m=0\/m=1\/m=2:=by omega
  have h2:m'=0\/m'=1\/m'=2:=by omega
  rcases h1 with rfl|rfl|rfl<;>rcases h2 with rfl|rfl|rfl<;>simp only[n0,n1,n2]at e<;>omega
 ·have h1:m=0\/m=1\/m=2:=by omega
  rcases h1 with rfl|rfl|rfl<;>simp only[n0,n1,n2]<;>assumption
 ·rcases tc n m h with⟨rfl,rfl⟩|⟨rfl,rfl⟩|⟨rfl,rfl⟩
  ·exact⟨by decide,n0⟩
  ·exact⟨by decide,n1⟩
  exact⟨by decide,n2⟩
 ·have hm:m<3:=aM h;obtain⟨_,h2⟩:=cq h;have h1:m=0\/m=1\/m=2:=by omega
  rcases h1 with rfl|rfl|rfl
  ·rw[ab]at h2;cases h2;exact⟨by decide,_,by rw[n0];exact ha,iW fun _=>t1⟩
  ·rw[aa (by decide),ab]at h2;cases h2;exact⟨by decide,_,by rw[n1];exact hb,kr je _ _ _ aj⟩
  rw[aa (by decide),aa (by decide),ab]at h2;cases h2;exact⟨by decide,_,by rw[n2];exact hc,aF (inferInstance:b7 [sl L]).h _ aj⟩
 obtain⟨rfl,g0,g1,g2⟩:=hE;obtain⟨φ,hφ⟩:∃φ:Nat->Option Nat,φ=fun m=>if m=0 then some a else if m=1 then some b else if m=2 then some c else none:=⟨_,rfl⟩
 have f0:φ 0=some a:=by rw[hφ];rfl
 have f1:φ 1=some b:=by rw[hφ];rfl
 have f2:φ 2=some c:=by rw[hφ];rfl
 have fc:∀m x,φ m=some x->(m=0/\x=a)\/(m=1/\x=b)\/(m=2/\x=c):=fun m x h=>by
  rw[hφ]at h;simp only at h;split at h
  ·rename_i q;cases h;exact .inl ⟨q,rfl⟩
  split at h
  ·rename_i q;cases h;exact .inr (.inl ⟨q,rfl⟩)
  split at h
  ·rename_i q;cases h;exact .inr (.inr ⟨q,rfl⟩)
  cases h
 refine⟨φ,fun m x h=>?_,fun m m' x h h'=>?_,fun x o' h=>?_,(inferInstance:Br (.bool true)).h _ aj,Nat.le_refl _⟩
 ·rcases fc m x h with⟨rfl,rfl⟩|⟨rfl,rfl⟩|⟨rfl,rfl⟩
  ·exact .inl ⟨by decide,n0.symm⟩
  ·exact .inl ⟨by decide,n1.symm⟩
  exact .inl ⟨by decide,n2.symm⟩
 ·rcases fc m x h with⟨q,q1⟩|⟨q,q1⟩|⟨q,q1⟩<;>rcases fc m' x h' with⟨p,p1⟩|⟨p,p1⟩|⟨p,p1⟩<;>omega
 by_cases xa:x=a
 ·subst xa;rw[ha]at h;cases h;exact .inl ⟨0,_,f0,g0,iW fun _=>f1⟩
 by_cases xb:x=b
 ·subst xb;rw[hb]at h;cases h;exact .inl ⟨1,_,f1,g1,kr je _ _ _ aj⟩
 by_cases xc:x=c
 ·subst xc;rw[hc]at h;cases h;exact .inl ⟨2,_,f2,g2,aF (inferInstance:b7 [sl L]).h _ aj⟩
 refine .inr ⟨h,aM h,fun m hm=>?_⟩;have h1:m=0\/m=1\/m=2:=by omega
 rcases h1 with rfl|rfl|rfl
 ·rw[n0];exact fun e=>xa e.symm
 ·rw[n1];exact fun e=>xb e.symm
 rw[n2];exact fun e=>xc e.symm
theorem S6{a b c n nl:Nat}{es:bj}{L:List Oj}{K:List (Nat×Option ag)}{lg:List Nat}(ha:lk K a=some (bT es b))(hb:lk K b=some (fD es))(hc:lk K c=some (fV L))(h1:a<n)(h2:b<n)(h3:c<n)(h4:n<16383) :
 Mb a b c es L [.pointer (some ⟨a,0,none⟩),.pointer (some ⟨c,0,none⟩)] (wd K n lg nl)=some (.ret (.bool true),wd K n lg nl):=
 if_pos ⟨rfl,by rw[ae h1 (by omega)];exact ha,by rw[ae h2 (by omega)];exact hb,by rw[ae h3 (by omega)];exact hc⟩
noncomputable def hk0(o:ag):HF:=fun a W=>match a with
 |[]=>some (.ret (.pointer (some ⟨W.next,0,none⟩)),W.push o)
 |_::_=>none
theorem GW{o:ag}{W:XW}:hk0 o [] W=some (.ret (.pointer (some ⟨W.next,0,none⟩)),W.push o):=rfl
theorem Gi{P:Program}{f:FuncId}{o o1:ag}(he:cT P f)(hb:∀θ,TO P (aL θ) o1 o)(h:aT P f [] (wd [] 0 [] 0) fun e W'=>e=.ret (.pointer (some ⟨0,0,none⟩))/\W'.get 0=some o1/\W'.next<=1):bQ P f (hk0 o):=by
 have key:∀a W e' W',hk0 o a W=some (e',W')->a=[]/\e'=.ret (.pointer (some ⟨W.next,0,none⟩))/\W'=W.push o:=fun a W e' W' q=>by
  cases a with
  |nil=>cases q;exact⟨rfl,rfl,rfl⟩
  |cons x l=>cases q
 refine⟨he,fun a W e' W' q=>?_,fun a W e' W' q=>?_⟩
 ·obtain⟨_,_,rfl⟩:=key _ _ _ _ q;exact .push _ _
 obtain⟨rfl,rfl,rfl⟩:=key _ _ _ _ q;refine jq (k:=0) (fun _=>0) (fun _=>none) rfl (fun m _ h=>by omega) (fun m h=>by omega) (fun n m h=>by cases h) (fun m oL h=>by rw[XW.get_ge (Yq _)]at h;cases h) aR h
  fun eL WL' hS=>?_
 obtain⟨rfl,hb',_⟩:=hS;refine⟨fun m=>if m=0 then some W.next else none,fun m x h=>?_,fun m m' x h h'=>?_,fun x o' h=>?_,?_,Zm _⟩
 ·by_cases hm:m=0
  ·rw[if_pos hm]at h;cases h;exact .inr ⟨Yq _,Nat.le_refl _,YJ _⟩
  rw[if_neg hm]at h;cases h
 ·by_cases hm:m=0
  ·by_cases hm':m'=0
   ·omega
   rw[if_neg hm']at h';cases h'
  rw[if_neg hm]at h;cases h
 ·rcases XW.get_push h with⟨rfl,rfl⟩|⟨q1,q2⟩
  ·exact .inl ⟨0,_,if_pos rfl,hb',hb _⟩
  exact .inr ⟨q2,aM q2,fun m hm=>by omega⟩
 exact bN (if_pos rfl)
theorem Ui:bQ Tryz.prog 8 (hk0 (bT [] 0)):=Gi (enters_of (by kernel_rfl)) (fun θ=>iW fun h=>absurd rfl h) Rw
theorem TI:bQ Tryz.prog 9 (hk0 (fV [])):=Gi (enters_of (by kernel_rfl)) (fun θ=>cg (au (fun ρ ρ' x _ hv=>by rw[hv.of_flat 1 rfl];exact .frzE _ _) aR)) Qd
theorem OD{w b N nl:Nat}{xs:List Value}{es es':bj}{v:Value}{L:List (Nat×Option ag)}{lg:List Nat}(hw:lk L w=some (bT es b))(hb:lk L b=some (fD es))(hwb:w≠b)(h1:w<N)(h2:b<N)(h3:N<16383) :
 hkp w b xs es v es' (.pointer (some ⟨w,0,none⟩)::xs) (wd L N lg nl)=some (.ret v,wd ((w,some (bT es' N))::(N,gi es')::(N,some (.defd false))::(b,none)::L) (N+1) (w::N::b::lg) (nl+3)):=by
 refine(if_pos ⟨rfl,?_,?_,hwb⟩).trans (by unfold By;simp only[jS,fx];rfl)
 ·rw[ae h1 (by omega)];exact hw
 rw[ae h2 (by omega)];exact hb
theorem Od{A B:List Value}{a b c v:Value}:(A++([a,b,c]++B)).set (A.length+2) v=A++([a,b,v]++B):=by
 rw[Zr _ _ (by omega),Zh];rfl
theorem xV{A B:List Value}{a b c:Value}(i:Nat):(A++([a,b,c]++B))[A.length+i]?=([a,b,c]++B)[i]?:=by
 rw[YQ (by omega),Zh]
theorem Ow{A B:List Value}{a b c v:Value}:List.take A.length (A++([a,b,c]++B))++v::List.drop (A.length+1) (A++([a,b,c]++B))=A++([v,b,c]++B):=by
 rw[Zq rfl,<-Zo,ZC rfl];rfl
theorem Ou{A B:List Value}{a b c v:Value}:List.take (A.length+1) (A++([a,b,c]++B))++v::List.drop (A.length+1+1) (A++([a,b,c]++B))=A++([a,v,c]++B):=by
 rw[List.take_append,List.take_of_length_le (by omega),Zh,Zt,<-Zo,ZC rfl,YF];rfl
abbrev eF:List (Nat×Option Value):=[(5,some (.bool true)),(6,some (.pointer (some ⟨3,0,none⟩)))]
abbrev eA(l:List Ce):List (Nat×Option ag):=[(3,some (.cells [sl l] 40 (0,0)))]
abbrev eB(m cap:Nat):ag:=.cells [.slice (some ⟨1,0,none⟩) m cap] 40 (0,0)
theorem sW{o1 o2:List Ce}{x:Ce}{m:Nat}(hm:m=o1.length+1+o2.length)(hl:m<=4000)(hx:x.sd.length<=9):aX Tryz.prog 0 ⟨an eF,wd [(1,some (d9 2 o1 x o2)),(2,some (ro 60 x.sd)),(3,some (eB m aq))] 4 [] 0,[]⟩ ⟨an eF,wd (eA (o1++x::o2)) 5 [] 0,[]⟩:=by
 have h1:(o1.flatMap El.enc).length=o1.length*3:=cM;have h2:(x.sd.flatMap El.enc).length=x.sd.length*2:=cM;have hC:∀l:List Ce,(l.flatMap El.enc).length=l.length*3:=fun l=>cM
 have e:=oO (P:=Tryz.prog) (k:=0) (F:=eF) (L:=[(1,some (d9 2 o1 x o2)),(2,some (ro 60 x.sd)),(3,some (eB m aq))]) (n:=4) (nl:=0) (lg:=[]) 2 1 (o1.length*3+2) (c:=x.sd.flatMap El.enc) (len:=x.sd.length) (cap:=aq) (x.sd.flatMap El.enc).length rfl rfl (by rw[<-h1,xV];rfl) (by decide) (by decide) (by decide) (Nat.le_trans hx (by decide)) (fun h=>by rw[h2,h]);rw[List.take_length,<-h1,Od]at e;have er:(o1.flatMap El.enc++([.int .i64 x.id,.int .i64 x.dim,FZ (x.sd.flatMap El.enc) x.sd.length]++o2.flatMap El.enc))=(o1++x::o2).flatMap El.enc:=by rw[Y5,YB];rfl
 rw[er]at e;refine e.trans ?_;have hlen:((o1++x::o2).flatMap El.enc).length=m*3:=by rw[hC,Yh,List.length_cons,hm];omega
 have hml:m=(o1++x::o2).length:=by rw[Yh,List.length_cons];omega
 generalize o1++x::o2=l at hlen hml ⊢;have e2:=oO (P:=Tryz.prog) (k:=0) (F:=eF) (L:=[(2,none),(1,some (ro 58 l)),(1,some (d9 2 o1 x o2)),(2,some (ro 60 x.sd)),(3,some (eB m aq))]) (n:=4) (nl:=0) (lg:=[]) 1 3 0 (c:=l.flatMap El.enc) (len:=m) (cap:=aq) (l.flatMap El.enc).length rfl rfl rfl (by decide) (by decide) (by decide) (Nat.le_trans hl (by decide)) (fun h=>by rw[hlen,h]);rw[List.take_length]at e2;refine e2.trans ?_;show aX _ _ ⟨an eF,wd [(1,none),(3,some (.cells [FZ (l.flatMap El.enc) m] 40 (0,0))),(2,none),(1,some (ro 58 l)),(1,some (d9 2 o1 x o2)),(2,some (ro 60 x.sd)),(3,some (eB m aq))] 4 [] 0,[]⟩ _;rw[hml];exact bg
theorem NR{o1 o2:List Ce}{x:Ce}(hl:o1.length<=4000):aX Tryz.prog 0 ⟨an eF,wd [(1,some (d9 2 o1 x o2)),(3,some (eB o1.length o1.length))] 4 [] 0,[]⟩ ⟨an eF,wd (eA o1) 5 [] 0,[]⟩:=by
 have h1:(o1.flatMap El.enc).length=o1.length*3:=cM;have e:=oO (P:=Tryz.prog) (k:=0) (F:=eF) (L:=[(1,some (d9 2 o1 x o2)),(3,some (eB o1.length o1.length))]) (n:=4) (nl:=0) (lg:=[]) 1 3 0 (c:=o1.flatMap El.enc++([.int .i64 x.id,.int .i64 x.dim,gs 2 aq x.sd]++o2.flatMap El.enc)) (len:=o1.length) (cap:=o1.length) (o1.flatMap El.enc).length rfl rfl rfl (by decide) (by decide) (by decide) (Nat.le_refl _) (fun h=>by rw[h1,h]);rw[Zq rfl]at e;refine e.trans ?_;show aX _ _ ⟨an eF,wd [(1,none),(3,some (.cells [FZ (o1.flatMap El.enc) o1.length] 40 (0,0))),(1,some (d9 2 o1 x o2)),(3,some (eB o1.length o1.length))] 4 [] 0,[]⟩ _;exact bg
theorem PB{o1 o2:List Ce}(hl:o1.length+o2.length<=4000):aX Tryz.prog 0 ⟨an eF,wd [(4,some (.cells (o1.flatMap El.enc++o2.flatMap El.enc) 58 (0,0))),(3,some (.cells [.slice (some ⟨4,0,none⟩) (o1.length+o2.length) aH] 40 (0,0)))] 5 [] 0,[]⟩ ⟨an eF,wd (eA (o1++o2)) 5 [] 0,[]⟩:=by
 have h1:((o1++o2).flatMap El.enc).length=(o1++o2).length*3:=cM;rw[show o1.flatMap El.enc++o2.flatMap El.enc=(o1++o2).flatMap El.enc from List.flatMap_append.symm];rw[<-Yh]at hl ⊢;generalize o1++o2=l at h1 hl ⊢;have e:=oO (P:=Tryz.prog) (k:=0) (F:=eF) (L:=[(4,some (ro 58 l)),(3,some (.cells [.slice (some ⟨4,0,none⟩) l.length aH] 40 (0,0)))]) (n:=5) (nl:=0) (lg:=[]) 4 3 0 (c:=l.flatMap El.enc) (len:=l.length) (cap:=aH) (l.flatMap El.enc).length rfl rfl rfl (by decide) (by decide) (by decide) (Nat.le_trans hl (by decide)) (fun h=>by rw[h1,h]);rw[List.take_length]at e;refine e.trans ?_;show aX _ _ ⟨an eF,wd [(4,none),(3,some (.cells [FZ (l.flatMap El.enc) l.length] 40 (0,0))),(4,some (ro 58 l)),(3,some (.cells [.slice (some ⟨4,0,none⟩) l.length aH] 40 (0,0)))] 5 [] 0,[]⟩ _;exact bg
structure WO(l:List Ce):Prop where
 len:l.length<=4000
 sd:∀c∈l,c.sd.length<=9
 id:∀c∈l,c.id<9223372036854775808
theorem vl{nf:Nat->Nat}{o1 o2:List Ce}{x:Ce}(h:Mt nf o1 x o2){y:Ce}(h1:y.sd.length<=9)(h2:y.id<9223372036854775808):WO (o1++y::o2):=by
 have hl:=h.len;refine⟨by rw[Yh,List.length_cons];omega,fun c hc=>?_,fun c hc=>?_⟩
 ·rcases List.mem_append.1 hc with q|q
  ·exact(h.h1 c q).sd
  rcases List.mem_cons.1 q with q|q
  ·rw[q];exact h1
  exact(h.h2 c q).sd
 rcases List.mem_append.1 hc with q|q
 ·have:=(h.h1 c q).id;omega
 rcases List.mem_cons.1 q with q|q
 ·rw[q];exact h2
 have:=(h.h2 c q).id;omega
def eS(q0 q1:Int):Option (List Ce×Ce×List Ce)->XS
 |none=>⟨an [(3,some (.pointer (some ⟨0,0,none⟩))),(5,some (.bool true)),(6,some (.pointer (some ⟨3,0,none⟩)))],wd [(0,some (.cells [.int .i64 q0,.int .i64 q1] 54 (0,0))),(3,some (.cells [sl ([]:List Ce)] 40 (0,0)))] 4 [] 0,[]⟩
 |some (o1,x,o2)=>⟨an [(3,some (.pointer (some ⟨0,0,none⟩))),(5,some (.bool true)),(6,some (.pointer (some ⟨3,0,none⟩)))],wd [(0,some (.cells [.int .i64 q0,.int .i64 q1] 54 (0,0))),(1,some (d9 2 o1 x o2)),(2,some (ro 60 x.sd)),(3,some (eB (o1.length+1+o2.length) aq))] 4 [] 0,[]⟩
def eV(nf:Nat->Nat):Option (List Ce×Ce×List Ce)->Prop
 |none=>True
 |some (o1,x,o2)=>Mt nf o1 x o2
theorem Sm{P:Program}{e:TypeId}{j:IntKind}{n i b o:Nat}:kU P (some (.array n e)) (some (.pointer (some ⟨b,o,none⟩))) (some (.int j ((i:Nat):Int)))=mR b o i n (sz P e):=rfl
theorem S9{P:Program}{e:TypeId}{j:IntKind}{n i b o cap:Nat}:kU P (some (.slice e)) (some (.slice (some ⟨b,o,none⟩) n cap)) (some (.int j ((i:Nat):Int)))=mR b o i n (sz P e):=rfl
attribute [go_sem] Sm S9
set_option maxHeartbeats 4000000 in
theorem R3(hS:kl Tryz.prog 89 51)(a:List Int)(q0 q1:Int)(hq:q1<9223372036854775808):aT Tryz.prog 5 [sl a,.agg #[.int .i64 q0,.int .i64 q1]] (wd [] 0 [] 0) fun e W'=>e=.ret (.bool true):=by
 have hgS:∀W,kH Q7 [] W=some (.ret (.bool true),W):=fun W=>rfl
 refine low Tryz.func5 Tryz.results5 (h:=?_);show ay _ _ 0 _ _ _;refine rs ?_;refine lB hgS (bh Wk) ?_;refine BO (eS q0 q1) (eV fun m=>q8 q0 m) ?_ (fun y hy=>?_)
 ·refine cm ?_;refine xo ?_;refine xc (f:=16) (args:=[sl a]) (enters_of (by kernel_rfl)) (HV (nf:=fun m=>q8 q0 m) b7.h (RY a _ (fun m h=>(xn h).1))) fun e W' hS=>?_
  rcases hS with⟨rfl,rfl⟩|⟨o1,x,o2,hv,rfl,rfl⟩
  ·refine⟨_,_,rfl,cu (by decide),?_⟩;refine xo ?_;refine xo ?_;refine xz ?_;exact⟨rfl,none,trivial,kj [(0,0),(1,3)]⟩
  refine⟨_,_,rfl,cu (by decide),?_⟩;simp only[fx,cU];refine xo ?_;refine xo ?_;refine xz ?_;exact⟨rfl,some (o1,x,o2),hv,bg⟩
 refine BO (fun l=>⟨an eF,wd (eA l) 5 [] 0,[]⟩) WO ?_ (fun l hl=>?_)
 ·cases y with
  |none=>
   show ay _ _ _ _ ⟨an [(3,some (.pointer (some ⟨0,0,none⟩))),(5,some (.bool true)),(6,some (.pointer (some ⟨3,0,none⟩)))],wd [(0,some (.cells [.int .i64 q0,.int .i64 q1] 54 (0,0))),(3,some (.cells [sl ([]:List Ce)] 40 (0,0)))] 4 [] 0,[]⟩ _;refine rs ?_;refine cf ?_;refine ap ?_;exact⟨rfl,[],⟨by decide,fun c h=>(by cases h),fun c h=>(by cases h)⟩,bg⟩
  |some y=>
   obtain⟨o1,x,o2⟩:=y;have hv:Mt (fun m=>q8 q0 m) o1 x o2:=hy;have hnf:=hv.nf;have hlen:=hv.len;have hx:=hv.h;obtain⟨m,hm⟩:∃m,m=o1.length+1+o2.length:=⟨_,rfl⟩;show ay _ _ _ _ ⟨an [(3,some (.pointer (some ⟨0,0,none⟩))),(5,some (.bool true)),(6,some (.pointer (some ⟨3,0,none⟩)))],wd [(0,some (.cells [.int .i64 q0,.int .i64 q1] 54 (0,0))),(1,some (d9 2 o1 x o2)),(2,some (ro 60 x.sd)),(3,some (eB (o1.length+1+o2.length) aq))] 4 [] 0,[]⟩ _;rw[<-hm]at hnf hlen ⊢;obtain⟨C,hC⟩:∃C:List Value,C=o1.flatMap El.enc++([.int .i64 x.id,.int .i64 x.dim,gs 2 aq x.sd]++o2.flatMap El.enc):=⟨_,rfl⟩;have hrw:d9 2 o1 x o2=.cells C 58 (0,0):=by rw[hC];rfl
   have hCl:C.length=m*3:=by have h1:(o1.flatMap El.enc).length=o1.length*3:=cM;have h2:(o2.flatMap El.enc).length=o2.length*3:=cM;rw[hC,Yh,Yh,h1,h2];show o1.length*3+(3+o2.length*3)=m*3;omega
   rw[hrw];have hA:(o1.flatMap El.enc).length=o1.length*3:=cM;have hmod:=Hs q0 m (by omega) (by omega);rw[<-hnf]at hmod;have hmod4:=Hs q1 4 (by decide) (by decide);have hd4:=(xn (q:=q1) (show 0<4 by decide)).1;generalize q8 q1 4=d at hmod4 hd4;refine rs ?_;refine ct ?_;refine rc (b1 hmod) ?_;refine rc (b1 hmod4) ?_;refine bl ?_;refine rs ?_;refine cp (fun h0=>?_) (fun h0=>?_)
   ·have f1:gM m aq=false:=by
     unfold gM;rw[fi (show m≠0 by omega)];rfl
    have f2:m-(o1.length+1)=o2.length:=by omega
    have f5:aN aq=true:=rfl;have f6:∀(c:Bool) (t:Option Addr),(bif c then t else t)=t:=fun c t=>Bool.cond_self c t
    have f7:∀W a n c s b e src o,oT W a n c s b e src o (some ⟨1,0,none⟩)=s4 W 1 a n c s b e src o:=fun _ _ _ _ _ _ _ _ _=>rfl
    have f8:∀W,tv W (some ⟨1,0,none⟩)=W.get 1:=fun _=>rfl
    have f9:∀W n src,s4 W 1 o1.length n o1.length 3 40 58 src (some (.cells C 58 (0,0)))=none:=fun W n src=>by
     show(bif Nat.beq 58 58&&Nat.beq C.length (o1.length*3)then _ else none)=none;rw[hCl,fi (show m*3≠o1.length*3 by omega),Bool.and_false];rfl
    have f10:∀q,qT none q=q:=fun _=>rfl
    by_cases hk:o2.length=0
    ·rw[hk]at f2;have F:=(And.intro f1 (And.intro f2 (And.intro f5 (And.intro f6 (And.intro f7 (And.intro f8 (And.intro f9 (And.intro f10 (And.intro @Nat.sub_zero (And.intro Bool.not_true (And.intro Bool.not_false Bool.false_and)))))))))));refine FX F ?_;exact⟨rfl,o1,⟨by omega,fun c hc=>(hv.h1 c hc).sd,fun c hc=>by have:=(hv.h1 c hc).id;omega⟩,iD (s2:=⟨an eF,wd [(1,some (d9 2 o1 x o2)),(3,some (eB o1.length o1.length))] 4 [] 0,[]⟩) (by rw[hrw];exact bg) (NR (by omega))⟩
    have f11:aN o1.length=false:=s8 (by omega);have f12:Nat.ble (o1.length+o2.length) o1.length=false:=s8 (by omega);have f13:(bif o1.length.beq 0 then some []else some (o1.flatMap El.enc))=some (o1.flatMap El.enc):=by
     cases o1 with
     |nil=>rfl
     |cons a l=>rfl
    have f14:List.drop ((o1.length+1)*3) C=o2.flatMap El.enc:=by rw[hC,show(o1.length+1)*3=(o1.flatMap El.enc).length+3 by rw[show(o1.flatMap El.enc).length=o1.length*3 from cM];omega,<-Zo,ZC rfl];rfl
    have f15:List.take (o1.length*3) C=o1.flatMap El.enc:=by rw[hC];exact Zq cM
    have f16:ef 40 (o1.length+o2.length)=true:=oG (by omega) (by omega);have f17:List.take (o2.length*3) (o2.flatMap El.enc)=o2.flatMap El.enc:=ot;have f18:(o2.flatMap El.enc).length=o2.length*3:=cM;have f19:(o2.flatMap El.enc).all de=true:=Cm;have F:=(And.intro f2 (And.intro f5 (And.intro f6 (And.intro f7 (And.intro f8 (And.intro f9 (And.intro f10 (And.intro f11 (And.intro f12 (And.intro f13 (And.intro f14 (And.intro f15 (And.intro f16 (And.intro f17 (And.intro f18 (And.intro f19 (And.intro f1 (And.intro @Nat.sub_zero (And.intro @Nat.beq_refl (And.intro Bool.not_true (And.intro Bool.not_false Bool.false_and)))))))))))))))))))));refine FX F ?_;refine⟨rfl,o1++o2,⟨by rw[Yh];omega,fun c hc=>?_,fun c hc=>?_⟩,iD (s2:=⟨an eF,wd [(4,some (.cells (o1.flatMap El.enc++o2.flatMap El.enc) 58 (0,0))),(3,some (.cells [.slice (some ⟨4,0,none⟩) (o1.length+o2.length) aH] 40 (0,0)))] 5 [] 0,[]⟩) bg (PB (by omega))⟩
    ·rcases List.mem_append.1 hc with q|q
     ·exact(hv.h1 c q).sd
     exact(hv.h2 c q).sd
    rcases List.mem_append.1 hc with q|q
    ·have:=(hv.h1 c q).id;omega
    have:=(hv.h2 c q).id;omega
   refine rs ?_;refine cp (fun h1=>?_) (fun h1=>?_)
   ·refine MB (And.intro hCl (@Nat.add_zero)) ?_;have hc1:=Ow (A:=o1.flatMap El.enc) (B:=o2.flatMap El.enc) (a:=.int .i64 x.id) (b:=.int .i64 x.dim) (c:=gs 2 aq x.sd) (v:=.int .i64 q1);rw[<-hC,hA]at hc1;refine⟨rfl,o1++⟨q1,x.dim,x.sd⟩::o2,vl hv hx.sd hq,iD (s2:=⟨an eF,wd [(1,some (d9 2 o1 ⟨q1,x.dim,x.sd⟩ o2)),(2,some (ro 60 x.sd)),(3,some (eB m aq))] 4 [] 0,[]⟩) ?_ (sW hm hlen hx.sd)⟩;rw[show d9 2 o1 ⟨q1,x.dim,x.sd⟩ o2=.cells (List.take (o1.length*3) C++Value.int .i64 q1::List.drop (o1.length*3+1) C) 58 (0,0) by rw[hc1];rfl];exact bg
   refine rs ?_;refine cp (fun h2=>?_) (fun h2=>?_)
   ·have hC1:C[o1.length*3+1]?=some (.int .i64 x.dim):=by rw[hC,<-hA,xV];rfl
    refine MB (And.intro hCl (And.intro (@Nat.add_zero) hC1)) ?_;have hc1:=Ou (A:=o1.flatMap El.enc) (B:=o2.flatMap El.enc) (a:=.int .i64 x.id) (b:=.int .i64 x.dim) (c:=gs 2 aq x.sd) (v:=.int .i64 (IntKind.i64.wrap (x.dim+((1:Nat):Int))));rw[<-hC,hA]at hc1;generalize IntKind.i64.wrap (x.dim+((1:Nat):Int))=dm at hc1 ⊢;refine⟨rfl,o1++⟨x.id,dm,x.sd⟩::o2,vl hv hx.sd (by have:=hx.id;show x.id<_;omega),iD (s2:=⟨an eF,wd [(1,some (d9 2 o1 ⟨x.id,dm,x.sd⟩ o2)),(2,some (ro 60 x.sd)),(3,some (eB m aq))] 4 [] 0,[]⟩) ?_ (sW hm hlen hx.sd)⟩;rw[show d9 2 o1 ⟨x.id,dm,x.sd⟩ o2=.cells (List.take (o1.length*3+1) C++Value.int .i64 dm::List.drop (o1.length*3+2) C) 58 (0,0) by rw[hc1];rfl];exact bg
   refine rs ?_;refine ct ?_;have hC2:C[o1.length*3+2]?=some (.slice (some ⟨2,0,none⟩) x.sd.length aq):=by rw[hC,<-hA,xV];rfl
   have h9:=hx.sd;cases hs:x.sd with
   |nil=>
    rw[hs]at hC2;refine rf (And.intro hCl (And.intro (@Nat.add_zero) hC2)) ?_;refine cf ?_;refine ap ?_;refine⟨rfl,o1++x::o2,vl hv hx.sd (by have:=hx.id;omega),iD (s2:=⟨an eF,wd [(1,some (d9 2 o1 x o2)),(2,some (ro 60 x.sd)),(3,some (eB m aq))] 4 [] 0,[]⟩) ?_ (sW hm hlen hx.sd)⟩;rw[hrw,hs];exact bg
   |cons sd0 sds=>
    obtain⟨u0,u1⟩:=sd0;rw[hs]at hC2;refine rf (And.intro hCl (And.intro (@Nat.add_zero) hC2)) ?_;refine ct ?_;have hro:ro 60 ((u0,u1)::sds)=.cells (.int .i64 u0::.int .i64 u1::sds.flatMap El.enc) 60 (0,0):=rfl;rw[hro];refine FX (And.intro hCl (And.intro (@Nat.add_zero) hC2)) ?_;have hr2:d9 2 o1 ⟨x.id,x.dim,(u0,q0)::sds⟩ o2=.cells C 58 (0,0):=by rw[hC,hs];rfl
    have h10:((u0,q0)::sds:List Sd).length<=9:=by rw[hs]at h9;exact h9
    refine⟨rfl,o1++⟨x.id,x.dim,(u0,q0)::sds⟩::o2,vl hv h10 (by have:=hx.id;show x.id<_;omega),iD (s2:=⟨an eF,wd [(1,some (d9 2 o1 ⟨x.id,x.dim,(u0,q0)::sds⟩ o2)),(2,some (ro 60 ((u0,q0)::sds))),(3,some (eB m aq))] 4 [] 0,[]⟩) ?_ (sW hm hlen h10)⟩;rw[hr2];exact bg
 clear hy y;refine lB (And.intro (fun W=>GW (o:=bT [] 0) (W:=W)) (fun W=>GW (o:=fV []) (W:=W))) (ur Ui TI) ?_;refine cv [(5,some (.bool true)),(6,some (.pointer (some ⟨3,0,none⟩))),(8,some (.pointer (some ⟨5,0,none⟩))),(9,some (.pointer (some ⟨6,0,none⟩)))] [(3,some (.cells [sl l] 40 (0,0))),(5,some (bT [] 7)),(6,some (fV [])),(7,some (fD []))] 8 ?_;have hll:=hl.len;have hsd:∀c∈l,c.sd.length<=1000000:=fun c hc=>by have:=hl.sd c hc;omega
 have hcx:=VF [] l (by omega) hsd hl.id;have hrx:=RU [] l (by decide) (by omega) hsd hl.id;obtain⟨hsm,hkk⟩:=PZ (l:=l) ew.nil hl.id (L:=[]);rw[<-hkk]at hrx;have hzero:(fm l).2≠0->rM [] l=[]:=fun h=>if_neg h
 have hlen1:(rM [] l).length<=1000000:=by
  rw[<-Bf hsm];unfold uN;split
  ·rename_i h0;obtain⟨k1,k2⟩:=pi h0 hl.id;have h1:=(BM k1 k2).1;have h2:=xO (L:=[]) (os:=fZ l) (fZ l).length;have h2:(pq [] (fZ l) (fZ l).length).length<=0+(fZ l).length:=h2;omega
  decide
 generalize rM [] l=es1 at hcx hsm hzero hlen1;generalize uN [] l=L1 at hrx hsm;generalize x9 l=hh at hcx hrx;generalize(fm l).2=ev at hcx hrx hzero;have hg1:=OD (w:=5) (b:=7) (xs:=[kF l]) (es:=[]) (es':=es1) (v:=.tuple #[cr hh,.int .i64 ev]) (N:=8) (nl:=0) (lg:=[]) (L:=[(3,some (.cells [sl l] 40 (0,0))),(5,some (bT [] 7)),(6,some (fV [])),(7,some (fD []))]) (by repeat (first|exact ab|refine Eq.trans (aa (by decide)) ?_)) (by repeat (first|exact ab|refine Eq.trans (aa (by decide)) ?_)) (by decide) (by decide) (by decide) (by decide);refine lB hg1 (bh (CB (w:=5) (b:=7) hcx)) ?_;refine cv [(5,some (.bool true)),(6,some (.pointer (some ⟨3,0,none⟩))),(8,some (.pointer (some ⟨5,0,none⟩))),(9,some (.pointer (some ⟨6,0,none⟩))),(10,some (.pointer (some ⟨9,0,none⟩))),(11,some (.int .i64 ev))] [(3,some (.cells [sl l] 40 (0,0))),(5,some (bT es1 10)),(6,some (fV [])),(9,some (hH hh)),(10,some (fD es1))] 11 ?_ (hl:=by
  cases es1 with
  |nil=>exact bg
  |cons a r=>exact kj [(3,3),(5,5),(6,6),(8,10),(9,9)])
 refine rc (TK hrx) ?_;refine cv [(5,some (.bool true)),(8,some (.pointer (some ⟨5,0,none⟩))),(9,some (.pointer (some ⟨6,0,none⟩))),(10,some (.pointer (some ⟨9,0,none⟩))),(11,some (.int .i64 ev)),(12,some (.pointer (some ⟨11,0,none⟩))),(13,some (.int .i64 ev))] [(5,some (bT es1 10)),(6,some (fV L1)),(9,some (hH hh)),(10,some (fD es1)),(11,some (hH hh))] 12 ?_;have hm:=S6 (a:=5) (b:=10) (c:=6) (n:=12) (nl:=0) (es:=es1) (L:=L1) (lg:=[]) (K:=[(5,some (bT es1 10)),(6,some (fV L1)),(9,some (hH hh)),(10,some (fD es1)),(11,some (hH hh))]) (by repeat (first|exact ab|refine Eq.trans (aa (by decide)) ?_)) (by repeat (first|exact ab|refine Eq.trans (aa (by decide)) ?_)) (by repeat (first|exact ab|refine Eq.trans (aa (by decide)) ?_)) (by decide) (by decide) (by decide) (by decide);have hd:∀h:HB,decide (h=h)=true:=fun h=>decide_eq_true rfl
 by_cases h0:ev=0
 ·subst h0;refine lB (And.intro hm hd) (ur (Jm (a:=5) (b:=10) (c:=6) hS (by decide) (by decide) (by decide) hlen1 hsm) (EJ hS)) ?_;refine rt ?_;rfl
 have hne:decide (ev=((0:Nat):Int))=false:=decide_eq_false h0;have he1:=hzero h0;subst he1;have hz:qN [] []=some (.slice none 0 0,[],.rd):=by rw[B6 (es:=[]) (by decide),show cZ (c8 [])=[]from by simp[c8,cZ]];rfl
 have hA:qX yo qN [.pointer (some ⟨5,0,none⟩)] (wd [(5,some (bT [] 10)),(6,some (fV L1)),(9,some (hH hh)),(10,some (fD [])),(11,some (hH hh))] 12 [] 0)=some (.ret (.slice none 0 0),wd [(5,some (bT [] 10)),(6,some (fV L1)),(9,some (hH hh)),(10,some (fD [])),(11,some (hH hh))] 12 [] 0):=
  SH (Kg (by repeat (first|exact ab|refine Eq.trans (aa (by decide)) ?_)) (by repeat (first|exact ab|refine Eq.trans (aa (by decide)) ?_)) (by decide) (by decide) (by decide) (by decide)) hz
 refine lB (And.intro hm (And.intro hd (And.intro hne hA))) (ur (Jm (a:=5) (b:=10) (c:=6) hS (by decide) (by decide) (by decide) hlen1 hsm) (EJ hS)) ?_;refine rt ?_;rfl
end Go.Proofs.YthlkgmdkabelpaaGreat.X
