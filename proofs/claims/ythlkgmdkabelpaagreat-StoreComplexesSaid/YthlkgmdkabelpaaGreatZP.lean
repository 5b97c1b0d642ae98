/-
  Packed by program (tools/pack.py) out of the texts U20 MSP MS4. No condition.
-/
import Derived.Test.YthlkgmdkabelpaaGreatZO
import Derived.Test.YthlkgmdkabelpaaGreatZM
import Derived.Test.YthlkgmdkabelpaaGreatZN
set_option linter.all false
namespace Go.Proofs.YthlkgmdkabelpaaGreat.X
open Go Go.RowKit
theorem i9(k:HB):∀(a b:aV),aD k (a++b)=(aD k a).or (aD k b)
 |[],b=>by simp[aD]
 |x::l,b=>by
  rw[List.cons_append,aD,aD];split
  ·simp
  exact i9 k l b
theorem tX{k:HB}:∀{l:aV},(∀x∈l,k≠x.1)->aD k l=none
 |[],_=>rfl
 |x::l,h=>by
  unfold aD;rw[if_neg (h x ab4)];exact tX fun y hy=>h y (aca _ hy)
theorem Bh(h:HB):∀rs:aV,(∀x∈rs.take (lZ h rs),cM x.1 h=true)/\∀x l,rs.drop (lZ h rs)=x::l->cM x.1 h=false
 |[]=>⟨fun x hx=>by simp at hx,fun x l e=>by simp at e⟩
 |y::l=>by
  obtain⟨h1,h2⟩:=Bh h l;unfold lZ;by_cases hy:cM y.1 h=true
  ·rw[if_pos hy,List.take_succ_cons,List.drop_succ_cons];refine⟨fun x hx=>?_,h2⟩;rcases List.mem_cons.1 hx with rfl|hx
   ·exact hy
   exact h1 x hx
  rw[if_neg hy];refine⟨fun x hx=>by simp at hx,fun x l e=>?_⟩;rw[List.drop_zero]at e;cases e;simpa using hy
structure eN(es rs:aV):Prop where
 sorted:rs.Pairwise fun x y=>cM x.1 y.1=true
 perm:(dA es).Perm (dA rs)
 get:∀h,aD h es=aD h rs
theorem eN.nil:eN [] []:=⟨.nil,.refl _,fun _=>rfl⟩
theorem GU{x y:HB}(h:cM x y=true):x≠y:=fun e=>by subst e;rw[iE.irrefl]at h;cases h
theorem eN.put{es rs:aV}(s:eN es rs)(o:List UInt8):eN (fm es o) (wq rs o):=by
 obtain⟨h,hh⟩:∃h,h=bq o:=⟨_,rfl⟩;obtain⟨p1,p2⟩:=Bh h rs;have hsp:rs.take (lZ h rs)++rs.drop (lZ h rs)=rs:=adh _ _;obtain⟨A,hA⟩:∃A,A=rs.take (lZ h rs):=⟨_,rfl⟩;obtain⟨B,hB⟩:∃B,B=rs.drop (lZ h rs):=⟨_,rfl⟩;have hins:Ij rs o=A++(h,o)::B:=by unfold Ij;rw[<-hh,<-hA,<-hB]
 have hgA:aD h A=none:=tX fun x hx=>by
  rw[hA]at hx;exact fun e=>GU (p1 x hx) e.symm
 have hhit:zk rs o=match B.head? with|some x=>decide (x.1=h)|none=>false:=by unfold zk;rw[<-hh,hB,List.head?_drop];cases rs[lZ h rs]?<;>rfl
 have hsrt:=s.sorted;rw[<-hsp,<-hA,<-hB]at hsrt;obtain⟨sA,sB,sAB⟩:=List.pairwise_append.1 hsrt;cases hb:zk rs o with
 |true=>
  have hR:wq rs o=rs:=by unfold wq;rw[hb];rfl
  have hg:aD h rs=(match B.head? with|some x=>some x.2|none=>none):=by
   rw[<-hsp,<-hA,<-hB,i9,hgA];rw[hb]at hhit;cases hB':B with
   |nil=>rw[hB']at hhit;cases hhit
   |cons x l=>
    rw[hB']at hhit;have hx:x.1=h:=by simpa using hhit.symm
    unfold aD;rw[if_pos hx.symm];rfl
  have hS:fm es o=es:=by
   unfold fm;rw[<-hh,s.get h,hg];rw[hb]at hhit;cases hB':B with
   |nil=>rw[hB']at hhit;cases hhit
   |cons x l=>rfl
  rw[hR,hS];exact s
 |false=>
  have hR:wq rs o=A++(h,o)::B:=by unfold wq;rw[hb];exact hins
  have hlt:∀y∈B,cM h y.1=true:=by
   rw[hb]at hhit;cases hB':B with
   |nil=>intro y hy;cases hy
   |cons x l=>
    rw[hB']at hhit sB;have hx:x.1≠h:=by simpa using hhit.symm
    have hnl:=p2 x l (by rw[<-hB,hB']);have hxl:cM h x.1=true:=by
     cases e:cM h x.1 with
     |true=>rfl
     |false=>exact absurd (nj hnl e) hx
    intro y hy;rcases List.mem_cons.1 hy with rfl|hy
    ·exact hxl
    exact iE.trans _ _ _ hxl ((List.pairwise_cons.1 sB).1 y hy)
  have hgB:aD h B=none:=tX fun x hx e=>GU (hlt x hx) e
  have hge:aD h es=none:=by rw[s.get h,<-hsp,<-hA,<-hB,i9,hgA,hgB];rfl
  have hS:fm es o=es++[(h,o)]:=by unfold fm;rw[<-hh,hge];rfl
  rw[hR,hS];refine⟨?_,?_,fun k=>?_⟩
  ·refine List.pairwise_append.2 ⟨sA,List.pairwise_cons.2 ⟨hlt,sB⟩,fun a ha b hb'=>?_⟩;rcases List.mem_cons.1 hb' with rfl|hb'
   ·exact p1 a (by rw[<-hA];exact ha)
   exact sAB a ha b hb'
  ·have hp:=s.perm;rw[<-hsp,<-hA,<-hB]at hp;unfold dA at hp ⊢;rw[acn]at hp;rw[acn,acn,ack,ack,acI];refine(List.perm_append_comm (l₁:=es.map (·.1)) (l₂:=[h])).trans ?_;rw[List.singleton_append];exact(List.Perm.cons h hp).trans List.perm_middle.symm
  have hk:=s.get k;rw[<-hsp,<-hA,<-hB,i9]at hk;rw[i9,i9,hk];by_cases e:k=h
  ·subst e;rw[hgA,hgB];simp[aD]
  simp only[aD,if_neg e];cases aD k A<;>cases aD k B<;>rfl
theorem eN.keys{es rs:aV}(s:eN es rs):dD (dA es)=dA rs:=by
 refine(xX s.perm.symm ?_).symm;unfold dA;refine List.pairwise_map.2 (s.sorted.imp fun{x y} h=>?_);cases e:cM y.1 x.1 with
 |false=>rfl
 |true=>have:=iE.trans _ _ _ h e;rw[iE.irrefl]at this;cases this
theorem DE{k:HB}:∀{l:aV},k∈dA l->∃t,aD k l=some t
 |[],h=>by cases h
 |x::l,h=>by
  unfold aD;by_cases e:k=x.1
  ·exact⟨_,if_pos e⟩
  rw[if_neg e];rcases List.mem_cons.1 h with q|q
  ·exact absurd q e
  exact DE q
theorem eN.found{es rs:aV}(s:eN es rs)(h:HB)(hm:h∈dA rs):∃t,aD h es=some t/\aD h rs=some t:=by
 obtain⟨t,ht⟩:=DE hm;exact⟨t,by rw[s.get h];exact ht,ht⟩
open Go.Proofs.YthlkgmdkabelpaaGreat.St
def iF(l:List Oj):aV:=l.map fun o=>(o.h,o.t)
theorem FM(h:HB):∀l,lZ h (iF l)=gF h l
 |[]=>rfl
 |o::l=>by
  show(if cM o.h h=true then lZ h (iF l)+1 else 0)=(if cM o.h h=true then gF h l+1 else 0);rw[FM h l]
theorem QK(l:List Oj)(t:List UInt8):iF (pQ l t)=wq (iF l) t:=by
 have hp:=FM (bq t) l;have e2:zk (iF l) t=decide (gF (bq t) l<l.length/\(l.getD (gF (bq t) l) default).h=bq t):=by
  unfold zk;rw[hp];unfold iF;rw[acE,abV];cases hx:l[gF (bq t) l]? with
  |none=>
   have:=List.getElem?_eq_none_iff.1 hx;exact(decide_eq_false (by omega)).symm
  |some x=>
   have:=(List.getElem?_eq_some_iff.1 hx).1;simp[this]
 unfold pQ wq Ij;rw[e2];by_cases hc:gF (bq t) l<l.length/\(l.getD (gF (bq t) l) default).h=bq t
 ·rw[if_pos hc,decide_eq_true hc,if_pos rfl]
 rw[if_neg hc,decide_eq_false hc,if_neg (by decide),hp];unfold iF;rw[acn,ack,List.map_take,List.map_drop]
theorem qR(h:HB):∀l,bM h l=aD h (iF l)
 |[]=>rfl
 |o::l=>by
  show(if o.h=h then some o.t else bM h l)=(if h=o.h then some o.t else aD h (iF l));rw[qR h l];by_cases e:o.h=h
  ·rw[if_pos e,if_pos e.symm]
  rw[if_neg e,if_neg (fun q=>e q.symm)]
theorem DX(l:List Oj):dA (iF l)=l.map (·.h):=by
 unfold dA iF;rw[List.map_map];rfl
theorem yh{γ:Type}{k:Int}{b:γ}:∀{l:List (Int×γ)},ax k l≠none->bT (bn k b l)=bT l
 |[],h=>absurd rfl h
 |x::l,h=>by
  unfold bn;unfold ax at h;split
  ·rename_i e;show k::bT l=x.1::bT l;rw[e]
  rename_i e;rw[if_neg e]at h;show x.1::bT (bn k b l)=x.1::bT l;rw[yh h]
theorem NZ{l:List Ce}(h:bV au l):∀{i j:Nat},i<=j->j<l.length->(l.getD i default).id<=(l.getD j default).id:=by
 induction l with
 |nil=>intro i j _ h;cases h
 |cons x l ih=>
  intro i j hij hj;cases i with
  |zero=>
   cases j with
   |zero=>exact Int.le_refl _
   |succ j=>exact h.1 _ (bj (l:=l) (i:=j) (by rw[List.length_cons]at hj;omega))
  |succ i=>
   cases j with
   |zero=>omega
   |succ j=>exact ih h.2 (by omega) (by rw[List.length_cons]at hj;omega)
structure ObV(o:List Ce)(j:Nat):Prop where
 out:(eY o j).out=(bT (cQ o j)).map fun k=>⟨kL o k.toNat⟩
 tree:(eY o j).tree=(bT (cQ o j)).flatMap fun k=>bZ k.toNat++dR (kL o k.toNat)
 asc:(bT (cQ o j)).Pairwise (·<·)
 top:∀k∈bT (cQ o j),k<=(eY o j).last
 mem:0<=(eY o j).last->(eY o j).last∈bT (cQ o j)
 low:∀i,j<=i->i<o.length->(eY o j).last<=(cL o i:Nat)
theorem O0{o:List Ce}(h:bV au o):∀j,j<=o.length->ObV o j
 |0,_=>⟨rfl,rfl,.nil,fun k h=>(by cases h),fun h=>absurd h (by show ¬(0:Int)<=-1;decide),fun i _ _=>by show(-1:Int)<=_;omega⟩
 |j+1,hj=>by
  have ih:=O0 h j (by omega);have hup:∀i,j<=i->i<o.length->cL o j<=cL o i:=fun i h1 h2=>by
   have:=NZ h h1 h2;unfold cL;exact Nat.div_le_div_right (by omega)
  have eb:cQ o (j+1)=bn ((cL o j:Nat):Int) ((ax ((cL o j:Nat):Int) (cQ o j)).getD []++[o.getD j default]) (cQ o j):=rfl;by_cases hk:((cL o j:Nat):Int)=(eY o j).last
  ·have eo:eY o (j+1)=eY o j:=if_pos hk;have hm:=ih.mem (by omega);have ek:bT (cQ o (j+1))=bT (cQ o j):=by rw[eb];exact yh (o9.2 (by rw[hk];exact hm))
   exact⟨by rw[eo,ek];exact ih.out,by rw[eo,ek];exact ih.tree,by rw[ek];exact ih.asc,by rw[eo,ek];exact ih.top,by rw[eo,ek];exact ih.mem,fun i h1 h2=>by rw[eo];exact ih.low i (by omega) h2⟩
  have eo:eY o (j+1)=⟨(cL o j:Nat),(eY o j).out++[⟨kL o (cL o j)⟩],(eY o j).tree++bZ (cL o j)++dR (kL o (cL o j))⟩:=if_neg hk;have hlo:=ih.low j (Nat.le_refl _) (by omega);have hno:ax ((cL o j:Nat):Int) (cQ o j)=none:=by
   cases hg:ax ((cL o j:Nat):Int) (cQ o j)with
   |none=>rfl
   |some b=>
    have:=ih.top _ (o9.1 (by rw[hg];simp));omega
  have ek:bT (cQ o (j+1))=bT (cQ o j)++[((cL o j:Nat):Int)]:=by rw[eb,jU hno];unfold bT;rw[acn];rfl
  rw[<-ab2 (cL o j)]at eo;refine⟨?_,?_,?_,?_,?_,?_⟩
  ·rw[eo,ek,acn,<-ih.out];rfl
  ·rw[eo,ek,acT,<-ih.tree,ab7,acV,List.append_nil,ab2,acg]
  ·rw[ek];refine List.pairwise_append.2 ⟨ih.asc,List.pairwise_singleton ..,fun a ha b hb=>?_⟩;rw[List.mem_singleton.1 hb];have:=ih.top a ha;omega
  ·rw[eo,ek];intro k hk2;show k<=((((cL o j:Nat):Int).toNat:Nat):Int);rcases List.mem_append.1 hk2 with q|q
   ·have:=ih.top k q;omega
   rw[List.mem_singleton.1 q];omega
  ·rw[eo,ek];intro _;refine List.mem_append.2 (.inr (List.mem_singleton.2 ?_));show((((cL o j:Nat):Int).toNat:Nat):Int)=_;omega
  intro i h1 h2;rw[eo];show((((cL o j:Nat):Int).toNat:Nat):Int)<=_;have:=hup i (by omega) h2;omega
theorem Hd(o:List Ce)(k:Nat):∀j,jS o k j=(((ax (k:Int) (cQ o j)).getD []).length,((ax (k:Int) (cQ o j)).getD []).flatMap (iX k))
 |0=>rfl
 |j+1=>by
  have e:cQ o (j+1)=bn ((cL o j:Nat):Int) ((ax ((cL o j:Nat):Int) (cQ o j)).getD []++[o.getD j default]) (cQ o j):=rfl;unfold jS;rw[e,lj,Hd o k j];by_cases h:cL o j=k
  ·subst h;rw[if_pos (show(o.getD j default).id.toNat/16=cL o j from rfl),if_pos rfl];simp[acT]
  rw[if_neg (show ¬(o.getD j default).id.toNat/16=k from h),if_neg (by omega)]
theorem Zl(o:List Ce)(k:Nat):kL o k=ny o (k:Int):=by
 unfold kL ny AW sL;rw[Hd,ab2]
theorem KN{m:List Int}(h:m.Pairwise (·<·)):dC m=m:=by
 unfold dC;exact List.mergeSort_of_pairwise (h.imp fun{a b} h=>by simp only[decide_eq_true_eq];omega)
theorem XA{o:List Ce}(h:bV au o):bQ o=bT (cQ o o.length):=KN (O0 h _ (Nat.le_refl _)).asc
theorem KL(o:List Ce):∀i,i<=(bQ o).length->fM o i=2::(bZ (cQ o o.length).length++((bQ o).take i).flatMap fun k=>bZ k.toNat++dR (ny o k))
 |0,_=>by rw[List.take_zero,acV,List.append_nil];rfl
 |i+1,h=>by
  have e:(bQ o).take (i+1)=(bQ o).take i++[(bQ o).getD i default]:=by rw[List.take_succ,abV,abS (by omega)];rfl
  show fM o i++bZ ((bQ o).getD i default).toNat++dR (ny o ((bQ o).getD i default))=_;rw[KL o i (by omega),e,acT,ab7,acV,List.append_nil,List.cons_append,List.cons_append,acg,acg]
theorem XM{l:List Ce}(hid:∀c∈aM l,0<=c.id):ib l=(bQ (aM l)).map (fun k=>(⟨ny (aM l) k⟩:Tx))++[⟨fM (aM l) (bQ (aM l)).length⟩]:=by
 have hs:=sw (l:=l);unfold ib;generalize aM l=o at hs hid ⊢;have hv:=O0 hs _ (Nat.le_refl _);have hkk:=XA hs;have hn:∀k∈bQ o,kL o k.toNat=ny o k:=fun k hk=>by
  rw[hkk]at hk;obtain⟨q,hq,rfl⟩:=List.mem_map.1 hk;obtain⟨_,m,h1,_⟩:=(xK o o.length (Nat.le_refl _)).row q hq;rw[Zl,h1,ab2]
 rw[KL o _ (Nat.le_refl _),List.take_length,hv.out,hv.tree,<-hkk];have e1:(bQ o).map (fun k=>(⟨kL o k.toNat⟩:Tx))=(bQ o).map fun k=>⟨ny o k⟩:=List.map_congr_left fun k hk=>by rw[hn k hk]
 have e2:((bQ o).flatMap fun k=>bZ k.toNat++dR (kL o k.toNat))=(bQ o).flatMap fun k=>bZ k.toNat++dR (ny o k):=by rw[List.flatMap_def,List.flatMap_def];exact congrArg List.flatten (List.map_congr_left fun k hk=>by rw[hn k hk])
 rw[e1,e2,ab1,GX]
theorem WA{f:Int->List UInt8}{ks:List Int}{t:Tx}{i:Nat}(hi:i<ks.length):(ks.map (fun k=>(⟨f k⟩:Tx))++[t]).getD i default=⟨f (ks.getD i default)⟩:=by
 rw[abV,acz (by rw[ab1];omega),acE,abS (by omega),abV,abS (by omega)];rfl
theorem Qf{f:Int->List UInt8}{ks:List Int}{t:Tx}:(ks.map (fun k=>(⟨f k⟩:Tx))++[t]).getD ks.length default=t:=by
 rw[abV,act (by rw[ab1];exact Nat.le_refl _),ab1,Nat.sub_self];rfl
theorem Au{es:aV}{L:List Oj}(h:eN es (iF L))(b:List UInt8):eN (fm es b) (iF (pQ L b)):=by
 rw[QK];exact h.put b
theorem Cv{L:List Oj}{os:List Tx}{i:Nat}:rA L os (i+1)=pQ (rA L os i) (os.getD i default).b:=rfl
theorem Qt{os:List Tx}{i:Nat}:hI os (i+1)=bq (os.getD i default).b:=rfl
theorem L9{es:aV}{L:List Oj}{t:Tx}(f:Int->List UInt8)(ks:List Int)(h:eN es (iF L))(pS:Nat->aV)(h0:pS 0=es)(hS:∀i,pS (i+1)=fm (pS i) (f (ks.getD i default))):∀i,i<=ks.length->eN (pS i) (iF (rA L (ks.map (fun k=>(⟨f k⟩:Tx))++[t]) i))
 |0,_=>by rw[h0];exact h
 |i+1,hi=>by
  have ih:=L9 (t:=t) f ks h pS h0 hS i (by omega);rw[Cv,hS,WA (by omega)];exact Au ih _
theorem Wc{es:aV}{L:List Oj}(f:Int->List UInt8)(ks:List Int)(h:eN es (iF L))(pS:Nat->aV)(T:List UInt8)(h0:pS 0=es)(hS:∀i,pS (i+1)=fm (pS i) (f (ks.getD i default))) :
 eN (fm (pS ks.length) T) (iF (rA L (ks.map (fun k=>(⟨f k⟩:Tx))++[⟨T⟩]) (ks.length+1)))/\bq T=hI (ks.map (fun k=>(⟨f k⟩:Tx))++[⟨T⟩]) (ks.length+1):=by
 rw[Cv,Qt,Qf];exact⟨Au (L9 f ks h pS h0 hS _ (Nat.le_refl _)) _,rfl⟩
theorem RY{es:aV}{L:List Oj}{l:List Ce}(h:eN es (iF L))(hid:∀c∈l,c.id<9223372036854775808):eN (Ac es l) (iF (sV L l))/\zX l=Eg l:=by
 unfold Ac sV zX Eg;by_cases h0:(ei l).2=0
 ·rw[if_pos h0,if_pos h0,if_pos h0,if_pos h0];have e:=XM (l:=l) fun c hc=>((ry h0 hid).2 c hc).id.1
  have hg:=Wc (ny (aM l)) (bQ (aM l)) h (xT es (aM l)) (fM (aM l) (bQ (aM l)).length) rfl (fun i=>rfl);rw[<-e]at hg;have hl:(ib l).length=(bQ (aM l)).length+1:=by rw[e,abP,ab1,ab5]
  rw[<-hl]at hg;exact hg
 rw[if_neg h0,if_neg h0,if_neg h0,if_neg h0];exact⟨h,rfl⟩
theorem UC:∀{l:List HB},qk (yw l) (sl l)
 |[]=>Eu
 |x::l=>i8
theorem XI{P:Program}{α:Type}{E:oF P α}{p:PP α}{xs:List Value}{W:XW}{w b:Nat}{a:α}{v:Value}(h:tA E W w b a)(hp:p xs a=some (v,a,.rd)):qh E p (.pointer (some ⟨w,0,none⟩)::xs) W=some (.ret v,W):=by
 rw[KU h (by rw[hp];intro v a' e;cases e),hp];rfl
theorem OQ{w b n nl:Nat}{es:aV}{L:List (Nat×Option ah)}{lg:List Nat}(hw:lk L w=some (aE es b))(hb:lk L b=some (bN es))(h1:w<n)(h2:b<n)(h3:n<16383)(hwb:w≠b):tA vF (wd L n lg nl) w b es:=
 ⟨by rw[ae h1 (by omega),hw];rfl,fun o h=>⟨by rw[ae h2 (by omega),hb,G6 h],hwb⟩⟩
abbrev lS(es:aV)(L:List Oj):List (Nat×Option ah):=[(0,some (aE es 1)),(1,some (bN es)),(2,some (cd L))]
abbrev lK(es:aV)(L:List Oj)(k:HB):List (Nat×Option ah):=[(0,some (aE es 1)),(1,some (bN es)),(2,some (cd L)),(3,some (hH k))]
theorem CY{es:aV}{L:List Oj}(h:eN es (iF L)):L.length=es.length:=by
 have:=h.perm.length_eq;unfold dA iF at this;simp only[ab1]at this;exact this.symm
theorem N7{es:aV}{L:List Oj}(hs:eN es (iF L)){h:HB}(hm:h∈L.map (·.h)):∃t,aD h es=some t/\bM h L=some t:=by
 obtain⟨t,h1,h2⟩:=hs.found h (by rw[DX];exact hm);exact⟨t,h1,by rw[qR];exact h2⟩
set_option maxHeartbeats 2000000 in
theorem Rv(hS:lD Tryz.prog 89 51)(es:aV)(L:List Oj)(hn:es.length<=1000000)(hs:eN es (iF L)):bg Tryz.prog 14 [.pointer (some ⟨0,0,none⟩),.pointer (some ⟨2,0,none⟩)] (wd (lS es L) 3 [] 0) fun e W'=>e=.ret (.bool true)/\W'.get 0=some (aE es 1)/\W'.get 1=some (bN es)/\W'.get 2=some (cd L):=by
 have hL:L.length<=1000000:=by rw[CY hs];exact hn
 have hA:qh vF yl [.pointer (some ⟨0,0,none⟩)] (wd (lS es L) 3 [] 0)=some (.ret (yw (L.map (·.h))),wd (lS es L) 3 [] 0):=by rw[<-DX,<-hs.keys];exact XI (OQ rfl rfl (by decide) (by decide) (by decide) (by decide)) (MU hn)
 have hkl:(L.map (·.h)).length<=1000000:=by rw[ab1];exact hL
 have hall:=RU L hL;have hg:∀i,i<(L.map (·.h)).length->∃t,aD ((L.map (·.h)).getD i default) es=some t/\bM ((L.map (·.h)).getD i default) L=some t:=fun i hi=>N7 hs (bj hi)
 generalize L.map (·.h)=ks at hA hkl hall hg;refine low Tryz.func14 Tryz.results14 (h:=?_);show ar _ _ 3 _ _ _;refine rs ?_;refine eO hA (bh (Y7 hS)) ?_;refine cv [(0,some (.pointer (some ⟨0,0,none⟩))),(1,some (.pointer (some ⟨2,0,none⟩))),(5,some (sl ks))] (lS es L) 3 ?_ (hl:=bL (hF:=u9 (by decide) (by repeat (first|exact ab|refine Eq.trans (aa (by decide)) ?_)) i8 (u9 (by decide) (by repeat (first|exact ab|refine Eq.trans (aa (by decide)) ?_)) i8 (u9 (by decide) (by repeat (first|exact ab|refine Eq.trans (aa (by decide)) ?_)) UC KB))));refine TQ (oZ (DT hall) (fj (PO ks hkl))) ?_;refine cf ?_;refine sk ?_;refine rS ?_;refine fr (fun i:Nat=>⟨ao [(0,some (.pointer (some ⟨0,0,none⟩))),(1,some (.pointer (some ⟨2,0,none⟩))),(19,some (sl ks)),(20,some (.int .i64 (ks.length:Nat))),(21,some (.int .i64 (i:Nat)))],wd (lS es L) 3 [] 0,[]⟩) (fun i=>i<=ks.length) (fun i=>ks.length-i) 0 (abW _) (fun i hv h=>?_) (fun i hv h=>?_)
 ·obtain⟨t,g1,g2⟩:=hg i (by omega);refine bs (rs ?_);generalize hk:ks.getD i default=k at g1 g2;have hgt:=F3 L k hL;have hG:qh vF rC [.pointer (some ⟨0,0,none⟩),bu k] (wd (lK es L k) 4 [] 0)=some (.ret (.tuple #[.string (str t),.bool true]),wd (lK es L k) 4 [] 0):=by
   refine XI (OQ rfl rfl (by decide) (by decide) (by decide) (by decide)) (Eq.trans GJ ?_);rw[g1];rfl
  rw[g2]at hgt;refine cv [(0,some (.pointer (some ⟨0,0,none⟩))),(1,some (.pointer (some ⟨2,0,none⟩))),(7,some (.pointer (some ⟨3,0,none⟩))),(19,some (sl ks)),(20,some (.int .i64 (ks.length:Nat))),(21,some (.int .i64 (i:Nat)))] (lK es L k) 4 ?_;refine eO hG (bh I2) ?_;refine rc (lL hgt) ?_;refine rs ?_;refine cf ?_;refine ap ?_;refine rl ?_;exact nx (i+1) (by omega) (by omega) (fb [(0,0),(1,1),(2,2)])
 refine rs ?_;refine rt ?_;exact⟨rfl,by simp(disch:=decide) only[ae,ab,aa],by simp(disch:=decide) only[ae,ab,aa],by simp(disch:=decide) only[ae,ab,aa]⟩
def At3(a b c:Nat)(es:aV)(L:List Oj)(A:List Value)(W:XW):Prop:=A=[.pointer (some ⟨a,0,none⟩),.pointer (some ⟨c,0,none⟩)]/\W.get a=some (aE es b)/\W.get b=some (bN es)/\W.get c=some (cd L)
open Classical in
noncomputable def P2(a b c:Nat)(es:aV)(L:List Oj):HF:=fun A W=>if At3 a b c es L A W then some (.ret (.bool true),W)else none
theorem Uv{a b c:Nat}{es:aV}{L:List Oj}(hS:lD Tryz.prog 89 51)(hab:a≠b)(hac:a≠c)(hbc:b≠c)(hn:es.length<=1000000)(hs:eN es (iF L)):bS Tryz.prog 14 (P2 a b c es L):=by
 have key:∀A W e' W',P2 a b c es L A W=some (e',W')->At3 a b c es L A W/\e'=.ret (.bool true)/\W'=W:=fun A W e' W' q=>by
  unfold P2 at q;split at q
  ·rename_i hx;cases q;exact⟨hx,rfl,rfl⟩
  cases q
 refine⟨enters_of (by kernel_rfl),fun A W e' W' q=>?_,fun A W e' W' q=>?_⟩
 ·obtain⟨_,_,rfl⟩:=key _ _ _ _ q;exact .refl _
 obtain⟨⟨rfl,ha,hb,hc⟩,rfl,rfl⟩:=key _ _ _ _ q;clear q key;have han:=aL ha;have hbn:=aL hb;have hcn:=aL hc;obtain⟨θ,hθ⟩:∃θ:Nat->Option Nat,θ=fun n=>if n=a then some 0 else if n=b then some 1 else if n=c then some 2 else none:=⟨_,rfl⟩
 have t0:θ a=some 0:=by rw[hθ];exact if_pos rfl
 have t1:θ b=some 1:=by rw[hθ];simp only[if_neg (Ne.symm hab),if_pos]
 have t2:θ c=some 2:=by rw[hθ];simp only[if_neg (Ne.symm hac),if_neg (Ne.symm hbc),if_pos]
 have tc:∀n m,θ n=some m->(n=a/\m=0)\/(n=b/\m=1)\/(n=c/\m=2):=fun n m h=>by
  rw[hθ]at h;simp only at h;split at h
  ·rename_i q;cases h;exact .inl ⟨q,rfl⟩
  split at h
  ·rename_i q;cases h;exact .inr (.inl ⟨q,rfl⟩)
  split at h
  ·rename_i q;cases h;exact .inr (.inr ⟨q,rfl⟩)
  cases h
 obtain⟨ν,hν⟩:∃ν:Nat->Nat,ν=fun m=>if m=0 then a else if m=1 then b else c:=⟨_,rfl⟩
 have n0:ν 0=a:=by rw[hν];rfl
 have n1:ν 1=b:=by rw[hν];rfl
 have n2:ν 2=c:=by rw[hν];rfl
 refine iP (k:=3) ν θ rfl (fun m m' h h' e=>?_) (fun m h=>?_) (fun n m h=>?_) (fun m oL h=>?_) (av (bI t0) (av (bI t2) aR)) (Rv hS es L hn hs) fun eL WL' hE=>?_
 ·have h1:m=0\/m=1\/m=2:=by omega
  have h2:m'=0\/m'=1\/m'=2:=by omega
  rcases h1 with rfl|rfl|rfl<;>rcases h2 with rfl|rfl|rfl<;>simp only[n0,n1,n2]at e<;>omega
 ·have h1:m=0\/m=1\/m=2:=by omega
  rcases h1 with rfl|rfl|rfl<;>simp only[n0,n1,n2]<;>assumption
 ·rcases tc n m h with⟨rfl,rfl⟩|⟨rfl,rfl⟩|⟨rfl,rfl⟩
  ·exact⟨by decide,n0⟩
  ·exact⟨by decide,n1⟩
  exact⟨by decide,n2⟩
 ·have hm:m<3:=aL h;obtain⟨_,h2⟩:=bY h;have h1:m=0\/m=1\/m=2:=by omega
  rcases h1 with rfl|rfl|rfl
  ·rw[ab]at h2;cases h2;exact⟨by decide,_,by rw[n0];exact ha,dy fun _=>t1⟩
  ·rw[aa (by decide),ab]at h2;cases h2;exact⟨by decide,_,by rw[n1];exact hb,gh fJ _ _ _ aj⟩
  rw[aa (by decide),aa (by decide),ab]at h2;cases h2;exact⟨by decide,_,by rw[n2];exact hc,aB (inferInstance:b7 [sl L]).h _ aj⟩
 obtain⟨rfl,g0,g1,g2⟩:=hE;obtain⟨φ,hφ⟩:∃φ:Nat->Option Nat,φ=fun m=>if m=0 then some a else if m=1 then some b else if m=2 then some c else none:=⟨_,rfl⟩
 have f0:φ 0=some a:=by rw[hφ];rfl
 have f1:φ 1=some b:=by rw[hφ];rfl
 have f2:φ 2=some c:=by rw[hφ];rfl
 have fc:∀m x,φ m=some x->(m=0/\x=a)\/(m=1/\x=b)\/(m=2/\x=c):=fun m x h=>by
  rw[hφ]at h;simp only at h;split at h
  ·rename_i q;cases h;exact .inl ⟨q,rfl⟩
  split at h
  ·rename_i q;cases h;exact .inr (.inl ⟨q,rfl⟩)
  split at h
  ·rename_i q;cases h;exact .inr (.inr ⟨q,rfl⟩)
  cases h
 refine⟨φ,fun m x h=>?_,fun m m' x h h'=>?_,fun x o' h=>?_,(inferInstance:Br (.bool true)).h _ aj,Nat.le_refl _⟩
 ·rcases fc m x h with⟨rfl,rfl⟩|⟨rfl,rfl⟩|⟨rfl,rfl⟩
  ·exact .inl ⟨by decide,n0.symm⟩
  ·exact .inl ⟨by decide,n1.symm⟩
  exact .inl ⟨by decide,n2.symm⟩
 ·rcases fc m x h with⟨q,q1⟩|⟨q,q1⟩|⟨q,q1⟩<;>rcases fc m' x h' with⟨p,p1⟩|⟨p,p1⟩|⟨p,p1⟩<;>omega
 by_cases xa:x=a
 ·subst xa;rw[ha]at h;cases h;exact .inl ⟨0,_,f0,g0,dy fun _=>f1⟩
 by_cases xb:x=b
 ·subst xb;rw[hb]at h;cases h;exact .inl ⟨1,_,f1,g1,gh fJ _ _ _ aj⟩
 by_cases xc:x=c
 ·subst xc;rw[hc]at h;cases h;exact .inl ⟨2,_,f2,g2,aB (inferInstance:b7 [sl L]).h _ aj⟩
 refine .inr ⟨h,aL h,fun m hm=>?_⟩;have h1:m=0\/m=1\/m=2:=by omega
 rcases h1 with rfl|rfl|rfl
 ·rw[n0];exact fun e=>xa e.symm
 ·rw[n1];exact fun e=>xb e.symm
 rw[n2];exact fun e=>xc e.symm
theorem UM{a b c n nl:Nat}{es:aV}{L:List Oj}{K:List (Nat×Option ah)}{lg:List Nat}(ha:lk K a=some (aE es b))(hb:lk K b=some (bN es))(hc:lk K c=some (cd L))(h1:a<n)(h2:b<n)(h3:c<n)(h4:n<16383) :
 P2 a b c es L [.pointer (some ⟨a,0,none⟩),.pointer (some ⟨c,0,none⟩)] (wd K n lg nl)=some (.ret (.bool true),wd K n lg nl):=
 if_pos ⟨rfl,by rw[ae h1 (by omega)];exact ha,by rw[ae h2 (by omega)];exact hb,by rw[ae h3 (by omega)];exact hc⟩
end Go.Proofs.YthlkgmdkabelpaaGreat.X
