/-
  Packed by program (tools/pack.py) out of the texts U4 U5 U6 U7 U8 U9 U10 U11 US U12 U13 U15 U16 U18 U17 V0 U14. No condition.
-/
import Derived.Test.YthlkgmdkabelpaaGreatNF
import Derived.Test.YthlkgmdkabelpaaGreatNK
import Derived.Shelf.Small.Strs
import Derived.Shelf.SlGeneric
import Derived.Shelf.SlLaysF0
import Derived.Ground.SlsfProg
import Derived.Ground.NamesProg
import Derived.Test.YthlkgmdkabelpaaGreatProg
import Derived.Shelf.SlSortCmp.KitK
import Derived.KernelRfl
import Derived.Shelf.SlSortCmp.NoneTotal
set_option linter.all false
open Nat(reduceAdd reduceMul reduceSub)
namespace Go.Proofs.YthlkgmdkabelpaaGreat.X
open Go Go.RowKit
def iR(a b:HB):Bool:=gA a.1 b.1
theorem oX:∀l:cX,(iU l).length=l.length*33
 |[]=>rfl
 |x::l=>by
  unfold iU;rw[Z8,ZM,qL,List.length_cons];have:=oX l;unfold iU at this;rw[this];omega
theorem rF:∀(l:cX) (i:Nat),(iU l).take (i*33)=iU (l.take i)
 |[],i=>by simp[iU]
 |x::l,0=>by simp[iU]
 |x::l,i+1=>by
  show(BC x++iU l).take _=BC x++iU (l.take i);rw[aaO,aau,List.take_append,List.take_of_length_le (by rw[qL];omega),qL,show 33+i*33-33=i*33 by omega,rF l i]
theorem qP:∀(l:cX) (i:Nat),(iU l).drop (i*33)=iU (l.drop i)
 |[],i=>by simp[iU]
 |x::l,0=>by simp[iU]
 |x::l,i+1=>by
  show(BC x++iU l).drop _=iU (l.drop i);rw[aaO,aau,List.drop_append,List.drop_of_length_le (by rw[qL];omega),qL,show 33+i*33-33=i*33 by omega,qP l i,List.nil_append]
theorem Ak(l:cX):(iU l).all bk=true:=by
 rw[aa3];intro v hv;obtain⟨x,_,hx⟩:=List.mem_flatMap.1 hv;unfold BC at hx;rcases List.mem_append.1 hx with h|h
 ·obtain⟨b,_,rfl⟩:=List.mem_map.1 h;rfl
 simp only[ZU,ZS,or_false]at h;subst h;rfl
theorem Ge{P:Program}{N k:Nat}{c d:Code}{s:XS}{Q:XQ}(S:XS)(h:bA P N k c s fun e s'=>e=.norm/\db P k s' S)(q:bA P N k d S Q):bA P N k (.seq c d) s Q:=
 ae (jb (fun e s1 hx=>by
  obtain⟨rfl,hl⟩:=hx;exact aU hl q) h)
theorem UD(a b:HB):(a.1==b.1)=decide (a=b):=by
 by_cases h:a=b
 ·subst h;simp
 have:a.1≠b.1:=fun e=>h (Subtype.ext e)
 rw[decide_eq_false h,beq_false_of_ne this]
theorem FC:bm 0=false:=by decide
def dg(l:List HB):List Value:=l.flatMap fun h=>aF h.1
theorem vu(l:List HB):dt (dg l):=br (fun h=>dn _) l
theorem wm{l:List HB}{i:Nat}(h:i<l.length):((dg l).drop (i*32)).take 32=aF l[i].1:=wP (g:=fun h:HB=>aF h.1) (m:=32) (fun x _=>by rw[bK,x.2]) h
theorem fe:∀l:List HB,(dg l).length=l.length*32
 |[]=>rfl
 |x::l=>by
  have:=fe l;unfold dg at this ⊢;rw[Z8,ZM,bK,x.2,List.length_cons,this];omega
theorem GR{l:List HB}{h:HB}:dg l++aF h.1=dg (l++[h]):=by simp[dg]
theorem Kb{h:HB}:aF h.1=dg [h]:=by simp[dg]
theorem Ad:∀{l m:List HB},dg l=dg m->l=m
 |[],[],_=>rfl
 |[],y::m,h=>by
  have:=congrArg List.length h;rw[fe,fe,List.length_cons]at this;simp at this
 |x::l,[],h=>by
  have:=congrArg List.length h;rw[fe,fe,List.length_cons]at this;simp at this
 |x::l,y::m,h=>by
  unfold dg at h;rw[Z8,Z8]at h;obtain⟨h1,h2⟩:=List.append_inj h (by rw[bK,bK,x.2,y.2]);have e1:x=y:=Subtype.ext (Fd h1);rw[e1,Ad (l:=l) (m:=m) h2]
def jk(l:List HB):Value:=jd (dg l) l.length
theorem wD(l:List HB):dG (jk l):=io (vu l) _
theorem Et{a b:List HB}(h:jk a=jk b):a=b:=Ad (L9 h (fun e=>by rw[List.length_eq_zero_iff.1 e];rfl) (fun e=>by rw[List.length_eq_zero_iff.1 e];rfl)).1
open Classical in
noncomputable def CS:List Value->Option Value:=fun xs=>if h:∃q:List HB×List HB,xs=[jk q.1,jk q.2]/\q.1.length<=1000000 then some (.bool (decide ((Classical.choose h).1=(Classical.choose h).2)))else none
theorem Sf{a b:List HB}(ha:a.length<=1000000):CS [jk a,jk b]=some (.bool (decide (a=b))):=by
 have hx:∃q:List HB×List HB,[jk a,jk b]=[jk q.1,jk q.2]/\q.1.length<=1000000:=⟨(a,b),rfl,ha⟩;have e:CS [jk a,jk b]=some (.bool (decide ((Classical.choose hx).1=(Classical.choose hx).2))):=dif_pos hx;have hq:=(ZQ hx).1;generalize Classical.choose hx=q at hq e;injection hq with h1 h2;injection h2 with h2 _;rw[e,Et h1,Et h2]
structure ZL(a b:List HB) where
 i:Nat
 hi:i<=a.length
 hl:∀j (q:j<a.length) (r:j<b.length),j<i->a[j]=b[j]
theorem DO(a b:List HB)(ha:a.length<=1000000):aN Tryz.prog 24 [jk a,jk b] (wd [] 0 [] 0) fun e W'=>e=.ret (.bool (decide (a=b))):=by
 refine be av Tryz.func24 rfl (Nat.le_of_ble_eq_true rfl) ?_;simp only[aY.eq_1,aY.eq_2,bf,Tryz.ntmps24,reduceAdd,jk];refine ae (ac (e:=?e1) (s':=?s1) av ?h1 ?q1)
 case h1=>simp(disch:=decide) only[go_sem];all_goals rfl
 refine ae ?_;by_cases hlen:a.length=b.length
 ·have hne:((a.length:Nat):Int)=((b.length:Nat):Int):=by omega
  refine ae (ac (e:=?e2) (s':=?s2) av ?h2 ?q2)
  case h2=>simp(disch:=decide) only[pI,hne,go_sem];all_goals rfl
  refine aO (by simp(disch:=first|decide|omega|(simp only[List.length_cons,List.length_nil,ZM,bK,ZR,ZV];omega)) only[go_sem]<;>with_reducible rfl) ?_;refine aH ?_;refine ae ?_;refine ae (ac (e:=?e4) (s':=?s4) av ?h4 ?q4)
  case h4=>simp(disch:=decide) only[go_sem];all_goals rfl
  refine aD ?_;refine aU (s':=⟨aI [(0,some (jd (dg a) a.length)),(1,some (jd (dg b) b.length)),(5,some (.int .i64 ((0:Nat):Int)))],wd [] 0 [] 0,[]⟩) (ak (by simp(disch:=decide) [ai,ab,aa,ag]) trivial (by decide)) ?_;refine bw (α:=ZL a b) (fun y=>⟨aI [(0,some (jd (dg a) a.length)),(1,some (jd (dg b) b.length)),(5,some (.int .i64 (y.i:Int)))],wd [] 0 [] 0,[]⟩) (fun y=>a.length-y.i) ?_ ⟨0,Z3 _,fun j q r h=>absurd h (aaN j)⟩;intro ⟨i,hi,hl⟩;simp only;by_cases hlt:i<a.length
  ·have hlb:i<b.length:=by omega
   have h1:=wm hlt;have h2:=wm hlb;obtain⟨x,hx⟩:∃x,x=a[i]:=⟨_,rfl⟩;obtain⟨y,hy⟩:∃y,y=b[i]:=⟨_,rfl⟩;rw[<-hx]at h1;rw[<-hy]at h2;have hbh:=fun p q=>(rI (x:=p) (y:=q) gB x.2 y.2).2
   have hbq:(x.1==y.1)=decide (x=y):=UD x y;have hxl:=x.2;have hyl:=y.2;refine ae ?_;refine ae (ac (e:=?e5) (s':=?s5) av ?h5 ?q5)
   case h5=>simp(disch:=decide) only[pI,go_sem];all_goals rfl
   refine aZ (by simp(disch:=first|decide|omega|(simp only[List.length_cons,List.length_nil,ZM,bK,ZR,ZV];omega)) only[go_sem]<;>with_reducible rfl) ?_;refine aH ?_;refine ae (aD ?_);refine bl av ⟨aI [(0,some (jd (dg a) a.length)),(1,some (jd (dg b) b.length)),(5,some (.int .i64 (i:Int))),(25,some (.bool (!decide (x=y))))],wd [] 0 [] 0,[]⟩ ?hda ?qda
   case hda=>
    refine⟨?rsa,?sxa,?hxa,?kxa,?lxa⟩
    case hxa=>simp(disch:=first|decide|omega|(simp only[List.length_cons,List.length_nil,ZM,bK,ZR,ZV];omega)) only[aE.eq_1,aE.eq_2,cm.eq_1,bd.eq_1,bd.eq_2,CH hlt,CH hlb,mD.eq_1,fB,h1,h2,hbh,hbq,go_sem]<;>with_reducible rfl
    case kxa=>kernel_rfl
    case lxa=>exact ak (by simp(disch:=decide) [ai,ab,aa,ag]) trivial (by decide)
   by_cases hxy:x=y
   ·rw[decide_eq_true hxy,Bool.not_true];refine aO ?h7 ?q7
    case h7=>simp(disch:=decide) only[go_sem];all_goals rfl
    refine aH ?_;show bA _ _ _ _ _ _;refine ac av (by simp(disch:=first|decide|omega|(simp only[List.length_cons,List.length_nil,ZM,bK,ZR,ZV];omega)) only[go_sem]<;>with_reducible rfl) ?_;refine⟨⟨i+1,hlt,fun j q r h=>?_⟩,by simp only;omega,?_⟩
    ·by_cases hj:j=i
     ·subst hj;rw[<-hx,<-hy];exact hxy
     exact hl j q r (by omega)
    exact ak (by simp(disch:=decide) [ai,ab,aa,ag]) trivial (by decide)
   rw[decide_eq_false hxy,Bool.not_false];refine aZ ?h9 ?q9
   case h9=>simp(disch:=decide) only[go_sem];all_goals rfl
   refine ae (ac (e:=?e10) (s':=?s10) av ?h10 ?q10)
   case h10=>simp(disch:=decide) only[go_sem];all_goals rfl
   refine bh ?_;refine⟨_,?e11,?W11,rfl,?h11,?q11⟩
   case h11=>simp(disch:=decide) only[Tryz.results24,go_sem];all_goals rfl
   have:¬a=b:=fun e=>by subst e;exact hxy (by rw[hx,hy])
   rw[decide_eq_false this]
  refine ae ?_;refine ae (ac (e:=?e12) (s':=?s12) av ?h12 ?q12)
  case h12=>simp(disch:=decide) only[pI,go_sem];all_goals rfl
  refine aO (by simp(disch:=first|decide|omega|(simp only[List.length_cons,List.length_nil,ZM,bK,ZR,ZV];omega)) only[go_sem]<;>with_reducible rfl) ?_;refine bp ?_;show bA _ _ _ _ _ _;refine ae (ac (e:=?e14) (s':=?s14) av ?h14 ?q14)
  case h14=>simp(disch:=decide) only[go_sem];all_goals rfl
  refine bh ?_;refine⟨_,?e15,?W15,rfl,?h15,?q15⟩
  case h15=>simp(disch:=decide) only[Tryz.results24,go_sem];all_goals rfl
  have:a=b:=List.ext_getElem hlen fun j q r=>hl j q r (by omega)
  rw[decide_eq_true this]
 have hne:¬((a.length:Nat):Int)=((b.length:Nat):Int):=by omega
 refine ae (ac (e:=?e16) (s':=?s16) av ?h16 ?q16)
 case h16=>simp(disch:=decide) only[pI,jK hne,go_sem];all_goals rfl
 refine aZ ?h17 ?q17
 case h17=>simp(disch:=decide) only[go_sem];all_goals rfl
 refine ae (ac (e:=?e18) (s':=?s18) av ?h18 ?q18)
 case h18=>simp(disch:=decide) only[go_sem];all_goals rfl
 refine bh ?_;refine⟨_,?e19,?W19,rfl,?h19,?q19⟩
 case h19=>simp(disch:=decide) only[Tryz.results24,go_sem];all_goals rfl
 have:¬a=b:=fun e=>hlen (by rw[e])
 rw[decide_eq_false this]
theorem YB:bD Tryz.prog 24 (bu CS):=by
 have inv:∀xs v,CS xs=some v->∃a b:List HB,xs=[jk a,jk b]/\a.length<=1000000/\v=.bool (decide (a=b)):=fun xs v h=>by
  unfold CS at h;split at h
  ·rename_i hx;have hq:=ZQ hx;cases h;exact⟨_,_,hq.1,hq.2,rfl⟩
  cases h
 refine wt (enters_of (by kernel_rfl)) (fun xs v h=>?_) (fun xs v h=>?_)
 ·obtain⟨a,b,rfl,_,rfl⟩:=inv _ _ h;exact⟨aw (wD a) (aw (wD b) aQ),aG 1 rfl⟩
 obtain⟨a,b,rfl,ha,rfl⟩:=inv _ _ h;exact DO a b ha
def fF(es:cX):List HB:=es.map (·.1)
theorem vV{enc:List UInt8->Value}:∀{l:cX} {i:Nat} {e:MapEntry},e∈iM enc l i->∃j,∃h:j<l.length,e=⟨eG l[j].1,enc l[j].2,i+j⟩
 |x::l,i,e,h=>by
  rcases List.mem_cons.1 h with rfl|h
  ·exact⟨0,by rw[List.length_cons];omega,rfl⟩
  obtain⟨j,hj,rfl⟩:=vV h;exact⟨j+1,by rw[List.length_cons];omega,by rw[aa5,aau 1];rfl⟩
theorem tM{enc:List UInt8->Value}:∀{l:cX} {i j:Nat} (h:j<l.length),(iM enc l i).find? (fun e=>Nat.beq e.born (i+j))=some ⟨eG l[j].1,enc l[j].2,i+j⟩
 |x::l,i,0,_=>by
  unfold iM;rw[List.find?_cons_of_pos (by show Nat.beq i (i+0)=true;exact ZY i)];rfl
 |x::l,i,j+1,h=>by
  unfold iM;rw[List.find?_cons_of_neg (by show ¬Nat.beq i (i+(j+1))=true;rw[gk (by omega)];simp)];have:=tM (enc:=enc) (l:=l) (i:=i+1) (j:=j) (by rw[List.length_cons]at h;omega);rw[show i+(j+1)=i+1+j by omega];exact this
structure NQ(es:cX) where
 js:List Nat
 m:List HB
 nd:js.Nodup
 lt:∀j∈js,j<es.length
 hm:m=js.map fun j=>(es[j]?.map (·.1)).getD (eI [])
theorem ri:∀{n:Nat} {l:List Nat},l.Nodup->(∀j∈l,j<n)->l.length<=n
 |0,[],_,_=>Nat.le_refl _
 |0,a::l,_,h=>absurd (h a aaf) (aaN _)
 |n+1,l,h,hl=>by
  by_cases hn:n∈l
  ·have h1:=ri (n:=n) (l:=l.erase n) (h.erase n) fun j hj=>by
    have hjl:=List.mem_of_mem_erase hj;have h2:=hl j hjl;have:j≠n:=fun e=>by subst e;exact(List.Nodup.not_mem_erase h) hj
    omega
   rw[List.length_erase_of_mem hn]at h1;omega
  have:=ri (n:=n) (l:=l) h fun j hj=>by
   have h2:=hl j hj;have:j≠n:=fun e=>by subst e;exact hn hj
   omega
  omega
theorem LR{es:cX}(y:NQ es)(h:∀j,j<es.length->j∈y.js):y.m.Perm (fF es):=by
 have h1:y.js.Perm (List.range es.length):=(List.perm_ext_iff_of_nodup y.nd List.nodup_range).2 fun j=>⟨fun q=>List.mem_range.2 (y.lt j q),fun q=>h j (List.mem_range.1 q)⟩
 rw[y.hm];have h2:=h1.map fun j=>(es[j]?.map (·.1)).getD (eI [])
 have h3:((List.range es.length).map fun j=>(es[j]?.map (·.1)).getD (eI []))=fF es:=by
  unfold fF;apply aao;intro j;by_cases hj:j<es.length
  ·simp[hj]
  rw[aae (by simp;omega),aae (by simp;omega)]
 rw[h3]at h2;exact h2
theorem oC{P:Program}{k:Nat}{fr:XF}{W:XW}{L:List (Nat×Option bb)}{n' nl:Nat}{lg:List Nat}{ds:List dz}(hn:W.next<=n')(h:∀m o,lk L m=some o->W.get m=some o):db P k ⟨fr,W,ds⟩ ⟨fr,wd L n' lg nl,ds⟩:=
 j7 (fun t v e=>e) (fun m o e=>h m o (dV e).2) hn rfl
def pz:Value:=.func (.func 90) #[] #[.pointer (some ⟨2,0,none⟩)]
def eX:bb:=.cells [.map (some 1)] 65 (0,0)
def fD(es:cX):bb:=.map (gl dO es) es.length
def mI:bb:=.cells [.map (some 1)] 63 (0,0)
def mo(m:List HB):bb:=.cells (dg m) 24 (0,0)
def GT(m:List HB):bb:=.cells [.slice (some ⟨7,0,none⟩) m.length aM] 48 (0,0)
set_option maxHeartbeats 2000000 in
theorem M5(es:cX)(hn:es.length<=1000000)(hne:es≠[]):aN Tryz.prog 112 [.slice none 0 0,pz] (wd [(0,some eX),(1,some (fD es)),(2,some mI)] 3 [] 0)
 fun e W'=>∃m:List HB,m.Perm (fF es)/\m.length=es.length/\e=.ret (.slice (some ⟨7,0,none⟩) m.length aM)/\W'.get 0=some eX/\W'.get 1=some (fD es)/\W'.get 7=some (mo m)/\W'.next<=20:=by
 refine be av Tryz.func112 rfl (Nat.le_of_ble_eq_true rfl) ?_;simp only[aY.eq_1,aY.eq_2,bf,Tryz.ntmps112,reduceAdd];refine ae (ac (e:=?e1) (s':=?s1) av ?h1 ?q1)
 case h1=>simp(disch:=decide) only[go_sem];all_goals rfl
 refine ae ?_;refine ae (ac (e:=?e2) (s':=?s2) av ?h2 ?q2)
 case h2=>simp(disch:=decide) only[go_sem];all_goals rfl
 refine aD ?_;refine aU (s':=⟨aI [(2,some (.pointer (some ⟨3,0,none⟩))),(6,some pz)],wd [(0,some eX),(1,some (fD es)),(2,some mI),(3,some (.cells [.slice none 0 0] 48 (0,0)))] 4 [] 0,[]⟩) (ak (by simp(disch:=decide) [ai,ab,aa,ag]) (by simp(disch:=decide) [ai,ab,aa,ag]) (by decide)) ?_;refine sN (g:=90) (xs:=#[]) (cap:=#[.pointer (some ⟨2,0,none⟩)]) (S:=fun e W2=>∃m:List HB,m.Perm (fF es)/\m.length=es.length/\(∃v,e=.ret v)/\W2.get 0=some eX/\W2.get 1=some (fD es)/\W2.get 3=some (GT m)/\W2.get 4=some (.defd false)/\W2.get 7=some (mo m)/\8<=W2.next/\W2.next<=20/\∃st tm N2 ps2 asg2 body2 d2,W2.get 5=some (.loop st none tm N2 ps2 asg2 body2 d2)/\nj st=false) ?hv (enters_of (by kernel_rfl)) ?hl ?q
 case hv=>simp(disch:=decide) only[pz,go_sem]
 case q=>
  intro e W2 ⟨m,h1,h2,⟨v,h3⟩,h4,h5,h6,h7,h8,h9,h10,st,tm,N2,ps2,asg2,body2,d2,h11,h12⟩;refine⟨v,st,tm,N2,ps2,asg2,body2,d2,h3,by simp only[bf];omega,h11,h12,?_⟩;simp only[bf,reduceAdd];show bA _ _ _ _ _ _;refine aU (s':=⟨aI [(2,some (.pointer (some ⟨3,0,none⟩)))],wd [(0,some eX),(1,some (fD es)),(3,some (GT m)),(4,some (.defd false)),(7,some (mo m))] 20 [] 0,[.mark 4]⟩) ?_ ?_
  ·refine j7 (fun t v e=>?_) (fun n o e=>?_) h10 rfl
   ·have h:=gS e;show(aI _).get t=some v;by_cases ht:2=t
    ·subst ht;rw[ab]at h;rw[iZ (by decide),ab];exact h
    rw[aa ht]at h;cases h
   obtain⟨g1,g2⟩:=dV e;have hn5:n≠5:=fun q=>by subst q;simp(disch:=decide) [ab,aa,ag]at g2
   show(W2.put 5 _).get n=some o;rw[XW.get_put_ne hn5];have hcases:=bX g2;simp only[ZU,ZS,or_false,Prod.mk.injEq,Option.some.injEq]at hcases;rcases hcases with⟨rfl,rfl⟩|⟨rfl,rfl⟩|⟨rfl,rfl⟩|⟨rfl,rfl⟩|⟨rfl,rfl⟩<;>assumption
  refine ae (ac (e:=?e3) (s':=?s3) av ?h3 ?q3)
  case h3=>simp(disch:=decide) only[GT,go_sem];all_goals rfl
  refine bh ?_;refine⟨_,?e4,?W4,rfl,?h4,?q4⟩
  case h4=>simp(disch:=decide) only[Tryz.results112,go_sem];all_goals rfl
  refine⟨m,h1,h2,rfl,?_,?_,?_,?_⟩
  ·simp(disch:=decide) only[go_sem]
  ·simp(disch:=decide) only[go_sem]
  ·simp(disch:=decide) only[go_sem]
  exact Nat.le_refl _
 simp only[bf,gR,List.nil_append,List.cons_append,reduceAdd];generalize hLP:bb.loop LoopState.ready none _ 13 [7] _ _ 4=LP;have hex:∃st tm N2 ps2 asg2 body2 d2,LP=.loop st none tm N2 ps2 asg2 body2 d2/\nj st=false:=⟨_,_,_,_,_,_,_,hLP.symm,rfl⟩;have hto:∀θ:Nat->Option Nat,θ 2=some 2->θ 3=some 3->θ 4=some 4->TO Tryz.prog (cM θ) LP LP:=fun θ h2 h3 h4=>by
  rw[<-hLP];exact FB h4 (af (by decide) rfl (ay h3) (af (by decide) rfl (lJ (xs:=[]) (xs':=[]) (cs:=[.pointer (some ⟨2,0,none⟩)]) (cs':=[.pointer (some ⟨2,0,none⟩)]) aX (ax (ay h2) aX)) aR))
 have hpos:0<es.length:=List.length_pos_iff.2 hne;refine be av Tryz.func90 rfl (Nat.le_of_ble_eq_true rfl) ?_;simp only[aY.eq_1,aY.eq_2,bf,Tryz.ntmps90,reduceAdd];refine ae (ac (e:=?e5) (s':=?s5) av ?h5 ?q5)
 case h5=>simp(disch:=decide) only[mI,fD,ua.eq_1,vZ.eq_1,go_sem];all_goals rfl
 refine aD ?_;refine aU (s':=⟨aI [(0,some (.func (.yield 5) #[] #[])),(5,some (.pointer (some ⟨6,0,none⟩)))],wd [(0,some eX),(1,some (fD es)),(2,some mI),(3,some (.cells [cA 7 0] 48 (0,0))),(4,some (.defd false)),(5,some LP),(6,some (.iter 1 es.length [] es.length)),(7,bN 24 (dg []) 0)] 8 [] 0,[]⟩) (ak (by simp(disch:=decide) [ai,ab,aa,ag]) (by simp(disch:=decide) [ai,ab,aa,ag,cA,bN,mI,fD]) (by decide)) ?_;refine bw (α:=NQ es) (fun y=>⟨aI [(0,some (.func (.yield 5) #[] #[])),(5,some (.pointer (some ⟨6,0,none⟩)))],wd [(0,some eX),(1,some (fD es)),(2,some mI),(3,some (.cells [cA 7 y.m.length] 48 (0,0))),(4,some (.defd false)),(5,some LP),(6,some (.iter 1 es.length y.js es.length)),(7,bN 24 (dg y.m) y.m.length)] 8 [] 0,[]⟩) (fun y=>es.length-y.js.length) ?_ ⟨[],[],aa2,fun _ h=>(by cases h),rfl⟩;intro y;obtain⟨js,m,hnd,hlt,hm⟩:=y;simp only;have hml:m.length=js.length:=by rw[hm,aaq]
 have hjl:js.length<=es.length:=ri hnd hlt;refine ae (cI ?_);refine zM (x:=.tmp 5) (r:=6) (mp:=1) (since:=es.length) (last:=es.length) (c:=es.length) (seen:=js) (es:=gl dO es) rfl rfl ?hx ?hr ?hm2 ?hc ?hold ?z ?nz
 case hx=>simp(disch:=decide) only[go_sem]
 case hr=>simp(disch:=decide) only[go_sem]
 case hm2=>simp(disch:=decide) only[fD,go_sem]
 case hc=>
  rcases es with _|⟨x,l⟩
  ·exact absurd rfl hne
  have:((gl dO (x::l)).all fun e=>Nat.ble (x::l).length e.born)=false:=by show(Nat.ble (x::l).length 0&&_)=false;rw[Ob (by rw[List.length_cons];omega)];rfl
  rw[this,Bool.and_false]
 case hold=>intro e he;obtain⟨j,hj,rfl⟩:=vV (List.mem_filter.1 he).1;show 0+j<es.length;omega
 case z=>
  intro hz;refine⟨_,dQ (by decide),aP av 1 (s1:=?s1z) ?hz1 (cY ?qz)⟩
  case hz1=>simp(disch:=decide) only[go_sem];all_goals rfl
  show bA _ _ _ _ _ _;refine ae (aO ?h6 ?q6)
  case h6=>simp(disch:=decide) only[go_sem];all_goals rfl
  refine bp ?_;have hall:∀j,j<es.length->j∈js:=fun j hj=>by
   by_cases hjs:j∈js
   ·exact hjs
   exfalso;have hmem:(⟨eG es[j].1,dO es[j].2,0+j⟩:MapEntry)∈gl dO es:=List.mem_of_find?_eq_some (tM (enc:=dO) (i:=0) hj);have:(⟨eG es[j].1,dO es[j].2,0+j⟩:MapEntry)∈(gl dO es).filter (ib js):=List.mem_filter.2 ⟨hmem,by
    show(!(js.any fun n=>Nat.beq n (0+j)))=true;rw[Nat.zero_add,aaE,aa8];intro n hn2 hb;exact hjs (by rw[<-ZT hb];exact hn2)⟩
   rw[hz]at this;cases this
  have hpm:m.Perm (fF es):=LR ⟨js,m,hnd,hlt,hm⟩ hall;have hme:m.length=es.length:=by rw[hpm.length_eq];unfold fF;rw[aaq]
  obtain⟨q,hmq⟩:∃q,m.length=q+1:=⟨m.length-1,by omega⟩;have hg1:cA 7 m.length=.slice (some ⟨7,0,none⟩) m.length aM:=by rw[hmq];rfl
  have hg2:bN 24 (dg m) m.length=some (mo m):=by rw[hmq];rfl
  rw[hg1,hg2];refine⟨_,?e7,?W7,rfl,?h7,?q7⟩
  case h7=>simp(disch:=decide) only[Tryz.results90,go_sem];all_goals rfl
  obtain⟨st,tm,N2,ps2,asg2,body2,d2,hx1,hx2⟩:=hex;refine⟨m,hpm,hme,⟨_,rfl⟩,?_,?_,?_,?_,?_,?_,?_,st,tm,N2,ps2,asg2,body2,d2,?_,hx2⟩
  ·simp(disch:=decide) only[go_sem]
  ·simp(disch:=decide) only[go_sem]
  ·simp(disch:=decide) only[GT,go_sem]
  ·simp(disch:=decide) only[go_sem]
  ·simp(disch:=decide) only[go_sem]
  ·exact Nat.le_refl _
  ·show 8<=20;decide
  rw[<-hx1];simp(disch:=decide) only[go_sem]
 intro e he;obtain⟨hmem,hnot⟩:=List.mem_filter.1 he;obtain⟨j,hj,rfl⟩:=vV hmem;have hjn:j∉js:=fun hjs=>by
  have hnot:(!(js.any fun n=>Nat.beq n (0+j)))=true:=hnot;rw[Nat.zero_add,aaE,aa8]at hnot;exact hnot j hjs (ZY j)
 have hfind:(gl dO es).find? (fun e=>Nat.beq e.born j)=some ⟨.agg (aF es[j].1.1).toArray,.string (str es[j].2),j⟩:=by have:=tM (enc:=dO) (i:=0) hj;rw[Nat.zero_add]at this;exact this
 have hm1:m++[es[j].1]=(js++[j]).map fun j=>(es[j]?.map (·.1)).getD (eI []):=by rw[hm,aaI];simp[hj]
 obtain⟨x,hx⟩:∃x,x=es[j]:=⟨_,rfl⟩;rw[<-hx]at hfind hm1 ⊢;have hxl:=x.1.2;have hbl:(aF x.1.1).length=32:=by rw[bK,hxl]
 have hnd1:(js++[j]).Nodup:=List.nodup_append.2 ⟨hnd,List.nodup_cons.2 ⟨by simp,aa2⟩,fun a ha b hb=>by
  simp only[ZU,ZS,or_false]at hb;subst hb;exact fun e=>hjn (by rw[<-e];exact ha)⟩
 have hlt1:∀i∈js++[j],i<es.length:=fun i hi=>by
  rcases List.mem_append.1 hi with h|h
  ·exact hlt i h
  simp only[ZU,ZS,or_false]at h;subst h;exact hj
 have hgl:(js++[j]).getLast?=some j:=by simp
 have hjl1:(js++[j]).length<=es.length:=ri hnd1 hlt1;rw[ZM]at hjl1;simp only[Nat.zero_add];refine⟨_,dQ (by decide),aP av 1 (s1:=?s1n) ?hz2 (cY ?qn)⟩
 case hz2=>simp(disch:=decide) only[go_sem];all_goals rfl
 show bA _ _ _ _ _ _;refine ae (aZ ?h8 ?q8)
 case h8=>simp(disch:=decide) only[go_sem];all_goals rfl
 refine aH ?_;refine aD ?_;obtain⟨js1,hjs1⟩:∃js1,js1=js++[j]:=⟨_,rfl⟩;rw[<-hjs1]at hgl hnd1 hlt1 hm1 ⊢;refine ae (ac av (by simp(disch:=first|decide|omega) only[t6.eq_1,wA.eq_1,v8.eq_1,yb.eq_1,fD,hgl,hfind,ZY,hbl,Z5,go_sem]<;>with_reducible rfl) ?_);have hemp:(#[]:Array Value).isEmpty=true:=rfl;refine Ge ⟨aI [(0,some (.func (.yield 5) #[] #[])),(5,some (.pointer (some ⟨6,0,none⟩))),(13,some (.bool false))],wd [(0,some eX),(1,some (fD es)),(2,some mI),(3,some (.cells [.slice (some ⟨11,0,none⟩) (m.length+1) aM] 48 (0,0))),(4,some (.defd false)),(5,some LP),(6,some (.iter 1 es.length js1 es.length)),(11,some (mo (m++[x.1])))] 12 [] 0,[]⟩ ?zh3 ?zq3
 case zh3=>
  rcases m with _|⟨a,m'⟩
  ·have hr1:dg [x.1]=aF x.1.1:=Kb.symm;refine mT (e:=?er) (s':=?sr) av 4 ?hr3 ?qr3
   case hr3=>simp(disch:=first|decide|omega) only[<-hLP,rC,mn,qj,pX,p9,pP,pQ,oQ,lM,um,oV,hemp,hbl,cA.eq_1,bN.eq_1,List.length_nil,Z5,ZW,Z6,FC,ZV,ZR,ZY,aad,aab,Ak,oX,rF,qP,Z9,u6,zb,go_sem]<;>with_reducible rfl
   refine⟨rfl,ak (by simp(disch:=decide) [ai,ab,aa,ag]) (by simp(disch:=decide) [ai,ab,aa,ag,<-hLP,fD,mo,hr1];try rfl) (by decide)⟩
  obtain⟨m,hmm⟩:∃m,m=a::m':=⟨_,rfl⟩;have hg1:cA 7 (a::m').length=.slice (some ⟨7,0,none⟩) m.length aM:=by rw[hmm];rfl
  have hg2:bN 24 (dg (a::m')) (a::m').length=some (.cells (dg m) 24 (0,0)):=by rw[hmm];rfl
  rw[hg1,hg2,<-hmm];rw[<-hmm]at hml;have hrl:=fe m;have hrt:(dg m).take (m.length*32)=dg m:=List.take_of_length_le (by rw[hrl];exact Nat.le_refl _);have hro:(dg m++aF x.1.1)=dg (m++[x.1]):=GR;refine mT (e:=?eq) (s':=?sq) av 4 ?hq3 ?qq3
  case hq3=>simp(disch:=first|decide|omega) only[<-hLP,rC,mn,qj,pX,p9,pP,pQ,oQ,lM,um,oV,hemp,hbl,hrl,hrt,hro,Z5,ZW,Z6,FC,ZV,ZR,ZY,aad,aab,Ak,oX,rF,qP,Z9,u6,zb,go_sem]<;>with_reducible rfl
  refine⟨rfl,ak (by simp(disch:=decide) [ai,ab,aa,ag]) (by simp(disch:=decide) [ai,ab,aa,ag,<-hLP,fD,mo];try rfl) (by decide)⟩
 refine aO ?h10 ?q10
 case h10=>simp(disch:=decide) only[go_sem];all_goals rfl
 refine aH ?_;refine⟨⟨js1,m++[x.1],hnd1,hlt1,hm1⟩,?_,?_⟩
 ·show es.length-js1.length<es.length-js.length;rw[hjs1,ZM];simp only[List.length_cons,List.length_nil]at hjl1 ⊢;omega
 simp only[ZM,List.length_cons,List.length_nil,Nat.zero_add,cA.eq_2,bN.eq_2];exact aV [(0,some 0),(1,some 1),(2,some 2),(3,some 3),(4,some 4),(5,some 5),(6,some 6),(11,some 7)] [(0,some 0),(1,some 1),(2,some 2),(3,some 3),(4,some 4),(5,some 5),(6,some 6),(7,some 11)] (by decide) (by decide) (by decide)
  (af (by decide) rfl (CN rfl) (af (by decide) rfl (ay rfl) aR))
  (aj 0 rfl (by decide) (by decide) rfl (bJ (ax (cq rfl) aX))
  (aj 1 rfl (by decide) (by decide) rfl (aq ah (z8 tA _ _))
  (aj 2 rfl (by decide) (by decide) rfl (bJ (ax (cq rfl) aX))
  (aj 3 rfl (by decide) (by decide) rfl (bJ (ax (bI rfl) aX))
  (aj 4 rfl (by decide) (by decide) rfl Ey
  (aj 5 rfl (by decide) (by decide) rfl (hto _ rfl rfl rfl)
  (aj 6 rfl (by decide) (by decide) rfl (kK rfl)
  (aj 11 rfl (by decide) (by decide) rfl (aq ah (bc (vu _))) bj)))))))) .nil
theorem Iq(es:cX):aN Tryz.prog 50 [.map (some 1)] (wd [(0,some eX),(1,some (fD es))] 2 [] 0)
 fun e W'=>e=.ret pz/\W'.get 0=some eX/\W'.get 1=some (fD es)/\W'.get 2=some mI/\W'.next<=3:=by
 refine be av Tryz.func50 rfl (Nat.le_of_ble_eq_true rfl) ?_;simp only[aY.eq_1,aY.eq_2,bf,Tryz.ntmps50,reduceAdd];refine ae (ac (e:=?e1) (s':=?s1) av ?h1 ?q1)
 case h1=>simp(disch:=decide) only[go_sem];all_goals rfl
 refine ae (ac (e:=?e2) (s':=?s2) av ?h2 ?q2)
 case h2=>simp(disch:=decide) only[go_sem];all_goals rfl
 refine bh ?_;refine⟨_,?e3,?W3,rfl,?zh3,?zq3⟩
 case zh3=>simp(disch:=decide) only[Tryz.results50,go_sem];all_goals rfl
 refine⟨rfl,?_,?_,?_,?_⟩
 ·simp(disch:=decide) only[go_sem]
 ·simp(disch:=decide) only[go_sem]
 ·simp(disch:=decide) only[mI,go_sem]
 exact Nat.le_refl _
def Mu(es:cX)(e:cz)(W':XW):Prop:=∃m:List HB,m.Perm (fF es)/\m.length=es.length/\e=.ret (.slice (some ⟨7,0,none⟩) m.length aM)/\W'.get 0=some eX/\W'.get 1=some (fD es)/\W'.get 7=some (mo m)/\W'.next<=20
theorem CF(es:cX)(hn:es.length<=1000000)(hne:es≠[]):aN Tryz.prog 88 [pz] (wd [(0,some eX),(1,some (fD es)),(2,some mI)] 3 [] 0) (Mu es):=by
 refine be av Tryz.func88 rfl (Nat.le_of_ble_eq_true rfl) ?_;simp only[aY.eq_1,aY.eq_2,bf,Tryz.ntmps88,reduceAdd];refine ae (ac (e:=?e4) (s':=?s4) av ?h4 ?q4)
 case h4=>simp(disch:=decide) only[go_sem];all_goals rfl
 refine ae (cI ?_);refine aP av 1 (s1:=?s1) ?h1 (fT (f:=112) (args:=[.slice none 0 0,pz]) (S:=Mu es) (enters_of (by kernel_rfl)) rfl ?hx ?hl ?q)
 case h1=>simp(disch:=decide) only[go_sem];all_goals rfl
 case hx=>simp(disch:=decide) only[pz,go_sem]
 case hl=>exact M5 es hn hne
 intro e W' ⟨m,h1,h2,h3,h4,h5,h6,h7⟩;refine⟨_,_,h3,dQ (by decide),?_⟩;refine ec (oC (L:=[(0,some eX),(1,some (fD es)),(7,some (mo m))]) (n':=20) (lg:=[]) (nl:=0) h7 fun n o e=>?_) ?_
 ·have hcases:=bX e;simp only[ZU,ZS,or_false,Prod.mk.injEq,Option.some.injEq]at hcases;rcases hcases with⟨rfl,rfl⟩|⟨rfl,rfl⟩|⟨rfl,rfl⟩<;>assumption
 refine aP av 1 (s1:=?s2) ?h2 (cY ?q2)
 case h2=>simp(disch:=decide) only[go_sem];all_goals rfl
 refine bh ?_;refine⟨_,?e5,?W5,rfl,?h5,?q5⟩
 case h5=>simp(disch:=decide) only[Tryz.results88,go_sem];all_goals rfl
 refine⟨m,h1,h2,rfl,?_,?_,?_,?_⟩
 ·simp(disch:=decide) only[go_sem]
 ·simp(disch:=decide) only[go_sem]
 ·simp(disch:=decide) only[go_sem]
 exact Nat.le_refl _
end Go.Proofs.YthlkgmdkabelpaaGreat.X
namespace Go.Proofs
open Go.Shelf
def Tryz.lays106_ren:Go.Shelf.Ren:=⟨fun|106=>52|213=>91|265=>114|n=>n,fun|9=>9|3=>3|n=>n,fun|n=>n⟩
theorem Tryz.lays106:Go.Proofs.Lays.n106 Tryz.prog Tryz.lays106_ren:={
 mixed:=by kernel_rfl
 f106:=Tryz.func52.trans (congrArg some (by kernel_rfl))
 f213:=Tryz.func91.trans (congrArg some (by kernel_rfl))
 f265:=Tryz.func114.trans (congrArg some (by kernel_rfl))
 t3:=Tryz.underlying3
 a3:=Tryz.isAgg3
 z3:=Tryz.sizeOf3
 v3:=Tryz.zeroValue3
 t9:=Tryz.underlying9
 a9:=Tryz.isAgg9
 z9:=Tryz.sizeOf9
 v9:=Tryz.zeroValue9 }
def Tryz.sortHash_ren:Go.Shelf.Ren:=⟨fun|6=>89|15=>109|14=>113|28=>129|29=>130|20=>131|21=>132|22=>133|23=>134|24=>135|25=>136|26=>137|27=>138|46=>148|47=>144|48=>145|49=>149|50=>150|57=>154|n=>n,fun|22=>48|24=>24|25=>116|3=>3|39=>123|0=>0|53=>117|55=>121|4=>4|46=>201|45=>200|50=>132|5=>5|9=>9|66=>218|70=>222|76=>226|77=>227|n=>n,fun|n=>n⟩
theorem Tryz.sortHash:Go.Proofs.SlLaysF0.n6 Tryz.prog Tryz.sortHash_ren:={
 mixed:=by kernel_rfl
 f6:=⟨Tryz.f89.name,by decide,Tryz.func89.trans (congrArg some (by kernel_rfl))⟩
 f14:=⟨Tryz.f113.name,by decide,Tryz.func113.trans (congrArg some (by kernel_rfl))⟩
 f15:=Tryz.func109.trans (congrArg some (by kernel_rfl))
 f20:=⟨Tryz.f131.name,by decide,Tryz.func131.trans (congrArg some (by kernel_rfl))⟩
 f21:=⟨Tryz.f132.name,by decide,Tryz.func132.trans (congrArg some (by kernel_rfl))⟩
 f22:=⟨Tryz.f133.name,by decide,Tryz.func133.trans (congrArg some (by kernel_rfl))⟩
 f23:=⟨Tryz.f134.name,by decide,Tryz.func134.trans (congrArg some (by kernel_rfl))⟩
 f24:=⟨Tryz.f135.name,by decide,Tryz.func135.trans (congrArg some (by kernel_rfl))⟩
 f25:=⟨Tryz.f136.name,by decide,Tryz.func136.trans (congrArg some (by kernel_rfl))⟩
 f26:=⟨Tryz.f137.name,by decide,Tryz.func137.trans (congrArg some (by kernel_rfl))⟩
 f27:=⟨Tryz.f138.name,by decide,Tryz.func138.trans (congrArg some (by kernel_rfl))⟩
 f28:=Tryz.func129.trans (congrArg some (by kernel_rfl))
 f29:=Tryz.func130.trans (congrArg some (by kernel_rfl))
 f46:=⟨Tryz.f148.name,by decide,Tryz.func148.trans (congrArg some (by kernel_rfl))⟩
 f47:=Tryz.func144.trans (congrArg some (by kernel_rfl))
 f48:=Tryz.func145.trans (congrArg some (by kernel_rfl))
 f49:=⟨Tryz.f149.name,by decide,Tryz.func149.trans (congrArg some (by kernel_rfl))⟩
 f50:=⟨Tryz.f150.name,by decide,Tryz.func150.trans (congrArg some (by kernel_rfl))⟩
 f57:=⟨Tryz.f154.name,by decide,Tryz.func154.trans (congrArg some (by kernel_rfl))⟩
 t0:=Tryz.underlying0
 a0:=Tryz.isAgg0
 z0:=Tryz.sizeOf0
 v0:=Tryz.zeroValue0
 t3:=Tryz.underlying3
 a3:=Tryz.isAgg3
 z3:=Tryz.sizeOf3
 v3:=Tryz.zeroValue3
 t4:=Tryz.underlying4
 a4:=Tryz.isAgg4
 z4:=Tryz.sizeOf4
 v4:=Tryz.zeroValue4
 t5:=Tryz.underlying5
 a5:=Tryz.isAgg5
 z5:=Tryz.sizeOf5
 v5:=Tryz.zeroValue5
 t9:=Tryz.underlying9
 a9:=Tryz.isAgg9
 z9:=Tryz.sizeOf9
 v9:=Tryz.zeroValue9
 t22:=Tryz.underlying48
 a22:=Tryz.isAgg48
 z22:=Tryz.sizeOf48
 v22:=Tryz.zeroValue48
 t25:=Tryz.underlying116
 a25:=Tryz.isAgg116
 z25:=Tryz.sizeOf116
 v25:=Tryz.zeroValue116
 t39:=Tryz.underlying123
 a39:=Tryz.isAgg123
 z39:=Tryz.sizeOf123
 v39:=Tryz.zeroValue123
 t45:=Tryz.underlying200
 a45:=Tryz.isAgg200
 z45:=Tryz.sizeOf200
 v45:=Tryz.zeroValue200
 t46:=Tryz.underlying201
 a46:=Tryz.isAgg201
 z46:=Tryz.sizeOf201
 v46:=Tryz.zeroValue201
 t50:=Tryz.underlying132
 a50:=Tryz.isAgg132
 z50:=Tryz.sizeOf132
 v50:=Tryz.zeroValue132
 t53:=Tryz.underlying117
 a53:=Tryz.isAgg117
 z53:=Tryz.sizeOf117
 v53:=Tryz.zeroValue117
 t55:=Tryz.underlying121
 a55:=Tryz.isAgg121
 z55:=Tryz.sizeOf121
 v55:=Tryz.zeroValue121
 t66:=Tryz.underlying218
 a66:=Tryz.isAgg218
 z66:=Tryz.sizeOf218
 v66:=Tryz.zeroValue218
 t70:=Tryz.underlying222
 a70:=Tryz.isAgg222
 z70:=Tryz.sizeOf222
 v70:=Tryz.zeroValue222
 t76:=Tryz.underlying226
 a76:=Tryz.isAgg226
 z76:=Tryz.sizeOf226
 v76:=Tryz.zeroValue226
 t77:=Tryz.underlying227
 a77:=Tryz.isAgg227
 z77:=Tryz.sizeOf227
 v77:=Tryz.zeroValue227 }
end Go.Proofs
namespace Go.Proofs.YthlkgmdkabelpaaGreat.X
open Go Go.RowKit Go.Shelf Go.Sort Go.Lib
def zV(x y:HB):Int:=Lib.compareBytes x.1 y.1
set_option maxRecDepth 100000 in
set_option maxHeartbeats 1000000 in
theorem Hp(x y:HB)(W:World):Calls Tryz.prog 51 #[.agg (aF x.1).toArray,.agg (aF y.1).toArray] W fun e w'=>e=.returned (.int .i64 (zV x y))/\∃q os',w'=Sort.grow (W.drewN q) os':=by
 have hS:∀W',Calls Tryz.prog 52 #[.string (str x.1),.string (str y.1)] W' fun e w'=>e=.returned (.int .i64 (zV x y))/\w'=W':=fun W'=>Any.strings_Compare Tryz.lays106 (str x.1) (str y.1) W'
 have z1:((W.alloc (Obj.cells (aF x.1).toArray 24)).alloc (Obj.cells (aF y.1).toArray 24)).heap[W.heap.size]?=some (.cells (aF x.1).toArray 24 (0,0)):=gd;have z2:((W.alloc (Obj.cells (aF x.1).toArray 24)).alloc (Obj.cells (aF y.1).toArray 24)).heap[W.heap.size+1]?=some (.cells (aF y.1).toArray 24 (0,0)):=fA;obtain⟨w1,hw1⟩:∃w1,w1=(W.alloc (Obj.cells (aF x.1).toArray 24)).alloc (Obj.cells (aF y.1).toArray 24):=⟨_,rfl⟩;rw[<-hw1]at z1 z2;have hg:∀q os,∃os',Sort.grow (w1.drewN q) os=Sort.grow (W.drewN q) os':=fun q os=>⟨_,by rw[hw1,alloc_eq_grow,alloc_eq_grow,Sort.grow_grow];show Sort.grow (Sort.grow (W.drewN q) _) os=_;rw[Sort.grow_grow]⟩
 have cvt:∀(b:Nat) (h:HB),w1.heap[b]?=some (.cells (aF h.1).toArray 24 (0,0))->∀n os,(convert 80 9 (.slice (some ⟨b,0,none⟩) 32 32)).run Tryz.prog (Sort.grow (w1.drewN n) os)=.ok (.string (str h.1)) (Sort.grow (w1.drewN n) os):=by intro b h hb n os;refine nB _ 80 9 5 _ 32 32 h.1 Tryz.underlying80 Tryz.underlying5 Tryz.underlying9 h.2.symm (fun _=>⟨_,rfl,fun j hj=>?_⟩);rw[dc,Nat.zero_add];have hlt:b<w1.heap.size:=(Array.getElem?_eq_some_iff.1 hb).1;rw[cell?_grow _ _ _ (by exact hlt)];show w1.cell? _=_;rw[cB hb,<-aar];simp[aF,hj]
 have c1:=cvt _ _ z1;have c2:=cvt _ _ z2;obtain⟨r,hr⟩:∃r,r=zV x y:=⟨_,rfl⟩;rw[<-hr]at hS ⊢;obtain⟨sx,hsx⟩:∃s,s=str x.1:=⟨_,rfl⟩;obtain⟨sy,hsy⟩:∃s,s=str y.1:=⟨_,rfl⟩;rw[<-hsx]at hS c1;rw[<-hsy]at hS c2;obtain⟨RA,hRA⟩:∃R,R=aF x.1:=⟨_,rfl⟩;obtain⟨RB,hRB⟩:∃R,R=aF y.1:=⟨_,rfl⟩;rw[<-hRA,<-hRB]at hw1;rw[<-hRA,<-hRB];have HW1:=Lib.hid hw1;have HG:=Lib.hid hg;have hund:=Tryz.underlying24;clear hw1 z1 z2 hg cvt hr hsx hsy hRA hRB
 go_enter Tryz.func51,Tryz.ntmps51
 go_wp2_with fail
 rw[<-HW1.out];have hmx:=mixed
 go_quiet_grown ((go_at_call 52;exact Calls.grown_of ((hS _).mono fun _ _ h=>⟨h.1,0,#[],by rw[h.2,Sort.grow_empty];rfl⟩)))
 go_wp2_with fail
 go_ret
 obtain⟨os',ho⟩:=HG.out nq osq;exact⟨rfl,nq,os',ho⟩
instance:Inhabited HB:=⟨⟨List.replicate 32 0,rfl⟩⟩
theorem Dv:∀{a b:List UInt8},a.length=b.length->(Lib.compareBytes a b<0↔gA a b=true)
 |[],[],_=>by simp[Lib.compareBytes,gA]
 |[],_::_,h=>by simp at h
 |_::_,[],h=>by simp at h
 |x::l,y::m,h=>by
  have ih:=Dv (a:=l) (b:=m) (by simpa using h);unfold Lib.compareBytes gA;by_cases h1:x.toNat<y.toNat
  ·rw[if_pos (show x<y from h1),if_pos h1];simp
  rw[if_neg (show ¬x<y from h1),if_neg h1];by_cases h2:y.toNat<x.toNat
  ·rw[if_pos (show y<x from h2),if_pos h2];simp
  rw[if_neg (show ¬y<x from h2),if_neg h2];exact ih
theorem OH(x y:HB):ltOf zV x y=iR x y:=by
 unfold ltOf zV iR;have:=Dv (a:=x.1) (b:=y.1) (by rw[x.2,y.2]);cases h:gA x.1 y.1<;>simp[h]at this ⊢<;>exact this
theorem wM:∀l:List UInt8,gA l l=false
 |[]=>rfl
 |x::l=>by rw[L8 _ _ _ _ rfl];exact wM l
theorem pU:∀{a b c:List UInt8},gA a b=true->gA b c=true->gA a c=true
 |[],_,_,h,_=>by simp[gA]at h
 |_::_,[],_,h,_=>by simp[gA]at h
 |_::_,_::_,[],_,h=>by simp[gA]at h
 |x::l,y::m,z::n,h1,h2=>by
  unfold gA at h1 h2 ⊢;by_cases a1:x.toNat<y.toNat
  ·by_cases b1:y.toNat<z.toNat
   ·rw[if_pos (by omega)]
   rw[if_neg b1]at h2;by_cases b2:z.toNat<y.toNat
   ·rw[if_pos b2]at h2;cases h2
   rw[if_pos (by omega)]
  rw[if_neg a1]at h1;by_cases a2:y.toNat<x.toNat
  ·rw[if_pos a2]at h1;cases h1
  rw[if_neg a2]at h1;by_cases b1:y.toNat<z.toNat
  ·rw[if_pos (by omega)]
  rw[if_neg b1]at h2;by_cases b2:z.toNat<y.toNat
  ·rw[if_pos b2]at h2;cases h2
  rw[if_neg b2]at h2;rw[if_neg (by omega),if_neg (by omega)];exact pU h1 h2
theorem vr:∀{a b:List UInt8},a.length=b.length->gA a b=false->gA b a=false->a=b
 |[],[],_,_,_=>rfl
 |[],_::_,h,_,_=>by simp at h
 |_::_,[],h,_,_=>by simp at h
 |x::l,y::m,h,h1,h2=>by
  unfold gA at h1 h2;by_cases a1:x.toNat<y.toNat
  ·rw[if_pos a1]at h1;cases h1
  by_cases a2:y.toNat<x.toNat
  ·rw[if_pos a2]at h2;cases h2
  rw[if_neg a1,if_neg a2]at h1;rw[if_neg a2,if_neg a1]at h2;rw[vr (by simpa using h) h1 h2,show x=y from UInt8.toNat_inj.1 (by omega)]
theorem qb{x y:HB}(h1:iR x y=false)(h2:iR y x=false):x=y:=Subtype.ext (vr (by rw[x.2,y.2]) h1 h2)
theorem pb:SWO iR where
 irrefl x:=wM x.1
 trans x y z h1 h2:=pU h1 h2
 ntrans x y z h1 h2:=by
  cases h:iR x z with
  |false=>rfl
  |true=>
   cases h3:iR y x with
   |true=>rw[show iR y z=true from pU h3 h]at h2;cases h2
   |false=>rw[qb h1 h3]at h;rw[h]at h2;cases h2
theorem Bb:ltOf zV=iR:=funext fun x=>funext fun y=>OH x y
theorem Rc:SWO (ltOf zV):=by rw[Bb];exact pb
def dY(m:List HB):List HB:=m.mergeSort fun x y=>!(iR y x)
theorem sH(m:List HB):(dY m).Perm m:=List.mergeSort_perm _ _
theorem oS(m:List HB):(dY m).length=m.length:=(sH m).length_eq
theorem tu(m:List HB):(dY m).Pairwise fun x y=>(!(iR y x))=true:=
 List.pairwise_mergeSort (le:=fun x y=>!(iR y x)) (fun a b c h1 h2=>by
  simp only[aaE]at h1 h2 ⊢;exact pb.ntrans _ _ _ h2 h1) (fun a b=>by
  cases h:iR b a with
  |false=>simp
  |true=>
   cases h2:iR a b with
   |false=>simp
   |true=>have:=pb.trans _ _ _ h h2;rw[pb.irrefl]at this;cases this) m
theorem Ht{a b:List HB}(hp:a.Perm b)(hs:a.Pairwise fun x y=>(!(iR y x))=true):a=dY b:=
 List.Perm.eq_of_pairwise (le:=fun x y=>(!(iR y x))=true) (fun x y _ _ h1 h2=>by
  simp only[aaE]at h1 h2;exact qb h2 h1) hs (tu b) (hp.trans (sH b).symm)
theorem D8{a b:List HB}(hp:a.Perm b):dY a=dY b:=Ht ((sH a).trans hp) (tu a)
def pZ(h:HB):List Value:=aF h.1
theorem zD(m:List HB):flatK pZ 32 m.toArray=(dg m).toArray:=by
 refine ext_get! (by rw[size_flatK,List.size_toArray,List.size_toArray,fe]) fun t ht=>?_
 rw[size_flatK,List.size_toArray]at ht;rw[get_flatK _ _ _ _ (by rw[List.size_toArray];exact ht)];have hi:t/32<m.length:=by omega
 have h1:=wm hi;have hl:=fe m;have hr:(dg m)[t]?=(aF m[t/32].1)[t%32]?:=by rw[<-h1,aaj,if_pos (by omega),aas];congr 1;omega
 rw[show(m.toArray[t/32]!)=m[t/32] by simp[hi]];unfold pZ;rw[List.getElem!_eq_getElem?_getD,<-hr];simp[Array.getElem!_eq_getD,Array.getD,show t<(dg m).length by omega]
theorem GC(m:List HB):∀v∈dg m,cb 7 v=true:=fun v hv=>by
 unfold dg at hv;obtain⟨h,_,hh⟩:=List.mem_flatMap.1 hv;exact List.all_eq_true.1 (vW h.1) v hh
theorem Eg{enc:HB->List Value}{k:Nat}{w:World}{ek off n:Nat}{d:Array HB}{os:Array Obj}:aK (fun b=>b=ek) w (sortWorldK enc k w ek off n d os):=
 ⟨rfl,rfl,rfl,by
  show w.heap.size<=((w.heap.modify ek _)++os).size;simp,fun j hj hb=>by
  show((w.heap.modify ek _)++os)[j]?=_;rw[aba,if_pos (by simpa using hj),aaH,if_neg (fun e=>hb e.symm)]⟩
theorem Ek{enc:HB->List Value}{k:Nat}{w:World}{ek off n:Nat}{d:Array HB}{os:Array Obj}{c:Array Value}{e:TypeId}{fr:Nat×Nat}(h:w.heap[ek]?=some (.cells c e fr)) :
 (sortWorldK enc k w ek off n d os).heap[ek]?=some (.cells (putCells id off (flatK enc k d) c) e fr):=by
 show((w.heap.modify ek (onCells (putCells id off (flatK enc k d))))++os)[ek]?=_;have hlt:ek<w.heap.size:=(Array.getElem?_eq_some_iff.1 h).1;rw[aba,if_pos (by simpa using hlt),aaH,if_pos rfl,h];rfl
def qi(P:Program)(f g:FuncId):Prop:=∀(ek off cap:Nat) (d:Array HB) (w:World),HoldsK pZ 32 w ek off d->ek<w.heap.size->d.size<4611686018427387904 ->
 Calls P f #[.slice (some ⟨ek,off,none⟩) d.size cap,.func (.func g) #[] #[]] w fun e w'=>e=.returned (.tuple #[])/\∃n os,w'=sortWorldK pZ 32 w ek off n (dY d.toList).toArray os
theorem IL{P:Program}{f g:FuncId}(hS:qi P f g){W:XW}{n:Nat}{m:List HB}{T:TypeId}(hm:m≠[])(hml:m.length<4611686018427387904)(hg:W.get n=some (.cells (dg m) T (0,0))) :
 aN P f [.slice (some ⟨n,0,none⟩) m.length aM,.func (.func g) #[] #[]] W fun e W'=>e=.ret (.tuple #[])/\W'=W.put n (some (.cells (dg (dY m)) T (0,0))):=by
 intro ρ args' w mm hfr hH hA;have hml0:0<m.length:=List.length_pos_iff.2 hm;cases hA with
 |cons _ x _ l' h1 h2=>
 cases h2 with
 |cons _ y _ l'' h3 h4=>
 cases h4;have hy:y=.func (.func g) #[] #[]:=h3.of_flat 1 rfl;subst hy;obtain⟨i,cap',hi,hx⟩:∃i cap',ρ n=some i/\x=.slice (some ⟨i.b,0+i.s,none⟩) m.length cap':=by
  generalize hs:Value.slice (some ⟨n,0,none⟩) m.length aM=s at h1;cases h1 with
  |flat k v h=>subst hs;cases k<;>simp[cb]at h
  |slice n o len cap i h hc=>cases hs;cases hc
  |sliceO n o len cap cap' i h hc hl hr hz=>cases hs;exact⟨i,cap',h,rfl⟩
  |sliceE n o cap a i h hc hr=>simp only[Value.slice.injEq]at hs;omega
  |sliceZ n o a i h=>simp only[Value.slice.injEq]at hs;omega
  |frz cs cs' len b off cap c' e fr hB hl hc h=>exact absurd hs (by simp[FZ])
  |frzE a cap=>exact absurd hs (by simp[FZ])
  |_=>cases hs
 subst hx;obtain⟨ob,hob,hor⟩:=hH.obj n i _ hi hg;cases hor with
 |cells _ _ _ c' fr' hz hr hk hl hv hf hq hmz=>
 have hrl:=fe m;have hlen:(dg m).length=i.r:=hr;have hflat:∀(l:List HB) (j:Nat) (v:Value),(dg l)[j]?=some v->cb 7 v=true:=fun l j v e=>GC l v (aaC e)
 have hold:HoldsK pZ 32 w i.b (0+i.s) m.toArray:=fun j hj=>by
  rw[size_flatK,List.size_toArray]at hj;have hjl:j<(dg m).length:=by omega
  obtain⟨v',q1,q2⟩:=hv j _ (ZP hjl);have q3:=q2.of_flat 7 (hflat m j _ (ZP hjl));subst q3;refine⟨?_,?_⟩
  ·rw[cB hob,zD,Nat.zero_add,q1];simp[Array.getElem!_eq_getD,Array.getD,hjl]
  cases hfz:w.frozen? ⟨i.b,0+i.s+j,none⟩with
  |false=>rfl
  |true=>
   exfalso;unfold World.frozen? at hfz;rw[hob]at hfz;simp only[ZX,decide_eq_true_eq,Nat.zero_add]at hfz;have:=hf j (by omega) hfz.1 hfz.2;exact absurd this.2 (by simp)
 have hc:=hS i.b (0+i.s) cap' m.toArray w hold (Array.getElem?_eq_some_iff.1 hob).1 (by rw[List.size_toArray];exact hml);rw[List.size_toArray]at hc;refine CallsIn.mono (callsIn_wide.2 hc) fun en w' ⟨he,nn,os,hw⟩=>?_
 subst he;subst hw;rw[show m.toArray.toList=m by simp];have hb':=Ek (enc:=pZ) (k:=32) (off:=0+i.s) (n:=nn) (d:=(dY m).toArray) (os:=os) hob;have hsl:=fe (dY m);rw[oS]at hsl;have hor':OR P ρ i (.cells (dg (dY m)) T (0,0)) (.cells (putCells id (0+i.s) (flatK pZ 32 (dY m).toArray) c') T fr'):=by
  refine .cells _ _ _ _ _ (by simpa[putCells]using hz) (by omega) hk hl (fun j v e=>?_) hf hq hmz;have hjl:j<(dg (dY m)).length:=(List.getElem?_eq_some_iff.1 e).1;refine⟨v,?_,.flat 7 v (hflat _ j v e)⟩;rw[zD];have hlt:i.s+j<c'.size:=by omega
  have hget:(dg (dY m))[j]=v:=(List.getElem?_eq_some_iff.1 e).2;unfold putCells;rw[Array.getElem?_mapIdx,aav hlt,ZW,if_pos ⟨by omega,by rw[List.size_toArray];omega⟩,show i.s+j-(0+i.s)=j by omega];simp[Array.getElem!_eq_getD,Array.getD,hjl,hget]
 have hp:=hH.put hi (by rw[hg];simp) _ (Eg (enc:=pZ) (k:=32) (off:=0+i.s) (n:=nn) (d:=(dY m).toArray) (os:=os)) hb' hor';exact⟨_,_,⟨rfl,rfl⟩,ρ,hp.2,hp.1,.flat 1 _ rfl⟩
def FF:Value:=.func (.func 51) #[] #[]
def T1(es:cX)(e:cz)(W':XW):Prop:=e=.ret (.slice (some ⟨7,0,none⟩) es.length aM)/\W'.get 0=some eX/\W'.get 1=some (fD es)/\W'.get 7=some (mo (dY (fF es)))/\W'.next<=20
theorem Eq(hS:qi Tryz.prog 89 51)(es:cX)(hn:es.length<=1000000)(hne:es≠[]) :
 aN Tryz.prog 49 [pz,FF] (wd [(0,some eX),(1,some (fD es)),(2,some mI)] 3 [] 0) (T1 es):=by
 refine be av Tryz.func49 rfl (Nat.le_of_ble_eq_true rfl) ?_;simp only[aY.eq_1,aY.eq_2,bf,Tryz.ntmps49,reduceAdd];refine ae (ac (e:=?e1) (s':=?s1) av ?h1 ?q1)
 case h1=>simp(disch:=decide) only[go_sem];all_goals rfl
 refine ae (cI ?_);refine aP av 1 (s1:=?sA) ?hA (fT (f:=88) (args:=[pz]) (S:=Mu es) (enters_of (by kernel_rfl)) rfl ?hxA ?hlA ?qA)
 case hA=>simp(disch:=decide) only[go_sem];all_goals rfl
 case hxA=>simp(disch:=decide) only[pz,FF,go_sem]
 case hlA=>exact CF es hn hne
 intro e W' ⟨m,h1,h2,h3,h4,h5,h6,h7⟩;refine⟨_,_,h3,dQ (by decide),?_⟩;refine ec (oC (L:=[(0,some eX),(1,some (fD es)),(7,some (mo m))]) (n':=20) (lg:=[]) (nl:=0) h7 fun n o e=>?_) ?_
 ·have hcases:=bX e;simp only[ZU,ZS,or_false,Prod.mk.injEq,Option.some.injEq]at hcases;rcases hcases with⟨rfl,rfl⟩|⟨rfl,rfl⟩|⟨rfl,rfl⟩<;>assumption
 have hm0:m≠[]:=fun e=>by rw[e]at h2;exact hne (List.length_eq_zero_iff.1 h2.symm)
 have hmk:dY m=dY (fF es):=D8 h1;refine aP av 1 (s1:=?sB) ?hB (cY ?qB)
 case hB=>simp(disch:=decide) only[go_sem];all_goals rfl
 refine ae (cI ?_);refine aP av 1 (s1:=?sC) ?hC ?qC
 case hC=>simp(disch:=decide) only[go_sem];all_goals rfl
 refine aP av 1 (s1:=?sD) ?hD (fT (f:=89) (args:=[.slice (some ⟨7,0,none⟩) m.length aM,FF])
  (S:=fun e W'=>e=.ret (.tuple #[])/\W'=(wd [(0,some eX),(1,some (fD es)),(7,some (mo m))] 20 [] 0).put 7 (some (.cells (dg (dY m)) 24 (0,0)))) (enters_of (by kernel_rfl)) rfl ?hxD ?hlD ?qD)
 case hD=>simp(disch:=decide) only[go_sem];all_goals rfl
 case hxD=>simp(disch:=decide) only[pz,FF,go_sem]
 case hlD=>exact IL hS hm0 (by omega) rfl
 intro e W' ⟨he,hw⟩;subst hw;refine⟨_,_,he,dQ (by decide),?_⟩;refine ec (oC (L:=[(0,some eX),(1,some (fD es)),(7,some (mo (dY m)))]) (n':=20) (lg:=[]) (nl:=0) (Nat.le_refl _) fun n o e=>?_) ?_
 ·have hcases:=bX e;simp only[ZU,ZS,or_false,Prod.mk.injEq,Option.some.injEq]at hcases;rcases hcases with⟨rfl,rfl⟩|⟨rfl,rfl⟩|⟨rfl,rfl⟩<;>rfl
 refine cY ?_;refine ae (ac (e:=?e2) (s':=?s2) av ?h2 ?q2)
 case h2=>simp(disch:=decide) only[go_sem];all_goals rfl
 refine bh ?_;refine⟨_,?e3,?W3,rfl,?h3,?q3⟩
 case h3=>simp(disch:=decide) only[Tryz.results49,go_sem];all_goals rfl
 refine⟨by rw[h2],?_,?_,?_,?_⟩
 ·simp(disch:=decide) only[go_sem]
 ·simp(disch:=decide) only[go_sem]
 ·simp(disch:=decide) only[<-hmk,go_sem]
 exact Nat.le_refl _
theorem VK(hS:qi Tryz.prog 89 51)(es:cX)(hn:es.length<=1000000)(hne:es≠[]) :
 aN Tryz.prog 26 [.pointer (some ⟨0,0,none⟩)] (wd [(0,some eX),(1,some (fD es))] 2 [] 0)
  fun e W'=>e=.ret (jk (dY (fF es)))/\W'.get 0=some eX/\W'.get 1=some (fD es):=by
 refine be av Tryz.func26 rfl (Nat.le_of_ble_eq_true rfl) ?_;simp only[aY.eq_1,aY.eq_2,bf,Tryz.ntmps26,reduceAdd];refine ae (ac (e:=?e1) (s':=?s1) av ?h1 ?q1)
 case h1=>simp(disch:=decide) only[go_sem];all_goals rfl
 refine ae ?_;refine ae (ac (e:=?e2) (s':=?s2) av ?h2 ?q2)
 case h2=>simp(disch:=decide) only[mA Tryz.underlying26,go_sem];all_goals rfl
 refine aO ?h3 ?q3
 case h3=>simp(disch:=decide) only[go_sem];all_goals rfl
 refine aH ?_;refine ae (cI ?_);refine aP av 1 (s1:=?sA) ?hA ?qA
 case hA=>simp(disch:=decide) only[go_sem];all_goals rfl
 refine aP av 1 (s1:=?sB) ?hB ?qB
 case hB=>simp(disch:=decide) only[go_sem];all_goals rfl
 refine aP av 1 (s1:=?sC) ?hC ?qC
 case hC=>simp(disch:=decide) only[eX,go_sem];all_goals rfl
 refine aP av 1 (s1:=?sD) ?hD (fT (f:=50) (args:=[.map (some 1)])
  (S:=fun e W'=>e=.ret pz/\W'.get 0=some eX/\W'.get 1=some (fD es)/\W'.get 2=some mI/\W'.next<=3) (enters_of (by kernel_rfl)) rfl ?hxD ?hlD ?qD)
 case hD=>simp(disch:=decide) only[eX,go_sem];all_goals rfl
 case hxD=>simp(disch:=decide) only[go_sem]
 case hlD=>exact Iq es
 intro e W' ⟨h1,h2,h3,h4,h5⟩;refine⟨_,_,h1,dQ (by decide),?_⟩;refine ec (oC (L:=[(0,some eX),(1,some (fD es)),(2,some mI)]) (n':=3) (lg:=[]) (nl:=0) h5 fun n o e=>?_) ?_
 ·have hcases:=bX e;simp only[ZU,ZS,or_false,Prod.mk.injEq,Option.some.injEq]at hcases;rcases hcases with⟨rfl,rfl⟩|⟨rfl,rfl⟩|⟨rfl,rfl⟩<;>assumption
 refine fT (f:=49) (args:=[pz,FF]) (S:=T1 es) (enters_of (by kernel_rfl)) rfl ?hxE (Eq hS es hn hne) ?qE
 case hxE=>simp(disch:=decide) only[pz,FF,go_sem]
 intro e W' ⟨h1,h2,h3,h4,h5⟩;refine⟨_,_,h1,dQ (by decide),?_⟩;refine ec (oC (L:=[(0,some eX),(1,some (fD es)),(7,some (mo (dY (fF es))))]) (n':=20) (lg:=[]) (nl:=0) h5 fun n o e=>?_) ?_
 ·have hcases:=bX e;simp only[ZU,ZS,or_false,Prod.mk.injEq,Option.some.injEq]at hcases;rcases hcases with⟨rfl,rfl⟩|⟨rfl,rfl⟩|⟨rfl,rfl⟩<;>assumption
 refine aP av 1 (s1:=?sF) ?hF (cY ?qF)
 case hF=>simp(disch:=decide) only[go_sem];all_goals rfl
 have hkl:(dY (fF es)).length=es.length:=by rw[oS];exact aaq ..
 obtain⟨m,hm⟩:∃m,m=dY (fF es):=⟨_,rfl⟩;rw[<-hm]at hkl ⊢;refine aU (Hd (L':=[(0,some eX),(1,some (fD es))]) 2 7 (c:=dg m) (e:=24) (fr:=(0,0)) (len:=es.length) rfl (by decide) (by decide) (by decide) rfl (Nat.le_trans hn (by decide)) (fun e=>absurd (List.length_eq_zero_iff.1 e) hne) (by simp(disch:=decide) [ai,ab,aa,ag])) ?_;refine bh ?_;refine⟨_,?e4,?W4,rfl,?h4,?q4⟩
 case h4=>simp(disch:=decide) only[Tryz.results26,go_sem];all_goals rfl
 refine⟨?_,?_,?_⟩
 ·unfold jk;rw[hkl];obtain⟨n,hn'⟩:∃n,es.length=n+1:=⟨es.length-1,by have:=List.length_pos_iff.2 hne;omega⟩;rw[hn'];rfl
 ·simp(disch:=decide) only[go_sem]
 simp(disch:=decide) only[go_sem]
theorem AA{P:Program}{t kt el:TypeId}(ht:P.underlying t=some (.map kt el))(w:World):(Instr.range t (.map none)).run P w=.ok (.pointer (some ⟨w.heap.size,0,none⟩)) (w.alloc (.mapIter none 0 #[] 0)):=by
 unfold Instr.range;simp only[ZO,bM ht,ZN,Z0];rfl
theorem Bo{P:Program}{ty:TypeId}{b:Nat}{w:World}(h:w.heap[b]?=some (.mapIter none 0 #[] 0)):(Instr.next (.pointer (some ⟨b,0,none⟩)) false ty).run P w=.ok (.tuple #[.bool false]) w:=by
 unfold Instr.next;simp only[ZO,jD h,ZN,Z0]
set_option maxRecDepth 100000 in
theorem O0(y:Value)(b o:Nat)(w:World)(hc:w.cell? ⟨b,o,none⟩=some (.map none))(hb:b<w.heap.size) :
 Calls Tryz.prog 90 #[y,.pointer (some ⟨b,o,none⟩)] w fun e w'=>e=.returned (.tuple #[])/\aK bY w w':=by
 have hr:=AA Tryz.underlying63 w;obtain⟨w1,hw1⟩:∃w1,w1=w.alloc (.mapIter none 0 #[] 0):=⟨_,rfl⟩;have z1:w1.heap[w.heap.size]?=some (.mapIter none 0 #[] 0):=by rw[hw1];exact cC
 have k1:aK bY w w1:=by rw[hw1];exact(aK.refl _ _).alloc _
 rw[<-hw1]at hr;have Z1:=Lib.hid z1;have K1:=Lib.hid k1;clear hw1 z1 k1
 go_enter Tryz.func90,Tryz.ntmps90
 go_wp2_with fail
 go_loopw [3] (fun _ wr=>aK bY w1 wr) (fun _ _=>1)
 case atStart=>exact aK.refl _ _
 have hkr:=hrel;have hnx:=Bo (P:=Tryz.prog) (ty:=0) (hkr.heap Z1.out (fun e=>e));have HKR:=Lib.hid hkr;clear hkr
 go_wp2_with fail
 go_end0
 exact⟨rfl,K1.out.trans HKR.out⟩
def S5(W:XW):Option bb->Option (cz×XW)
 |some (.cells [.map none] _ _)=>some (.ret (.tuple #[]),W)
 |_=>none
def Ko:HF:=fun args W=>match args with
 |[_,.pointer (some ⟨n,0,none⟩)]=>S5 W (W.get n)
 |_=>none
theorem Fs{args:List Value}{W W':XW}{e:cz}(h:Ko args W=some (e,W')):∃y n t fr,args=[y,.pointer (some ⟨n,0,none⟩)]/\W.get n=some (.cells [.map none] t fr)/\e=.ret (.tuple #[])/\W'=W:=by
 unfold Ko at h;split at h
 ·rename_i y n;unfold S5 at h;split at h
  ·rename_i t fr hg;cases h;exact⟨y,n,t,fr,rfl,hg,rfl,rfl⟩
  cases h
 cases h
theorem X3:bD Tryz.prog 90 Ko:=⟨enters_of (by kernel_rfl),fun args W e W' h=>by
 obtain⟨y,n,t,fr,rfl,hg,rfl,rfl⟩:=Fs h;exact .refl _,fun args W e W' h ρ args' w m hfr hH hA=>by
 obtain⟨y,n,t,fr,rfl,hg,rfl,rfl⟩:=Fs h;cases hA with
 |cons _ y' _ l' h1 h2=>
 cases h2 with
 |cons _ x _ l'' h3 h4=>
 cases h4;obtain⟨i,hi,rfl⟩:=h3.ptrInv;obtain⟨ob,hob,hor⟩:=hH.obj n i _ hi hg;cases hor with
 |cells _ _ _ c' fr' hz hr hk hl hv hf hq hmz=>
 obtain⟨v',q1,q2⟩:=hv 0 _ rfl;have q3:=q2.of_flat 1 rfl;subst q3;have hc:w.cell? ⟨i.b,0+i.s,none⟩=some (.map none):=by rw[cB hob,Nat.zero_add];exact q1
 refine CallsIn.mono (callsIn_wide.2 (O0 y' i.b (0+i.s) w hc (Array.getElem?_eq_some_iff.1 hob).1)) fun en w' ⟨he,hk'⟩=>?_
 subst he;exact⟨ρ,.keep hk',hH.keep hk',.flat 1 _ rfl⟩⟩
theorem Vr:dv Tryz.prog (cE [(90,Ko)] []):=⟨mixed,bU (.cons _ _ _ X3 .nil) .nil⟩
theorem pM{P:Program}{H:dX}(hB:dv P H)(n:Nat){f:FuncId}{args:List Value}{W W':XW}{e:cz}(h:eP P H n (.call f args W)=some (.fin e W')):aN P f args W fun e2 W2=>e2=e/\W2=W':=by
 intro ρ args' w m hfr hH hA;obtain⟨hC,hF,_⟩:=lv hB.mixed hB.sim (lF hB.mixed) n;obtain⟨_,k⟩:=hF f args W e W' h;exact CallsIn.mono (k ρ args' w m (fun n h1 h2=>hfr n h1) hH hA) fun en w' hq=>⟨e,W',⟨rfl,rfl⟩,hq⟩
def Nr(t:TypeId):Option XO->Bool
 |some (.fin (.ret (.slice none 0 0)) W')=>match W'.get 0 with
  |some (.cells [.map none] u (0,0))=>Nat.beq u t
  |_=>false
 |_=>false
theorem O9{t:TypeId}{r:Option XO}(h:Nr t r=true):∃W',r=some (.fin (.ret (.slice none 0 0)) W')/\W'.get 0=some (.cells [.map none] t (0,0)):=by
 unfold Nr at h;split at h
 ·rename_i W';split at h
  ·rename_i u hg;exact⟨W',rfl,by rw[hg,ZT h]⟩
  cases h
 cases h
set_option maxRecDepth 100000 in
theorem MO:Nr 65 (eP Tryz.prog (cE [(90,Ko)] []) 4000 (.call 26 [.pointer (some ⟨0,0,none⟩)] (wd [(0,some (.cells [.map none] 65 (0,0)))] 1 [] 0)))=true:=by kernel_rfl
theorem YH:aN Tryz.prog 26 [.pointer (some ⟨0,0,none⟩)] (wd [(0,some (.cells [.map none] 65 (0,0)))] 1 [] 0)
 fun e W'=>e=.ret (jk [])/\W'.get 0=some (.cells [.map none] 65 (0,0)):=by
 obtain⟨W',h1,h2⟩:=O9 MO;exact aN.mono (pM Vr 4000 h1) fun e W2 ⟨q1,q2⟩=>by subst q1;subst q2;exact⟨rfl,h2⟩
open Classical in
noncomputable def uM:PP cX:=fun xs es=>if xs=[]/\es.length<=1000000 then some (jk (dY (fF es)),es,.rd)else none
theorem LB{es:cX}(hn:es.length<=1000000):uM [] es=some (jk (dY (fF es)),es,.rd):=if_pos ⟨rfl,hn⟩
theorem WV(hS:qi Tryz.prog 89 51):bD Tryz.prog 26 (ic eN uM):=by
 have inv:∀{xs:List Value} {es es':cX} {v:Value} {md:Md},uM xs es=some (v,es',md)->xs=[]/\es.length<=1000000/\v=jk (dY (fF es))/\es'=es/\md=.rd:=fun{xs es es' v md} h=>by
  unfold uM at h;split at h
  ·rename_i hx;cases h;exact⟨hx.1,hx.2,rfl,rfl,rfl⟩
  cases h
 refine uO (enters_of (by kernel_rfl)) (fun xs a v a' md h=>?_) (fun xs a v a' md h=>?_)
 ·obtain⟨rfl,_,rfl,_,_⟩:=inv h;exact⟨aQ,wD _⟩
 obtain⟨rfl,hn,rfl,rfl,rfl⟩:=inv h;cases a' with
 |nil=>exact aN.mono YH fun e W' ⟨h1,h2⟩=>⟨by rw[h1];simp[fF,dY],h2,fun o h=>(by cases h)⟩
 |cons x l=>exact aN.mono (VK hS (x::l) hn (by simp)) fun e W' ⟨h1,h2,h3⟩=>⟨h1,h2,fun o h=>by cases h;exact h3⟩
noncomputable def AP:List (FuncId×HF):=[(28,rm),(27,rm),(73,FJ)]
theorem C0:qN Tryz.prog AP:=.cons _ _ _ Nz (.cons _ _ _ Iw (.cons _ _ _ Rm .nil))
noncomputable def Jp(n:Nat):List (FuncId×HD):=[(46,Gr Tryz.prog (eP Tryz.prog (cE AP []) n) 46)]
theorem Jy(n:Nat):oP Tryz.prog (Jp n):=by
 have h0:wv Tryz.prog (cE AP []):=bU C0 .nil;have hR:=oy (P:=Tryz.prog) h0.ext n;have hC:=(lv mixed h0 (lF mixed) n).1;exact .cons _ _ _ (Qh (enters_of (by kernel_rfl)) hR hC) .nil
noncomputable def u9(n:Nat):dX:=cE AP (Jp n)
theorem By(n:Nat):dv Tryz.prog (u9 n):=⟨mixed,bU C0 (Jy n)⟩
def KV:Option XO->Bool
 |some (.fin (.ret (.bool true)) _)=>true
 |_=>false
theorem P8{r:Option XO}(h:KV r=true):∃W',r=some (.fin (.ret (.bool true)) W'):=by
 unfold KV at h;split at h
 ·exact⟨_,rfl⟩
 cases h
theorem DV{P:Program}{f:FuncId}{args args':List Value}{w:World}{v:Value}{k:Nat}(hk:cb k v=true)(h:aN P f args (wd [] 0 [] 0) fun e W'=>e=.ret v)
 (hA:∀ρ:Ren,(∀b,ρ.fz b=w.heap[b]?)->cd ρ args args'):Calls P f args'.toArray w fun en w'=>en=.returned v/\aK bY w w':=by
 refine callsIn_wide.1 (CallsIn.mono (h ⟨fun _=>none,fun b=>w.heap[b]?⟩ args' w 0 (fun n _=>rfl) ⟨fun n i o q _=>(by cases q),fun n m i j q _ _ _ _=>(by cases q),fun b o q=>⟨q,fun⟨n,i,q1,_⟩=>by cases q1⟩⟩ (hA _ fun _=>rfl)) fun en w' hx=>?_);obtain⟨e,W',rfl,ρ',hs,_,he⟩:=hx;cases en<;>first|exact he.elim|skip
 rename_i u;have hu:VR ρ' v u:=he;refine⟨by rw[hu.of_flat k hk],hs.keeps.mono fun b _ hb=>?_⟩;obtain⟨n,i,q1,_⟩:=hb;cases q1
set_option maxRecDepth 100000 in
theorem O2:KV (eP Tryz.prog (u9 100000) 100000 (.call 7 [] (wd [] 0 [] 0)))=true:=by kernel_rfl
theorem Nn:aN Tryz.prog 7 [] (wd [] 0 [] 0) fun e W'=>e=.ret (.bool true):=by
 obtain⟨W',h⟩:=P8 O2;exact aN.mono (pM (By 100000) 100000 h) fun e W2 ⟨q,_⟩=>q
def MW:List Value->Option Value
 |[]=>some (.bool true)
 |_=>none
theorem Wh:bD Tryz.prog 7 (bu MW):=by
 refine wt (enters_of (by kernel_rfl)) (fun xs v h=>?_) (fun xs v h=>?_)
 ·cases xs with
  |nil=>cases h;exact⟨aQ,aG 1 rfl⟩
  |cons a l=>cases h
 cases xs with
 |nil=>cases h;exact Nn
 |cons a l=>cases h
theorem P0:qi Tryz.prog 89 51:=fun ek off cap d w hH hb hs=>by
 have eg:∀args w,(callFunc 51 args).run Tryz.prog w=.ok (.enter 51 args) w:=Go.Proofs.enters_of Tryz.func51 (by kernel_rfl) rfl;have h:=AnyQ.slices_SortFunc_total Tryz.sortHash 32 Tryz.isAgg24 Tryz.sizeOf24 pZ (fun x=>by unfold pZ;rw[bK,x.2]) (fun x v hv=>by
  obtain⟨b,_,rfl⟩:=List.mem_map.1 hv;rfl) zV Rc 51 #[] ek off cap d w eg (fun _ _ _ _ x y=>Hp x y _) hH hb hs (fun x y h1 h2=>by
  rw[Bb]at h1 h2;exact qb h1 h2)
 rw[Bb]at h;exact h
end Go.Proofs.YthlkgmdkabelpaaGreat.X
