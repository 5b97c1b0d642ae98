/-
  Packed by program (tools/pack.py) out of the texts UI1 UI2 UI3 UI5. No condition.
-/
import Derived.Test.YthlkgmdkabelpaaGreatNF
import Derived.Test.YthlkgmdkabelpaaGreatNI
import Derived.Sort.Grow
import Derived.Test.YthlkgmdkabelpaaGreatNJ
set_option linter.all false
open Nat(reduceAdd reduceMul reduceSub)
namespace Go.Proofs.YthlkgmdkabelpaaGreat.X
open Go Go.RowKit
abbrev fj:=List (Int×List aC)
def mh{γ:Type}(rs:List (Int×γ)):List Int:=rs.map (·.1)
def mQ{γ:Type}(rs:List (Int×γ))(js:List Nat):List Int:=js.map fun j=>(rs[j]?.map (·.1)).getD 0
theorem ID{γ:Type}(rs:List (Int×γ))(js:List Nat):(mQ rs js).length=js.length:=aaq ..
theorem Hr{γ:Type}{rs:List (Int×γ)}{js:List Nat}{j:Nat}{k:Int}{b:γ}(h:rs[j]?=some (k,b)):mQ rs (js++[j])=mQ rs js++[k]:=by
 unfold mQ;rw[aaI];simp[h]
theorem KP{γ:Type}{rs:List (Int×γ)}(y:ol rs.length)(h:∀j,j<rs.length->j∈y.js):(mQ rs y.js).Perm (mh rs):=by
 have h1:y.js.Perm (List.range rs.length):=(List.perm_ext_iff_of_nodup y.nd List.nodup_range).2 fun j=>⟨fun q=>List.mem_range.2 (y.lt j q),fun q=>h j (List.mem_range.1 q)⟩
 have h2:=h1.map fun j=>(rs[j]?.map (·.1)).getD 0
 have h3:((List.range rs.length).map fun j=>(rs[j]?.map (·.1)).getD 0)=mh rs:=by
  unfold mh;apply aao;intro j;by_cases hj:j<rs.length
  ·simp[hj]
  rw[aae (by simp;omega),aae (by simp;omega)]
 rw[h3]at h2;exact h2
def vG:Value:=.func (.func 72) #[] #[.pointer (some ⟨1,0,none⟩)]
def cT(rs:fj):bb:=.map (bn (fun _ l=>al an (some l)) rs 0) rs.length
theorem fV{P:Program}(rs:fj):fY P (cT rs):=fun T hT=>jY (kZ.bare hT (m4 (fun _ b=>aB aW _) rs 0))
def oR:bb:=.cells [.map (some 0)] 76 (0,0)
def Bw(m:List Int):bb:=.cells (m.flatMap au) 3 (0,0)
def FU(rs:fj)(e:cz)(W':XW):Prop:=∃m:List Int,m.Perm (mh rs)/\m.length=rs.length/\e=.ret (cA 6 m.length)/\W'.get 0=some (cT rs)/\W'.get 6=bN 3 (m.flatMap au) m.length/\W'.next<=20
set_option maxHeartbeats 2000000 in
theorem Jo(rs:fj)(hn:rs.length<=1000000):aN Tryz.prog 107 [.slice none 0 0,vG] (wd [(0,some (cT rs)),(1,some oR)] 2 [] 0) (FU rs):=by
 refine be av Tryz.func107 rfl (Nat.le_of_ble_eq_true rfl) ?_;simp only[aY.eq_1,aY.eq_2,bf,Tryz.ntmps107,reduceAdd];refine ae (ac (e:=?e1) (s':=?s1) av ?h1 ?q1)
 case h1=>simp(disch:=decide) only[go_sem];all_goals rfl
 refine ae ?_;refine ae (ac (e:=?e2) (s':=?s2) av ?h2 ?q2)
 case h2=>simp(disch:=decide) only[go_sem];all_goals rfl
 refine aD ?_;refine aU (s':=⟨aI [(2,some (.pointer (some ⟨2,0,none⟩))),(6,some vG)],wd [(0,some (cT rs)),(1,some oR),(2,some (.cells [.slice none 0 0] 35 (0,0)))] 3 [] 0,[]⟩) (ak (by simp(disch:=decide) [ai,ab,aa,ag]) (by simp(disch:=decide) [ai,ab,aa,ag]) (by decide)) ?_;refine sN (g:=72) (xs:=#[]) (cap:=#[.pointer (some ⟨1,0,none⟩)]) (S:=fun e W2=>∃m:List Int,m.Perm (mh rs)/\m.length=rs.length/\(∃v,e=.ret v)/\W2.get 0=some (cT rs)/\W2.get 2=some (.cells [cA 6 m.length] 35 (0,0))/\W2.get 3=some (.defd false)/\W2.get 6=bN 3 (m.flatMap au) m.length/\7<=W2.next/\W2.next<=20/\∃st tm N2 ps2 asg2 body2 d2,W2.get 4=some (.loop st none tm N2 ps2 asg2 body2 d2)/\nj st=false) ?hv (enters_of (by kernel_rfl)) ?hl ?q
 case hv=>simp(disch:=decide) only[vG,go_sem]
 case q=>
  intro e W2 ⟨m,h1,h2,⟨v,h3⟩,h4,h6,h7,h8,h9,h10,st,tm,N2,ps2,asg2,body2,d2,h11,h12⟩;refine⟨v,st,tm,N2,ps2,asg2,body2,d2,h3,by simp only[bf];omega,h11,h12,?_⟩;simp only[bf,reduceAdd];show bA _ _ _ _ _ _;refine aU (s':=⟨aI [(2,some (.pointer (some ⟨2,0,none⟩)))],wd [(0,some (cT rs)),(2,some (.cells [cA 6 m.length] 35 (0,0))),(3,some (.defd false)),(6,bN 3 (m.flatMap au) m.length)] 20 [] 0,[.mark 3]⟩) ?_ ?_
  ·refine j7 (fun t v e=>?_) (fun n o e=>?_) h10 rfl
   ·have h:=gS e;show(aI _).get t=some v;by_cases ht:2=t
    ·subst ht;rw[ab]at h;rw[iZ (by decide),ab];exact h
    rw[aa ht]at h;cases h
   obtain⟨g1,g2⟩:=dV e;have hn5:n≠4:=fun q=>by subst q;simp(disch:=decide) [ab,aa,ag]at g2
   show(W2.put 4 _).get n=some o;rw[XW.get_put_ne hn5];have hcases:=bX g2;simp only[ZU,ZS,or_false,Prod.mk.injEq,Option.some.injEq]at hcases;rcases hcases with⟨rfl,rfl⟩|⟨rfl,rfl⟩|⟨rfl,rfl⟩|⟨rfl,hh⟩
   ·exact h4
   ·exact h6
   ·exact h7
   rw[hh];exact h8
  refine ae (ac (e:=?e3) (s':=?s3) av ?h3 ?q3)
  case h3=>simp(disch:=decide) only[go_sem];all_goals rfl
  refine bh ?_;refine⟨_,?e4,?W4,rfl,?h4,?q4⟩
  case h4=>simp(disch:=decide) only[Tryz.results107,go_sem];all_goals rfl
  refine⟨m,h1,h2,rfl,?_,?_,?_⟩
  ·simp(disch:=decide) only[go_sem]
  ·simp(disch:=decide) only[go_sem]
  exact Nat.le_refl _
 simp only[bf,gR,List.nil_append,List.cons_append,reduceAdd];generalize hLP:bb.loop LoopState.ready none _ 13 [7] _ _ 3=LP;have hex:∃st tm N2 ps2 asg2 body2 d2,LP=.loop st none tm N2 ps2 asg2 body2 d2/\nj st=false:=⟨_,_,_,_,_,_,_,hLP.symm,rfl⟩;have hto:∀θ:Nat->Option Nat,θ 1=some 1->θ 2=some 2->θ 3=some 3->TO Tryz.prog (cM θ) LP LP:=fun θ h2 h3 h4=>by
  rw[<-hLP];exact FB h4 (af (by decide) rfl (ay h3) (af (by decide) rfl (lJ (xs:=[]) (xs':=[]) (cs:=[.pointer (some ⟨1,0,none⟩)]) (cs':=[.pointer (some ⟨1,0,none⟩)]) aX (ax (ay h2) aX)) aR))
 refine be av Tryz.func72 rfl (Nat.le_of_ble_eq_true rfl) ?_;simp only[aY.eq_1,aY.eq_2,bf,Tryz.ntmps72,reduceAdd];refine ae (ac (e:=?e5) (s':=?s5) av ?h5 ?q5)
 case h5=>simp(disch:=decide) only[oR,cT,ua.eq_1,vZ.eq_1,go_sem];all_goals rfl
 refine aD ?_;refine aU (s':=⟨aI [(0,some (.func (.yield 4) #[] #[])),(5,some (.pointer (some ⟨5,0,none⟩)))],wd [(0,some (cT rs)),(1,some oR),(2,some (.cells [cA 6 0] 35 (0,0))),(3,some (.defd false)),(4,some LP),(5,some (.iter 0 rs.length [] rs.length)),(6,bN 3 (([]:List Int).flatMap au) 0)] 7 [] 0,[]⟩) (ak (by simp(disch:=decide) [ai,ab,aa,ag]) (by simp(disch:=decide) [ai,ab,aa,ag,cA,bN,oR,cT]) (by decide)) ?_;refine bw (α:=ol rs.length) (fun y=>⟨aI [(0,some (.func (.yield 4) #[] #[])),(5,some (.pointer (some ⟨5,0,none⟩)))],wd [(0,some (cT rs)),(1,some oR),(2,some (.cells [cA 6 (mQ rs y.js).length] 35 (0,0))),(3,some (.defd false)),(4,some LP),(5,some (.iter 0 rs.length y.js rs.length)),(6,bN 3 ((mQ rs y.js).flatMap au) (mQ rs y.js).length)] 7 [] 0,[]⟩) (fun y=>rs.length-y.js.length) ?_ (G2 _);intro y;have hyl:=jZ y.nd y.lt;have hml:=ID rs y.js;obtain⟨m,hm⟩:∃m,m=mQ rs y.js:=⟨_,rfl⟩;rw[<-hm]at hml ⊢;refine ae (cI ?_);refine Dm (x:=.tmp 5) (r:=5) (mp:=0) (rs:=rs) (f:=fun _ l=>al an (some l)) y rfl rfl ?hx ?hr ?hm2 (fun hall=>?_) (fun j kk b hj hjn hjb=>?_)
 case hx=>simp(disch:=decide) only[go_sem]
 case hr=>simp(disch:=decide) only[go_sem]
 case hm2=>simp(disch:=decide) only[cT,go_sem]
 ·refine⟨_,dQ (by decide),aP av 1 (s1:=?s1z) ?hz1 (cY ?qz)⟩
  case hz1=>simp(disch:=decide) only[go_sem];all_goals rfl
  show bA _ _ _ _ _ _;refine ae (aO ?h6 ?q6)
  case h6=>simp(disch:=decide) only[go_sem];all_goals rfl
  refine bp ?_;have hpm:m.Perm (mh rs):=by rw[hm];exact KP y hall
  have hme:m.length=rs.length:=by rw[hpm.length_eq];exact aaq ..
  refine⟨_,?e7,?W7,rfl,?h7,?q7⟩
  case h7=>simp(disch:=decide) only[Tryz.results72,go_sem];all_goals rfl
  obtain⟨st,tm,N2,ps2,asg2,body2,d2,hx1,hx2⟩:=hex;refine⟨m,hpm,hme,⟨_,rfl⟩,?_,?_,?_,?_,?_,?_,st,tm,N2,ps2,asg2,body2,d2,?_,hx2⟩
  ·simp(disch:=decide) only[go_sem]
  ·simp(disch:=decide) only[go_sem]
  ·simp(disch:=decide) only[go_sem]
  ·simp(disch:=decide) only[go_sem]
  ·exact Nat.le_refl _
  ·show 7<=20;decide
  rw[<-hx1];simp(disch:=decide) only[go_sem]
 refine⟨_,dQ (by decide),aP av 1 (s1:=?s1n) ?hz2 (cY ?qn)⟩
 case hz2=>simp(disch:=decide) only[go_sem];all_goals rfl
 show bA _ _ _ _ _ _;refine ae (aZ ?h8 ?q8)
 case h8=>simp(disch:=decide) only[go_sem];all_goals rfl
 refine aH ?_;refine aD ?_;have hfind:(bn (fun _ l=>al an (some l)) rs 0).find? (fun e=>Nat.beq e.born j)=some ⟨kV kk,al an (some b),j⟩:=by have:=na (f:=fun _ l=>al an (some l)) (i:=0) hjb;rw[Nat.zero_add]at this;exact this
 have hgl:(mi y j hj hjn).js.getLast?=some j:=by show(y.js++[j]).getLast?=some j;simp
 obtain⟨y2,hy2⟩:∃y2,y2=mi y j hj hjn:=⟨_,rfl⟩;have hlt:=wf y hj hjn;have hjs2:y2.js=y.js++[j]:=by rw[hy2];rfl
 have hyl2:=jZ y2.nd y2.lt;rw[<-hy2]at hgl hlt ⊢;have hm1:mQ rs y2.js=m++[kk]:=by rw[hjs2,hm];exact Hr hjb
 have hjl2:y2.js.length=y.js.length+1:=by rw[hjs2];simp
 refine ae (ac (e:=?e9) (s':=?s9) av ?h9 ?q9)
 case h9=>simp(disch:=decide) only[t6.eq_1,wA.eq_1,v8.eq_1,yb.eq_1,cT,hgl,hfind,ZY,go_sem];all_goals rfl
 have hemp:(#[]:Array Value).isEmpty=true:=rfl;refine jy ⟨aI [(0,some (.func (.yield 4) #[] #[])),(5,some (.pointer (some ⟨5,0,none⟩))),(13,some (.bool false))],wd [(0,some (cT rs)),(1,some oR),(2,some (.cells [.slice (some ⟨8,0,none⟩) (m.length+1) aM] 35 (0,0))),(3,some (.defd false)),(4,some LP),(5,some (.iter 0 rs.length y2.js rs.length)),(8,some (Bw (m++[kk])))] 9 [] 0,[]⟩ ?zh3 ?zq3
 case zh3=>
  have hro:(m.flatMap au++[.int .i64 kk])=(m++[kk]).flatMap au:=by rw[aap];rfl
  rcases hmm:m with _|⟨a,m'⟩
  ·have hr1:[kk].flatMap au=[.int .i64 kk]:=rfl;refine mT (e:=?er) (s':=?sr) av 4 ?hr3 ?qr3
   case hr3=>simp(disch:=decide) only[<-hLP,rC,mn,qj,pX,p9,pP,pQ,oQ,lM,um,oV,hemp,cA.eq_1,bN.eq_1,List.length_nil,Z5,ZW,Z6,show bm 0=false from rfl,ZV,ZR,ZY,aad,aab,Z9,go_sem];all_goals rfl
   exact gQ (ak (by simp(disch:=decide) [ai,ab,aa,ag]) (by simp(disch:=decide) [ai,ab,aa,ag,<-hLP,cT,Bw,hr1];try rfl) (by decide))
  have hg1:cA 6 (a::m').length=.slice (some ⟨6,0,none⟩) m.length aM:=by rw[hmm];rfl
  have hg2:bN 3 ((a::m').flatMap au) (a::m').length=some (.cells (m.flatMap au) 3 (0,0)):=by rw[hmm];rfl
  rw[hg1,hg2,<-hmm];have hrl:(m.flatMap au).length=m.length:=by rw[Je,aak]
  have hrt:(m.flatMap au).take m.length=m.flatMap au:=List.take_of_length_le (by rw[hrl];exact Nat.le_refl _);have hal:=nH m;refine mT (e:=?eq) (s':=?sq) av 4 ?hq3 ?qq3
  case hq3=>simp(disch:=first|decide|omega) only[<-hLP,rC,mn,qj,pX,p9,pP,pQ,oQ,lM,um,oV,hemp,hrl,hrt,hro,hal,aak,Z5,ZW,Z6,show bm 0=false from rfl,ZV,ZR,ZY,aad,aab,Z9,go_sem]<;>with_reducible rfl
  exact gQ (ak (by simp(disch:=decide) [ai,ab,aa,ag]) (by simp(disch:=decide) [ai,ab,aa,ag,<-hLP,cT,Bw];try rfl) (by decide))
 refine aO ?h10 ?q10
 case h10=>simp(disch:=decide) only[go_sem];all_goals rfl
 refine aH ?_;refine⟨y2,hlt,?_⟩;rw[hm1];simp only[ZM,List.length_cons,List.length_nil,Nat.zero_add,cA.eq_2,bN.eq_2];exact aV [(0,some 0),(1,some 1),(2,some 2),(3,some 3),(4,some 4),(5,some 5),(8,some 6)] [(0,some 0),(1,some 1),(2,some 2),(3,some 3),(4,some 4),(5,some 5),(6,some 8)] (by decide) (by decide) (by decide)
  (af (by decide) rfl (CN rfl) (af (by decide) rfl (ay rfl) aR))
  (aj 0 rfl (by decide) (by decide) rfl (aq ah (fV _))
  (aj 1 rfl (by decide) (by decide) rfl (bJ (ax (cq rfl) aX))
  (aj 2 rfl (by decide) (by decide) rfl (bJ (ax (bI rfl) aX))
  (aj 3 rfl (by decide) (by decide) rfl Ey
  (aj 4 rfl (by decide) (by decide) rfl (hto _ rfl rfl rfl)
  (aj 5 rfl (by decide) (by decide) rfl (kK rfl)
  (aj 8 rfl (by decide) (by decide) rfl (aq ah (bc (br ba _))) bj))))))) .nil
theorem F9(rs:fj):aN Tryz.prog 36 [.map (some 0)] (wd [(0,some (cT rs))] 1 [] 0)
 fun e W'=>e=.ret vG/\W'.get 0=some (cT rs)/\W'.get 1=some oR/\W'.next<=2:=by
 refine be av Tryz.func36 rfl (Nat.le_of_ble_eq_true rfl) ?_;simp only[aY.eq_1,aY.eq_2,bf,Tryz.ntmps36,reduceAdd];refine ae (ac (e:=?e11) (s':=?s11) av ?h11 ?q11)
 case h11=>simp(disch:=decide) only[go_sem];all_goals rfl
 refine ae (ac (e:=?e12) (s':=?s12) av ?h12 ?q12)
 case h12=>simp(disch:=decide) only[go_sem];all_goals rfl
 refine bh ?_;refine⟨_,?e13,?W13,rfl,?h13,?q13⟩
 case h13=>simp(disch:=decide) only[Tryz.results36,go_sem];all_goals rfl
 refine⟨rfl,?_,?_,?_⟩
 ·simp(disch:=decide) only[go_sem]
 ·simp(disch:=decide) only[oR,go_sem]
 exact Nat.le_refl _
theorem At(rs:fj)(hn:rs.length<=1000000):aN Tryz.prog 70 [vG] (wd [(0,some (cT rs)),(1,some oR)] 2 [] 0) (FU rs):=by
 refine be av Tryz.func70 rfl (Nat.le_of_ble_eq_true rfl) ?_;simp only[aY.eq_1,aY.eq_2,bf,Tryz.ntmps70,reduceAdd];refine ae (ac (e:=?e14) (s':=?s14) av ?h14 ?q14)
 case h14=>simp(disch:=decide) only[go_sem];all_goals rfl
 refine ae (cI ?_);refine aP av 1 (s1:=?s1) ?h1 (fT (f:=107) (args:=[.slice none 0 0,vG]) (S:=FU rs) (enters_of (by kernel_rfl)) rfl ?hx ?hl ?q)
 case h1=>simp(disch:=decide) only[go_sem];all_goals rfl
 case hx=>simp(disch:=decide) only[vG,go_sem]
 case hl=>exact Jo rs hn
 intro e W' ⟨m,h1,h2,h3,h4,h6,h7⟩;refine⟨_,_,h3,dQ (by decide),?_⟩;refine ec (iF (L:=[(0,some (cT rs)),(6,bN 3 (m.flatMap au) m.length)]) (n':=20) (lg:=[]) (nl:=0) h7 fun n o e=>?_) ?_
 ·have hcases:=bX e;simp only[ZU,ZS,or_false,Prod.mk.injEq,Option.some.injEq]at hcases;rcases hcases with⟨rfl,rfl⟩|⟨rfl,hh⟩
  ·exact h4
  rw[hh];exact h6
 refine aP av 1 (s1:=?s2) ?h2 (cY ?q2)
 case h2=>simp(disch:=decide) only[go_sem];all_goals rfl
 refine bh ?_;refine⟨_,?e15,?W15,rfl,?h15,?q15⟩
 case h15=>simp(disch:=decide) only[Tryz.results70,go_sem];all_goals rfl
 refine⟨m,h1,h2,rfl,?_,?_,?_⟩
 ·simp(disch:=decide) only[go_sem]
 ·simp(disch:=decide) only[go_sem]
 exact Nat.le_refl _
open Go.Sort
def f9(m:List Int):List Int:=m.mergeSort fun x y=>decide (x<=y)
theorem nZ(m:List Int):(f9 m).Perm m:=List.mergeSort_perm _ _
theorem oH(m:List Int):(f9 m).length=m.length:=(nZ m).length_eq
theorem uh(m:List Int):(f9 m).Pairwise fun x y=>decide (x<=y)=true:=
 List.pairwise_mergeSort (le:=fun x y=>decide (x<=y)) (fun a b c h1 h2=>by
  simp only[decide_eq_true_eq]at h1 h2 ⊢;omega) (fun a b=>by
  simp only[aat,decide_eq_true_eq];omega) m
theorem Em{a b:List Int}(hp:a.Perm b):f9 a=f9 b:=
 List.Perm.eq_of_pairwise (le:=fun x y=>decide (x<=y)=true) (fun x y _ _ h1 h2=>by
  simp only[decide_eq_true_eq]at h1 h2;omega) (uh a) (uh b) ((nZ a).trans (hp.trans (nZ b).symm))
theorem oB(m:List Int):m.flatMap au=m.map (Value.int .i64):=by
 induction m with
 |nil=>rfl
 |cons a l ih=>rw[Z8,ih];rfl
theorem Lp{w:World}{ek off n:Nat}{d:Array Int}{os:Array Obj}:aK (fun b=>b=ek) w (Sort.grow (putRow (Value.int .i64) (Sort.ahead w n) ek off d) os):=
 ⟨rfl,rfl,rfl,by
  show w.heap.size<=((w.heap.modify ek _)++os).size;simp,fun j hj hb=>by
  show((w.heap.modify ek _)++os)[j]?=_;rw[aba,if_pos (by simpa using hj),aaH,if_neg (fun e=>hb e.symm)]⟩
theorem Mr{w:World}{ek off n:Nat}{d:Array Int}{os:Array Obj}{c:Array Value}{e:TypeId}{fr:Nat×Nat}(h:w.heap[ek]?=some (.cells c e fr)) :
 (Sort.grow (putRow (Value.int .i64) (Sort.ahead w n) ek off d) os).heap[ek]?=some (.cells (putCells (Value.int .i64) off d c) e fr):=by
 show((w.heap.modify ek (onCells (putCells (Value.int .i64) off d)))++os)[ek]?=_;have hlt:ek<w.heap.size:=(Array.getElem?_eq_some_iff.1 h).1;rw[aba,if_pos (by simpa using hlt),aaH,if_pos rfl,h];rfl
def ph(P:Program)(f:FuncId):Prop:=(∀(ek off cap:Nat) (zs:List Int) (w:World),Holds (Value.int .i64) w ek off zs.toArray->ek<w.heap.size->zs.length<4611686018427387904 ->
 Calls P f #[.slice (some ⟨ek,off,none⟩) zs.length cap] w fun e w'=>e=.returned (.tuple #[])/\∃n os,w'=Sort.grow (putRow (Value.int .i64) (Sort.ahead w n) ek off (f9 zs).toArray) os) /\
 ∀(p:Option Addr) (cap:Nat) (w:World),Calls P f #[.slice p 0 cap] w fun e w'=>e=.returned (.tuple #[])/\w'=w
theorem Hz{P:Program}{f:FuncId}(hS:ph P f){W:XW}:aN P f [.slice none 0 0] W fun e W'=>e=.ret (.tuple #[])/\W'=W:=by
 intro ρ args' w mm hfr hH hA;cases hA with
 |cons _ x _ l' h1 h2=>
 cases h2;have hx:x=.slice none 0 0:=h1.of_flat 1 rfl;subst hx;refine CallsIn.mono (callsIn_wide.2 (hS.2 none 0 w)) fun en w' ⟨he,hw⟩=>?_
 subst he;subst hw;exact⟨_,_,⟨rfl,rfl⟩,ρ,dy.refl _ _ _ _,hH,.flat 1 _ rfl⟩
theorem FX{P:Program}{f:FuncId}(hS:ph P f){W:XW}{n:Nat}{m:List Int}{T:TypeId}(hm:m≠[])(hml:m.length<4611686018427387904)(hg:W.get n=some (.cells (m.flatMap au) T (0,0))) :
 aN P f [.slice (some ⟨n,0,none⟩) m.length aM] W fun e W'=>e=.ret (.tuple #[])/\W'=W.put n (some (.cells ((f9 m).flatMap au) T (0,0))):=by
 intro ρ args' w mm hfr hH hA;have hml0:0<m.length:=List.length_pos_iff.2 hm;cases hA with
 |cons _ x _ l' h1 h2=>
 cases h2;obtain⟨i,cap',hi,hx⟩:∃i cap',ρ n=some i/\x=.slice (some ⟨i.b,0+i.s,none⟩) m.length cap':=by
  generalize hs:Value.slice (some ⟨n,0,none⟩) m.length aM=s at h1;cases h1 with
  |flat k v h=>subst hs;cases k<;>simp[cb]at h
  |slice n o len cap i h hc=>cases hs;cases hc
  |sliceO n o len cap cap' i h hc hl hr hz=>cases hs;exact⟨i,cap',h,rfl⟩
  |sliceE n o cap a i h hc hr=>simp only[Value.slice.injEq]at hs;omega
  |sliceZ n o a i h=>simp only[Value.slice.injEq]at hs;omega
  |frz cs cs' len b off cap c' e fr hB hl hc h=>exact absurd hs (by simp[FZ])
  |frzE a cap=>exact absurd hs (by simp[FZ])
  |_=>cases hs
 subst hx;obtain⟨ob,hob,hor⟩:=hH.obj n i _ hi hg;cases hor with
 |cells _ _ _ c' fr' hz hr hk hl hv hf hq hmz=>
 have hlen:(m.flatMap au).length=i.r:=hr;rw[oB,aaq]at hlen;have hget:∀(l:List Int) (j:Nat) (v:Value),(l.flatMap au)[j]?=some v->cb 7 v=true:=fun l j v e=>by
  rw[oB]at e;obtain⟨a,_,rfl⟩:=List.mem_map.1 (aaC e);rfl
 have hold:Holds (Value.int .i64) w i.b (0+i.s) m.toArray:=fun j hj=>by
  rw[List.size_toArray]at hj;have he:(m.flatMap au)[j]?=some (.int .i64 m[j]):=by rw[oB,aaU,ZP hj];rfl
  obtain⟨v',q1,q2⟩:=hv j _ he;have q3:=q2.of_flat 7 (hget m j _ he);subst q3;refine⟨?_,?_⟩
  ·rw[cB hob,Nat.zero_add,q1];simp[hj]
  cases hfz:w.frozen? ⟨i.b,0+i.s+j,none⟩with
  |false=>rfl
  |true=>
   exfalso;unfold World.frozen? at hfz;rw[hob]at hfz;simp only[ZX,decide_eq_true_eq,Nat.zero_add]at hfz;have:=hf j (by omega) hfz.1 hfz.2;exact absurd this.2 (by simp)
 have hc:=hS.1 i.b (0+i.s) cap' m w hold (Array.getElem?_eq_some_iff.1 hob).1 hml;refine CallsIn.mono (callsIn_wide.2 hc) fun en w' ⟨he,nn,os,hw⟩=>?_
 subst he;subst hw;have hb':=Mr (off:=0+i.s) (n:=nn) (d:=(f9 m).toArray) (os:=os) hob;have hsl:=oH m;have hor':OR P ρ i (.cells ((f9 m).flatMap au) T (0,0)) (.cells (putCells (Value.int .i64) (0+i.s) (f9 m).toArray c') T fr'):=by
  refine .cells _ _ _ _ _ (by simpa[putCells]using hz) (by rw[oB,aaq];omega) hk hl (fun j v e=>?_) hf hq hmz;have hfl:=hget _ j v e;rw[oB,aaU]at e;have hjl:j<(f9 m).length:=by
   by_cases h:j<(f9 m).length
   ·exact h
   rw[aae (by omega)]at e;cases e
  rw[ZP hjl]at e;have e:Value.int .i64 (f9 m)[j]=v:=Option.some.inj e;refine⟨v,?_,.flat 7 v hfl⟩;have hlt:i.s+j<c'.size:=by omega
  unfold putCells;rw[Array.getElem?_mapIdx,aav hlt,ZW,if_pos ⟨by omega,by rw[List.size_toArray];omega⟩,show i.s+j-(0+i.s)=j by omega,<-e];simp[hjl]
 have hp:=hH.put hi (by rw[hg];simp) _ (Lp (off:=0+i.s) (n:=nn) (d:=(f9 m).toArray) (os:=os)) hb' hor';exact⟨_,_,⟨rfl,rfl⟩,ρ,hp.2,hp.1,.flat 1 _ rfl⟩
def XM(rs:fj)(e:cz)(W':XW):Prop:=e=.ret (cA 6 rs.length)/\W'.get 0=some (cT rs)/\W'.get 6=bN 3 ((f9 (mh rs)).flatMap au) rs.length/\W'.next<=20
theorem Df(hS:ph Tryz.prog 71)(rs:fj)(hn:rs.length<=1000000) :
 aN Tryz.prog 35 [vG] (wd [(0,some (cT rs)),(1,some oR)] 2 [] 0) (XM rs):=by
 refine be av Tryz.func35 rfl (Nat.le_of_ble_eq_true rfl) ?_;simp only[aY.eq_1,aY.eq_2,bf,Tryz.ntmps35,reduceAdd];refine ae (ac (e:=?e1) (s':=?s1) av ?h1 ?q1)
 case h1=>simp(disch:=decide) only[go_sem];all_goals rfl
 refine ae (cI ?_);refine aP av 1 (s1:=?sA) ?hA (fT (f:=70) (args:=[vG]) (S:=FU rs) (enters_of (by kernel_rfl)) rfl ?hxA ?hlA ?qA)
 case hA=>simp(disch:=decide) only[go_sem];all_goals rfl
 case hxA=>simp(disch:=decide) only[vG,go_sem]
 case hlA=>exact At rs hn
 intro e W' ⟨m,h1,h2,h3,h4,h6,h7⟩;refine⟨_,_,h3,dQ (by decide),?_⟩;refine ec (iF (L:=[(0,some (cT rs)),(6,bN 3 (m.flatMap au) m.length)]) (n':=20) (lg:=[]) (nl:=0) h7 fun n o e=>?_) ?_
 ·have hcases:=bX e;simp only[ZU,ZS,or_false,Prod.mk.injEq,Option.some.injEq]at hcases;rcases hcases with⟨rfl,rfl⟩|⟨rfl,hh⟩
  ·exact h4
  rw[hh];exact h6
 have hmk:f9 m=f9 (mh rs):=Em h1;refine aP av 1 (s1:=?sB) ?hB (cY ?qB)
 case hB=>simp(disch:=decide) only[go_sem];all_goals rfl
 refine ae (cI ?_);refine aP av 1 (s1:=?sC) ?hC ?qC
 case hC=>simp(disch:=decide) only[go_sem];all_goals rfl
 refine fT (f:=71) (args:=[cA 6 m.length])
  (S:=fun e W'=>e=.ret (.tuple #[])/\W'.get 0=some (cT rs)/\W'.get 6=bN 3 ((f9 m).flatMap au) m.length/\W'.next<=20) (enters_of (by kernel_rfl)) rfl ?hxD ?hlD ?qD
 case hxD=>simp(disch:=decide) only[go_sem]
 case hlD=>
  rcases m with _|⟨a,m'⟩
  ·refine aN.mono (Hz hS) fun e W' ⟨h1,h2⟩=>?_
   subst h2;exact⟨h1,rfl,rfl,Nat.le_refl _⟩
  have hne:(a::m')≠[]:=by simp
  refine aN.mono (FX hS (m:=a::m') (n:=6) (T:=3) hne (by omega) rfl) fun e W' ⟨h1,h2⟩=>?_
  subst h2;exact⟨h1,rfl,rfl,Nat.le_refl _⟩
 intro e W' ⟨he,h4,h6,h7⟩;refine⟨_,_,he,dQ (by decide),?_⟩;refine ec (iF (L:=[(0,some (cT rs)),(6,bN 3 ((f9 m).flatMap au) m.length)]) (n':=20) (lg:=[]) (nl:=0) h7 fun n o e=>?_) ?_
 ·have hcases:=bX e;simp only[ZU,ZS,or_false,Prod.mk.injEq,Option.some.injEq]at hcases;rcases hcases with⟨rfl,rfl⟩|⟨rfl,hh⟩
  ·exact h4
  rw[hh];exact h6
 refine cY ?_;refine ae (ac (e:=?e2) (s':=?s2) av ?h2 ?q2)
 case h2=>simp(disch:=decide) only[go_sem];all_goals rfl
 refine bh ?_;refine⟨_,?e3,?W3,rfl,?zh3,?zq3⟩
 case zh3=>simp(disch:=decide) only[Tryz.results35,go_sem];all_goals rfl
 refine⟨by rw[h2],?_,?_,?_⟩
 ·simp(disch:=decide) only[go_sem]
 ·simp(disch:=decide) only[<-hmk,<-h2,go_sem]
 exact Nat.le_refl _
open Go.Proofs.YthlkgmdkabelpaaGreat.St
structure Ny(l:List aC):Prop where
 len:l.length<=4000
 pos:∀x∈l,0<x.id
 dim:∀x∈l,0<=x.dim/\x.dim<=8
 few:∀x∈l,(ao x.sides).length<=64
 side:∀x∈l,∀s∈ao x.sides,(∃y∈l,y.id=s.1)/\(s.2=1\/s.2=-1)
theorem E9{by_:dD}:∀{l:List aC} {last:Int} {p:Int×Int},kT by_ last l=some p->p.2≠0
 |[],_,_,h=>by cases h
 |x::l,last,p,h=>by
  unfold kT at h;split at h
  ·cases h;show(20:Int)≠0;decide
  split at h
  ·rename_i h2;cases h;exact h2
  exact E9 h
theorem DL{by_:dD}:∀{l:List aC} {last:Int},kT by_ last l=none->0<=last->∀x∈l,0<x.id
 |[],_,_,_,x,hx=>by cases hx
 |y::l,last,h,h0,x,hx=>by
  unfold kT at h;split at h
  ·cases h
  rename_i h1;split at h
  ·cases h
  rcases List.mem_cons.1 hx with rfl|hx
  ·omega
  exact DL h (by omega) x hx
theorem Fl{k:Int}{y:aC}:∀{l:List aC} {by_:dD},(∀y,bz k by_=some y->y.id=k)->bz k (l.foldl p8 by_)=some y->y.id=k
 |[],by_,h0,h=>h0 y h
 |x::l,by_,h0,h=>by
  rw[aaR]at h;refine Fl (l:=l) (fun z hz=>?_) h;unfold p8 at hz;split at hz
  ·exact h0 z hz
  rw[lu]at hz;split at hz
  ·rename_i e;cases hz;exact e.symm
  exact h0 z hz
theorem Ca{by_:dD}{d:Int}:∀{l:List bC} {p:Option Int},jL by_ d p l=false->∀s∈l,∃y,bz s.1 by_=some y
 |[],_,_,s,hs=>by cases hs
 |t::l,p,h,s,hs=>by
  cases hg:bz t.1 by_ with
  |none=>rw[CI hg]at h;cases h
  |some y=>
   rw[qZ hg]at h;simp only[abc]at h;rcases List.mem_cons.1 hs with rfl|hs
   ·exact⟨y,hg⟩
   exact Ca h.2 s hs
theorem rH{by_:dD}{x:aC}(h:ez by_ x=0):(0<=x.dim/\x.dim<=8)/\jL by_ x.dim none (ao x.sides)=false/\pE (ao x.sides)=false:=by
 unfold ez at h;split at h
 ·contradiction
 rename_i h1;have h1:ld x=0:=Classical.byContradiction h1;refine⟨?_,?_⟩
 ·unfold ld at h1;split at h1
  ·cases h1
  omega
 split at h
 ·cases h
 rename_i h2;split at h
 ·cases h
 rename_i h3;exact⟨by simpa using h2,by simpa using h3⟩
theorem Bl{o:Option (List aC)}(h:(eh o).2=0):Ny (ao (dC o)):=by
 have hlen:(ao (dC o)).length=(ao o).length:=by
  unfold dC ao l4;cases o with
  |none=>rfl
  |some k=>simp[cZ]
 unfold eh at h;split at h
 ·cases h
 rename_i hl;simp only at h;generalize ao (dC o)=l at h hlen;have h1:kT (ig l) 0 l=none:=by
  cases hc:kT (ig l) 0 l with
  |none=>rfl
  |some p=>rw[hc]at h;exact absurd h (E9 hc)
 have hf:=fun x hx=>pq h1 x hx
 refine⟨by omega,DL h1 (Int.le_refl 0),fun x hx=>(rH (hf x hx)).1,fun x hx=>wx (hf x hx),fun x hx s hs=>⟨?_,?_⟩⟩
 ·obtain⟨y,hy⟩:=Ca (rH (hf x hx)).2.1 s hs;rcases vR (l:=l) (by_:=[]) (fun y h=>by cases h) hy with q|q
  ·exact⟨y,q,Fl (by_:=[]) (fun y h=>by cases h) hy⟩
  cases q
 have hb:=(rH (hf x hx)).2.2;unfold pE at hb;rw[aa8]at hb;have:=hb s hs;simp only[decide_eq_true_eq]at this;omega
def gT(x:aC):Int:=x.id.tdiv 16
def i9(l:List aC):fj:=l.foldl (fun rs x=>gD (gT x) x rs) []
structure wz(l:List aC)(n:Nat)(rs:fj):Prop where
 len:rs.length<=n
 mem:∀p∈rs,p.2.length<=n/\0<p.2.length/\∀x∈p.2,x∈l/\gT x=p.1
 nd:(rs.map (·.1)).Nodup
theorem zW{γ:Type}{k:Int}{b:γ}:∀{l:List (Int×γ)},(l.map (·.1)).Nodup->(k,b)∈l->bz k l=some b
 |[],_,h=>by cases h
 |x::l,hn,h=>by
  rw[aaG,List.nodup_cons]at hn;unfold bz;rcases List.mem_cons.1 h with e|h
  ·rw[<-e,if_pos rfl]
  rw[if_neg (fun e=>hn.1 (by rw[<-e];exact List.mem_map.2 ⟨(k,b),h,rfl⟩))];exact zW hn.2 h
theorem xj{γ:Type}{k:Int}{b:γ}:∀{l:List (Int×γ)},bz k l≠none->(cJ k b l).map (·.1)=l.map (·.1)
 |[],h=>absurd rfl h
 |x::l,h=>by
  unfold cJ;unfold bz at h;split
  ·rename_i e;rw[aaG,aaG,e]
  rename_i e;rw[if_neg e]at h;rw[aaG,aaG,xj h]
theorem Pd{β:Type}{k:Int}{x:β}{rs:List (Int×List β)}(h:(rs.map (·.1)).Nodup):((gD k x rs).map (·.1)).Nodup:=by
 unfold gD;cases hg:bz k rs with
 |none=>exact zH hg h
 |some b=>rw[xj (by rw[hg];simp)];exact h
theorem Fq{l:List aC}{n:Nat}{rs:fj}{x:aC}(h:wz l n rs)(hx:x∈l):wz l (n+1) (gD (gT x) x rs) where
 len:=by have:=h.len;unfold gD;rw[iO];split<;>omega
 mem:=fun p hp=>by
  unfold gD at hp;rcases rj hp with rfl|hp
  ·cases hg:bz (gT x) rs with
   |none=>
    refine⟨by simp,by simp,fun y hy=>?_⟩;have:y=x:=by simpa using hy
    subst this;exact⟨hx,rfl⟩
   |some b=>
    obtain⟨h1,h2,h3⟩:=h.mem _ (iK hg);simp only[aaJ]at h1 h2 h3 ⊢;refine⟨by rw[ZM];simp;exact h1,by rw[ZM];simp,fun y hy=>?_⟩;rcases List.mem_append.1 hy with hy|hy
    ·exact h3 y hy
    have:y=x:=by simpa using hy
    subst this;exact⟨hx,rfl⟩
  obtain⟨h1,h2,h3⟩:=h.mem p hp;exact⟨by omega,h2,h3⟩
 nd:=Pd h.nd
theorem Bk{l:List aC}:∀{m:List aC} {n:Nat} {rs:fj},(∀x∈m,x∈l)->wz l n rs->wz l (n+m.length) (m.foldl (fun rs x=>gD (gT x) x rs) rs)
 |[],n,rs,_,h=>h
 |x::m,n,rs,hm,h=>by
  rw[aaR,List.length_cons,show n+(m.length+1)=n+1+m.length by omega];exact Bk (fun y hy=>hm y (aal _ hy)) (Fq h (hm x aaf))
theorem yx(l:List aC):wz l l.length (i9 l):=by
 have:=Bk (l:=l) (m:=l) (n:=0) (rs:=[]) (fun x h=>h) ⟨Nat.le_refl _,fun p hp=>(by cases hp),aa2⟩;rw[Nat.zero_add]at this;exact this
theorem Ow{l:List aC}(hg:Ny l)(hb:∀x∈l,x.id<9223372036854775808){k:Int}{b:List aC}(hm:(k,b)∈i9 l):0<=k/\BO k.toNat b:=by
 obtain⟨h1,h2,h3⟩:=(yx l).mem _ hm;simp only at h1 h2 h3;have hk:∀x∈b,0<x.id/\x.id<9223372036854775808/\k=x.id/16:=fun x hx=>by
  obtain⟨g1,g2⟩:=h3 x hx;have h0:=hg.pos x g1;refine⟨h0,hb x g1,?_⟩;rw[<-g2];unfold gT;exact aa0 (by omega)
 obtain⟨x,hx⟩:∃x,x∈b:=by
  cases b with
  |nil=>exact absurd h2 (Nat.lt_irrefl 0)
  |cons x l=>exact⟨x,aaf⟩
 obtain⟨k1,k2,k3⟩:=hk x hx;refine⟨by omega,?_,by omega,fun y hy=>?_,fun y hy=>hg.dim y (h3 y hy).1,fun y hy=>hg.few y (h3 y hy).1,fun y hy s hs=>?_⟩
 ·have:=hg.len;omega
 ·obtain⟨j1,j2,j3⟩:=hk y hy;omega
 obtain⟨⟨z,hz,hzi⟩,hsg⟩:=hg.side y (h3 y hy).1 s hs;have:=hg.pos z hz;have:=hb z hz;exact⟨by omega,by omega,hsg⟩
def sP(b:Nat):Value:=.func (.func 72) #[] #[.pointer (some ⟨b,0,none⟩)]
def rP(m:Nat):bb:=.cells [.map (some m)] 76 (0,0)
theorem L4{rs rs':fj}(h:cT rs=cT rs'):rs=rs':=by
 have key:∀(l m:fj) (i j:Nat),bn (fun _ l=>al an (some l)) l i=bn (fun _ l=>al an (some l)) m j->l=m:=by
  intro l
  induction l with
  |nil=>intro m i j h;cases m with
   |nil=>rfl
   |cons a m=>cases h
  |cons a l ih=>
   intro m i j h;cases m with
   |nil=>cases h
   |cons b m=>
    unfold bn at h;injection h with h1 h2;injection h1 with h3 h4 _;injection h3 with _ h3;have h4:=fQ cD gP (by decide) h4;injection h4 with h4;have h3:a.1=b.1:=h3;rw[ih m _ _ h2,show a=b from Prod.ext h3 h4]
 unfold cT at h;injection h with h _;exact key _ _ _ _ h
open Classical in
noncomputable def uJ:HF:=fun args W=>match args with
 |[.map (some m)]=>if ∃rs:fj,W.get m=some (cT rs)then some (.ret (sP W.next),W.push (rP m))else none
 |_=>none
theorem OX{W:XW}{m:Nat}{rs:fj}(h:W.get m=some (cT rs)):uJ [.map (some m)] W=some (.ret (sP W.next),W.push (rP m)):=if_pos ⟨rs,h⟩
theorem Un:bD Tryz.prog 36 uJ:=by
 have inv:∀args W e W',uJ args W=some (e,W')->∃m rs,args=[.map (some m)]/\W.get m=some (cT rs)/\e=.ret (sP W.next)/\W'=W.push (rP m):=fun args W e W' h=>by
  unfold uJ at h;split at h
  ·rename_i m;split at h
   ·rename_i hx;obtain⟨rs,hx⟩:=hx;cases h;exact⟨m,rs,rfl,hx,rfl,rfl⟩
   cases h
  cases h
 refine⟨enters_of (by kernel_rfl),fun args W e W' h=>?_,fun args W e W' h=>?_⟩
 ·obtain⟨m,rs,rfl,hm,rfl,rfl⟩:=inv _ _ _ _ h;exact cK.push _ _
 obtain⟨m,rs,rfl,hm,rfl,rfl⟩:=inv _ _ _ _ h;have hmn:=cw hm;have t0:(fun n=>if n=m then some 0 else(none:Option Nat)) m=some 0:=if_pos rfl;refine mj (k:=1) (fun _=>m) (fun n=>if n=m then some 0 else none) rfl (fun a b h h' _=>by omega) (fun _ _=>hmn) (fun n a h=>?_) (fun a oL h=>?_) (ax (cq t0) aX) (F9 rs) fun eL WL' hq=>?_
 ·split at h
  ·rename_i q;cases h;exact⟨by decide,q.symm⟩
  cases h
 ·have ha:a<1:=cw h;obtain⟨_,h2⟩:=dV h;have:a=0:=by omega
  subst this;rw[ab]at h2;cases h2;exact⟨by decide,_,hm,fV _ _ ah⟩
 obtain⟨rfl,g0,g1,g2⟩:=hq;have s0:(fun a=>if a=0 then some m else if a=1 then some W.next else(none:Option Nat)) 0=some m:=if_pos rfl;have s1:(fun a=>if a=0 then some m else if a=1 then some W.next else(none:Option Nat)) 1=some W.next:=rfl;refine⟨fun a=>if a=0 then some m else if a=1 then some W.next else none,fun a x h=>?_,fun a a' x h h'=>?_,fun x o' h=>?_,?_,aaX _⟩
 ·split at h
  ·rename_i q;cases h;exact .inl ⟨by omega,rfl⟩
  split at h
  ·rename_i q;cases h;exact .inr ⟨by omega,Nat.le_refl _,aan _⟩
  cases h
 ·split at h
  ·split at h'
   ·omega
   split at h'
   ·cases h;cases h';omega
   cases h'
  split at h
  ·split at h'
   ·cases h;cases h';omega
   split at h'
   ·omega
   cases h'
  cases h
 ·rcases XW.get_push h with⟨rfl,rfl⟩|⟨q1,q2⟩
  ·exact .inl ⟨1,_,s1,g1,bJ (ax (cq s0) aX)⟩
  by_cases hxm:x=m
  ·subst hxm;rw[hm]at q2;cases q2;exact .inl ⟨0,_,s0,g0,fV _ _ ah⟩
  exact .inr ⟨q2,cw q2,fun a _=>fun e=>hxm e.symm⟩
 exact lJ (xs:=[]) (xs':=[]) (cs:=[.pointer (some ⟨1,0,none⟩)]) (cs':=[.pointer (some ⟨W.next,0,none⟩)]) aX (ax (ay s1) aX)
def wi(rs:fj)(W:XW)(b:Nat):XW:=match rs with
 |[]=>W.put b none
 |x::l=>(W.put b none).push (Bw (f9 (mh (x::l))))
open Classical in
noncomputable def mO:HF:=fun args W=>if h:∃b m,∃rs:fj,args=[sP b]/\W.get b=some (rP m)/\W.get m=some (cT rs)/\rs.length<=1000000 then some (.ret (cA W.next (Classical.choose (ZQ (ZQ h))).length),wi (Classical.choose (ZQ (ZQ h))) W (Classical.choose h))else none
theorem Kj{W:XW}{b m:Nat}{rs:fj}(h0:W.get b=some (rP m))(h1:W.get m=some (cT rs))(hn:rs.length<=1000000):mO [sP b] W=some (.ret (cA W.next rs.length),wi rs W b):=by
 have h:∃b' m',∃rs':fj,[sP b]=[sP b']/\W.get b'=some (rP m')/\W.get m'=some (cT rs')/\rs'.length<=1000000:=⟨b,m,rs,rfl,h0,h1,hn⟩;have e:mO [sP b] W=some (.ret (cA W.next (Classical.choose (ZQ (ZQ h))).length),wi (Classical.choose (ZQ (ZQ h))) W (Classical.choose h)):=dif_pos h;rw[e];obtain⟨q1,q2,q3,_⟩:=ZQ (ZQ (ZQ h));generalize Classical.choose (ZQ (ZQ h))=rs2 at q1 q2 q3 ⊢;generalize Classical.choose (ZQ h)=m2 at q1 q2 q3;generalize Classical.choose h=b2 at q1 q2 q3 ⊢;have hb:b=b2:=by unfold sP at q1;injection q1 with q1 _;injection q1 with _ _ q1;have:=congrArg Array.toList q1;simpa using this
 subst hb;rw[h0]at q2;have hm:m=m2:=by unfold rP at q2;injection q2 with q2;injection q2 with q2 _ _;injection q2 with q2 _;injection q2 with q2;exact Option.some.inj q2
 subst hm;rw[h1]at q3;rw[L4 (Option.some.inj q3)]
theorem MC(hS:ph Tryz.prog 71):bD Tryz.prog 35 mO:=by
 have inv:∀args W e W',mO args W=some (e,W')->∃b m rs,args=[sP b]/\W.get b=some (rP m)/\W.get m=some (cT rs)/\rs.length<=1000000/\e=.ret (cA W.next rs.length)/\W'=wi rs W b:=fun args W e W' h=>by
  unfold mO at h;split at h
  ·rename_i hx;cases h;obtain⟨q1,q2,q3,q4⟩:=ZQ (ZQ (ZQ hx));exact⟨_,_,_,q1,q2,q3,q4,rfl,rfl⟩
  cases h
 refine⟨enters_of (by kernel_rfl),fun args W e W' h=>?_,fun args W e W' h=>?_⟩
 ·obtain⟨b,m,rs,rfl,hb,hm,hn,rfl,rfl⟩:=inv _ _ _ _ h;cases rs with
  |nil=>exact cK.put _ _ _
  |cons x l=>exact(cK.put _ _ _).trans (cK.push _ _)
 obtain⟨b,m,rs,rfl,hb,hm,hn,rfl,rfl⟩:=inv _ _ _ _ h;have hmn:=cw hm;have hbn:=cw hb;have hbm:b≠m:=fun e=>by
  subst e;rw[hb]at hm;cases hm
 have t0:(fun n=>if n=m then some 0 else if n=b then some 1 else(none:Option Nat)) m=some 0:=if_pos rfl;have t1:(fun n=>if n=m then some 0 else if n=b then some 1 else(none:Option Nat)) b=some 1:=by simp only[if_neg hbm,if_pos]
 have hnx:(wi rs W b).next=if rs.length=0 then W.next else W.next+1:=by cases rs<;>rfl
 refine mj (k:=2) (fun a=>if a=0 then m else b) (fun n=>if n=m then some 0 else if n=b then some 1 else none) rfl (fun a a' h h' e=>?_) (fun a h=>?_) (fun n a h=>?_) (fun a oL h=>?_) (ax (lJ (xs:=[]) (xs':=[]) (cs:=[.pointer (some ⟨b,0,none⟩)]) (cs':=[.pointer (some ⟨1,0,none⟩)]) aX (ax (ay t1) aX)) aX) (Df hS rs hn) fun eL WL' hq=>?_
 ·have a1:a=0\/a=1:=by omega
  have a2:a'=0\/a'=1:=by omega
  rcases a1 with rfl|rfl<;>rcases a2 with rfl|rfl<;>simp at e ⊢
  ·exact hbm e.symm
  exact hbm e
 ·split
  ·exact hmn
  exact hbn
 ·split at h
  ·rename_i q;cases h;exact⟨by decide,q.symm⟩
  split at h
  ·rename_i q;cases h;exact⟨by decide,q.symm⟩
  cases h
 ·have ha:a<2:=cw h;obtain⟨_,h2⟩:=dV h;have:a=0\/a=1:=by omega
  rcases this with rfl|rfl
  ·rw[ab]at h2;cases h2;exact⟨by decide,_,hm,fV _ _ ah⟩
  rw[aa (by decide),ab]at h2;cases h2;exact⟨by decide,_,hb,bJ (ax (cq t0) aX)⟩
 obtain⟨rfl,g0,g6,g2⟩:=hq;have s0:(fun a=>if a=0 then some m else if a=6 then(if rs.length=0 then none else some W.next)else(none:Option Nat)) 0=some m:=if_pos rfl;refine⟨fun a=>if a=0 then some m else if a=6 then(if rs.length=0 then none else some W.next)else none,fun a x h=>?_,fun a a' x h h'=>?_,fun x o' h=>?_,?_,by rw[hnx];split<;>omega⟩
 ·rw[hnx];split at h
  ·rename_i q;cases h;exact .inl ⟨by omega,by rw[if_pos q]⟩
  split at h
  ·split at h
   ·cases h
   rename_i q0;cases h;rw[if_neg q0];exact .inr ⟨by omega,Nat.le_refl _,aan _⟩
  cases h
 ·have key:∀a x,(if a=0 then some m else if a=6 then(if rs.length=0 then none else some W.next)else(none:Option Nat))=some x->(a=0/\x=m)\/(a=6/\x=W.next):=fun a x h=>by
   split at h
   ·rename_i q;cases h;exact .inl ⟨q,rfl⟩
   split at h
   ·split at h
    ·cases h
    rename_i q _;cases h;exact .inr ⟨q,rfl⟩
   cases h
  have h1:=key _ _ h;have h2:=key _ _ h';omega
 ·have kept:∀o',(W.put b none).get x=some o'->(∃a o,(if a=0 then some m else if a=6 then(if rs.length=0 then none else some W.next)else(none:Option Nat))=some x/\WL'.get a=some o/\TO Tryz.prog (cM fun a=>if a=0 then some m else if a=6 then(if rs.length=0 then none else some W.next)else(none:Option Nat)) o o')\/(W.get x=some o'/\x<W.next/\∀a,a<2->(if a=0 then m else b)≠x):=fun o' h=>by
   rcases XW.get_put h with⟨_,z⟩|⟨q1,q2⟩
   ·cases z
   by_cases hxm:x=m
   ·subst hxm;rw[hm]at q2;cases q2;exact .inl ⟨0,_,rfl,g0,fV _ _ ah⟩
   refine .inr ⟨q2,cw q2,fun a _=>?_⟩;split
   ·exact fun e=>hxm e.symm
   exact fun e=>q1 e.symm
  cases rs with
  |nil=>exact kept o' h
  |cons y l=>
   rcases XW.get_push h with⟨rfl,rfl⟩|⟨q1,q2⟩
   ·exact .inl ⟨6,_,rfl,g6,aq ah (bc (br ba _))⟩
   exact kept o' q2
 cases rs with
 |nil=>exact ar 1 rfl
 |cons y l=>exact bI rfl
end Go.Proofs.YthlkgmdkabelpaaGreat.X
