/-
  Packed by program (tools/pack.py) out of the texts UR1 UR2 UR3 UR4 UR5. No condition.
-/
import Derived.Test.YthlkgmdkabelpaaGreatNI
set_option linter.all false
open Nat(reduceAdd reduceMul reduceSub)
namespace Go.Proofs.YthlkgmdkabelpaaGreat.X
open Go Go.RowKit
theorem ed{P:Program}{r:dI}{i:Nat}{u:List Nat}{us:List (Nat×dI)}{w:Option Bool}{t:TypeId}{x y:Operand}(ho:r.o.op=.indexAddr t x y)(hw:w=some true)(hu:(u.all fun n=>Nat.blt n r.s.W.next||Nat.ble r.s'.W.next n)=true)
 (hc:ij (dB P (P.underlying t) (ev r.s.fr x) (ev r.s.fr y))=true):px P r i u us w=true:=by
 subst hw;unfold px;rw[hu,ho];show(u.isEmpty||true&&(true&&ij (dB P (P.underlying t) (ev r.s.fr x) (ev r.s.fr y))||_))=true;rw[hc];simp
theorem jV{P:Program}{H:dX}{N k:Nat}{s:XS}{Q:XQ}(hB:dv P H){id:Nat}{ops:Array Oper}(S:XS)(h:∃s',lV P (eP P H 1) N none ops ops.toList s=some (.code .norm s')/\db P k s' S)(q:∀s',db P k s' S->Q .norm s'):bA P N k (.region id ops false) s Q:=by
 obtain⟨s',h1,h2⟩:=h;exact ac hB h1 (q s' h2)
theorem I9{P:Program}{H:dX}{N k:Nat}{s:XS}{Q:XQ}(hB:dv P H){id:Nat}{ops:Array Oper}(S:XS)(h:∃rs s',aE P (eP P H 1) N none ops ops.toList s=some (rs,s')/\o7 P ops s.ds.length rs=true/\db P k s' S)(q:∀s',db P k s' S->Q .norm s'):bA P N k (.region id ops true) s Q:=by
 obtain⟨rs,s',h1,h2,h3⟩:=h;exact fX hB h1 h2 (q s' h3)
abbrev OL:=Option (List Int)
def oO{α:Type}:List α->Option (List α)
 |[]=>none
 |x::l=>some (x::l)
theorem iz{α:Type}(l:List α):ao (oO l)=l:=by cases l<;>rfl
theorem ky{α:Type}{l:List α}(h:0<l.length):oO l=some l:=by
 cases l with
 |nil=>exact absurd h (Nat.lt_irrefl 0)
 |cons x l=>rfl
def tw:List (Nat×Option Value)->Prop
 |[]=>True
 |(_,v)::F=>(∀u,v=some u->dG u)/\tw F
theorem tw.mem:∀{F:List (Nat×Option Value)},tw F->∀t v,(t,some v)∈F->dG v
 |[],_,t,v,h=>by cases h
 |(t',v')::F,h,t,v,hp=>by
  rcases List.mem_cons.1 hp with e|hp
  ·cases e;exact h.1 v rfl
  exact tw.mem h.2 t v hp
theorem jq{v:Value}{F:List (Nat×Option Value)}{t:Nat}(h:dG v)(hs:tw F):tw ((t,some v)::F):=⟨fun u e=>by cases e;exact h,hs⟩
theorem cQ{k:IntKind}{n:Int}:dG (.int k n):=aG 1 rfl
theorem m3{b:Bool}:dG (.bool b):=aG 1 rfl
theorem Gb{P:Program}{F:List (Nat×Option Value)}{W:XW}{n':Nat}(hB:tw F):db P 0 ⟨aI F,W,[]⟩ ⟨aI F,wd [] n' [] 0,[]⟩:=
 qR (fun _=>none) (fun _=>none) (fun n m h=>by cases h) (fun m n h=>by cases h) (Z3 _) (fun t v h=>⟨v,h,hB.mem t v (bX (gS h)) _ ah⟩) (fun m o h=>by
  obtain⟨_,h2⟩:=dV h;rw[ag]at h2;cases h2) .nil
theorem pi{n:Nat}{c:List Value}{F:List (Nat×Option Value)}:∀{F':List (Nat×Option Value)},ai 511 F F'->jO (fl n c) F F'
 |[],_=>trivial
 |(t,some v)::F',h=>af h.1.1 h.1.2 bP (pi h.2)
 |(t,none)::F',h=>⟨fun w e=>(by cases e),pi (F':=F') h⟩
theorem i5{P:Program}{F F':List (Nat×Option Value)}{L:List (Nat×Option bb)}{n nl t x len cap n':Nat}{lg:List Nat}{α:Type}{g:α->List Value}{l:List α}{c:List Value}{e:TypeId}{fr:Nat×Nat}
 (ht:lk F t=some (.slice (some ⟨x,0,none⟩) len cap)) (h511:t<511) (hx:lk L x=some (.cells c e fr)) (hxn:x<n) (hn:n<16383) (hc:c=l.flatMap g) (hlen:len=l.length) (hcap:len<=cap)
 (hb:∀x,dt (g x)) (hF:ai 511 F F') (hB:tw F'):db P 0 ⟨aI F,wd L n lg nl,[]⟩ ⟨aI ((t,some (al g (some l)))::F'),wd [] n' [] 0,[]⟩:=by
 subst hc;refine(dH x (F':=(t,some (al g (some l)))::F') hx hxn hn (af h511 ht ?_ (pi hF)) [] (fun m o' h _=>?_) .nil).trans (Gb (jq (aB hb _) hB))
 ·have:=gz (n:=x) (o:=0) (len:=len) (cap:=cap) (c:=l.flatMap g) (q:=(l.flatMap g).length) hcap (fun h=>by
   rw[hlen]at h;rw[List.length_eq_zero_iff.1 h];rfl)
  rw[List.drop_zero,List.take_length,hlen]at this;rw[hlen];exact this
 by_cases e1:x=m
 ·subst e1;rw[ab]at h;cases h
 rw[aa e1,ag]at h;cases h
theorem sj{α:Type}{g:α->List Value}{m:Nat}(hl:∀x,(g x).length=m){o:Option (List α)}{k:Nat}(hk:k<=(ao o).length):∃v,sR g o (some k) (some (ao o).length)=some (.val (some v))/\lm v=some ((ao o).drop k).length/\(∀W,fg W m ((ao o).drop k).length v=some (((ao o).drop k).flatMap g))/\bk v=true:=by
 have hp:ao (pc o k (ao o).length)=(ao o).drop k:=by rw[H5,List.take_length]
 refine⟨al g (pc o k (ao o).length),?_,?_,fun W=>?_,bL _⟩
 ·show(bif Nat.ble k (ao o).length&&Nat.ble (ao o).length (ao o).length then val (al g (pc o k (ao o).length))else none)=_;rw[Nat.ble_eq_true_of_le hk,Nat.ble_eq_true_of_le (Nat.le_refl _)];rfl
 ·rw[oU,hp]
 have:=oY (W:=W) (g:=g) hl (pc o k (ao o).length);rw[hp]at this;exact this
theorem rX{α:Type}{g:α->List Value}{m:Nat}(hl:∀x,(g x).length=m){o:Option (List α)}{k:Nat}(hk:k<=(ao o).length):∃v,sR g o (some 0) (some k)=some (.val (some v))/\lm v=some k/\(∀W,fg W m k v=some (((ao o).take k).flatMap g))/\bk v=true:=by
 have hp:ao (pc o 0 k)=(ao o).take k:=by rw[H5,List.drop_zero]
 have hpl:((ao o).take k).length=k:=by rw[ZR,aai hk]
 refine⟨al g (pc o 0 k),?_,?_,fun W=>?_,bL _⟩
 ·show(bif Nat.ble 0 k&&Nat.ble k (ao o).length then val (al g (pc o 0 k))else none)=_;rw[Nat.ble_eq_true_of_le hk];rfl
 ·rw[oU,hp,hpl]
 have:=oY (W:=W) (g:=g) hl (pc o 0 k);rw[hp,hpl]at this;exact this
def tQ:List Int->List Int->Bool
 |x::a,y::b=>if x=y then tQ a b else decide (x<y)
 |_,_=>false
theorem Jb{x y:Int}{a b:List Int}:tQ (x::a) (y::b)=if x=y then tQ a b else decide (x<y):=rfl
def jH(a b:List Int):Bool:=if a.length=b.length then tQ a b else decide (a.length<b.length)
structure Tg where
 a:OL
 b:OL
 ha:(ao a).length<=1000000
 hb:(ao b).length<=1000000
def qa(p:Tg):List Value:=[al au p.a,al au p.b]
structure YS(a b:List Int) where
 i:Nat
 h:i<=a.length
 eq:tQ (a.drop i) (b.drop i)=tQ a b
set_option maxHeartbeats 2000000 in
theorem KU(p:Tg):aN Tryz.prog 98 (qa p) (wd [] 0 [] 0) fun e W'=>e=.ret (.bool (jH (ao p.a) (ao p.b))):=by
 obtain⟨a,b,ha,hb⟩:=p;simp only at ha hb ⊢;have hoa:bk (al au a)=true:=bL _;have hob:bk (al au b)=true:=bL _;have hla:∀W e,fm W (al au a) (some (.slice e))=some (.val (some (.int .i64 ((ao a).length:Int)))):=fun W e=>da _
 have hlb:∀W e,fm W (al au b) (some (.slice e))=some (.val (some (.int .i64 ((ao b).length:Int)))):=fun W e=>da _
 show aN _ _ [al au a,al au b] _ _;refine be av Tryz.func98 rfl (Nat.le_of_ble_eq_true rfl) ?_;simp only[aY.eq_1,aY.eq_2,bf,Tryz.ntmps98,reduceAdd];refine ae (ac (e:=?e1) (s':=?s1) av ?h1 ?q1)
 case h1=>simp(disch:=decide) only[hoa,hob,go_sem];all_goals rfl
 refine ae ?_;by_cases hne:(ao a).length=(ao b).length
 ·have hb1:(((ao a).length:Int) !=((ao b).length:Int))=false:=li (by rw[hne]);have hbe:jH (ao a) (ao b)=tQ (ao a) (ao b):=by unfold jH;rw[if_pos hne]
  rw[hbe];refine ae (ac (e:=?e2) (s':=?s2) av ?h2 ?q2)
  case h2=>simp(disch:=decide) only[hla,hlb,hb1,go_sem];all_goals rfl
  refine aO ?h3 ?q3
  case h3=>simp(disch:=decide) only[go_sem];all_goals rfl
  refine aH ?_;show bA _ _ _ _ _ _;refine ae ?_;refine ae (ac (e:=?e4) (s':=?s4) av ?h4 ?q4)
  case h4=>simp(disch:=decide) only[go_sem];all_goals rfl
  refine aD ?_;refine aU (s':=⟨aI [(0,some (al au a)),(1,some (al au b)),(5,some (.int .i64 (((0:Nat):Int):Int)))],wd [] 0 [] 0,[]⟩) (ak (by simp(disch:=decide) [ai,ab,aa,ag]) (by simp(disch:=decide) [ai,ab,aa,ag]) (by decide)) ?_;refine bw (α:=YS (ao a) (ao b)) (fun y=>⟨aI [(0,some (al au a)),(1,some (al au b)),(5,some (.int .i64 (y.i:Int)))],wd [] 0 [] 0,[]⟩) (fun y=>(ao a).length-y.i) ?_ ⟨0,Z3 _,rfl⟩;intro ⟨i,hi,heq⟩;simp only;by_cases hlt:i<(ao a).length
  ·have hlt2:i<(ao b).length:=by omega
   obtain⟨x,hx⟩:∃x,x=(ao a)[i]:=⟨_,rfl⟩;obtain⟨y,hy⟩:∃y,y=(ao b)[i]:=⟨_,rfl⟩;have hix:∀t,dB Tryz.prog (some (.slice 3)) (some (al au a)) (some (.int t ((i:Nat):Int)))=some (.val (some (FP [.int .i64 x]))):=fun t=>by rw[hx];exact kC hlt
   have hiy:∀t,dB Tryz.prog (some (.slice 3)) (some (al au b)) (some (.int t ((i:Nat):Int)))=some (.val (some (FP [.int .i64 y]))):=fun t=>by rw[hy];exact kC hlt2
   have hld:∀W a,fo Tryz.prog W 3 (FP [.int .i64 a])=some (.int .i64 a):=fun W a=>xF a
   have hda:(ao a).drop i=x::(ao a).drop (i+1):=by rw[hx];exact aac hlt
   have hdb:(ao b).drop i=y::(ao b).drop (i+1):=by rw[hy];exact aac hlt2
   rw[hda,hdb,Jb]at heq;refine ae ?_;refine ae (ac (e:=?e5) (s':=?s5) av ?h5 ?q5)
   case h5=>simp(disch:=decide) only[hla,go_sem];all_goals rfl
   refine aZ (by simp(disch:=first|decide|omega) only[go_sem]<;>with_reducible rfl) ?_;refine aH ?_;refine ae (aD ?_);refine bl av ⟨aI [(0,some (al au a)),(1,some (al au b)),(5,some (.int .i64 (i:Int))),(30,some (.bool (x !=y)))],wd [] 0 [] 0,[]⟩ ?hda ?qda
   case hda=>
    refine⟨?rsa,?sxa,?hxa,?kxa,?lxa⟩
    case hxa=>simp(disch:=decide) only[aE.eq_1,aE.eq_2,cm.eq_1,bd.eq_1,bd.eq_2,hix,hiy,hld,go_sem];all_goals rfl
    case kxa=>
     refine eK (by kernel_rfl) (by kernel_rfl) ?_
     repeat (refine cH (by first|(refine ed (by rfl) (by kernel_rfl) (by kernel_rfl) ?_;simp(disch:=decide) only[hix,hiy,ij.eq_1,cond_true,go_sem];done)|kernel_rfl) ?_)
     rfl
    case lxa=>exact ak (by simp(disch:=decide) [ai,ab,aa,ag]) (by simp(disch:=decide) [ai,ab,aa,ag]) (by decide)
   by_cases hxy:x=y
   ·rw[if_pos hxy]at heq;rw[li hxy];refine aO ?h7 ?q7
    case h7=>simp(disch:=decide) only[go_sem];all_goals rfl
    refine aH ?_;show bA _ _ _ _ _ _;refine ac av (by simp(disch:=first|decide|omega) only[go_sem]<;>with_reducible rfl) ?_;refine⟨⟨i+1,hlt,heq⟩,by simp only;omega,?_⟩;exact ak (by simp(disch:=decide) [ai,ab,aa,ag]) (by simp(disch:=decide) [ai,ab,aa,ag]) (by decide)
   rw[if_neg hxy]at heq;rw[jK hxy,<-heq];refine aZ ?h9 ?q9
   case h9=>simp(disch:=decide) only[go_sem];all_goals rfl
   refine bl av ⟨aI [(4,some (.bool (decide (x<y))))],wd [] 0 [] 0,[]⟩ ?hdb ?qdb
   case hdb=>
    refine⟨?rsb,?sxb,?hxb,?kxb,?lxb⟩
    case hxb=>simp(disch:=decide) only[aE.eq_1,aE.eq_2,cm.eq_1,bd.eq_1,bd.eq_2,hix,hiy,hld,go_sem];all_goals rfl
    case kxb=>
     refine eK (by kernel_rfl) (by kernel_rfl) ?_
     repeat (refine cH (by first|(refine ed (by rfl) (by kernel_rfl) (by kernel_rfl) ?_;simp(disch:=decide) only[hix,hiy,ij.eq_1,cond_true,go_sem];done)|kernel_rfl) ?_)
     rfl
    case lxb=>exact ak (by simp(disch:=decide) [ai,ab,aa,ag]) (by simp(disch:=decide) [ai,ab,aa,ag]) (by decide)
   refine bh ?_;refine⟨_,?e10,?W10,rfl,?h10,?q10⟩
   case h10=>simp(disch:=decide) only[Tryz.results98,go_sem];all_goals rfl
   rfl
  have hf:tQ (ao a) (ao b)=false:=by rw[<-heq,Z5 (by omega)];rfl
  refine ae ?_;refine ae (ac (e:=?e11) (s':=?s11) av ?h11 ?q11)
  case h11=>simp(disch:=decide) only[hla,go_sem];all_goals rfl
  refine aO (by simp(disch:=first|decide|omega) only[go_sem]<;>with_reducible rfl) ?_;refine bp ?_;show bA _ _ _ _ _ _;refine ae (ac (e:=?e13) (s':=?s13) av ?h13 ?q13)
  case h13=>simp(disch:=decide) only[go_sem];all_goals rfl
  refine bh ?_;refine⟨_,?e14,?W14,rfl,?h14,?q14⟩
  case h14=>simp(disch:=decide) only[Tryz.results98,go_sem];all_goals rfl
  rw[hf]
 have hb1:(((ao a).length:Int) !=((ao b).length:Int))=true:=jK (by omega);have hbe:jH (ao a) (ao b)=decide (((ao a).length:Int)<((ao b).length:Int)):=by unfold jH;rw[if_neg hne];exact decide_eq_decide.2 (by omega)
 rw[hbe];refine ae (ac (e:=?e15) (s':=?s15) av ?h15 ?q15)
 case h15=>simp(disch:=decide) only[hla,hlb,hb1,go_sem];all_goals rfl
 refine aZ ?h16 ?q16
 case h16=>simp(disch:=decide) only[go_sem];all_goals rfl
 refine ae (ac (e:=?e17) (s':=?s17) av ?h17 ?q17)
 case h17=>simp(disch:=decide) only[hla,hlb,go_sem];all_goals rfl
 refine bh ?_;refine⟨_,?e18,?W18,rfl,?h18,?q18⟩
 case h18=>simp(disch:=decide) only[Tryz.results98,go_sem];all_goals rfl
 rfl
theorem Q7{p q:Tg}(h:qa p=qa q):p.a=q.a/\p.b=q.b:=by
 unfold qa at h;injection h with h1 h2;injection h2 with h2 _;exact⟨fQ dA mB (by decide) h1,fQ dA mB (by decide) h2⟩
theorem Wd:bD Tryz.prog 98 (bu (cN qa fun p=>.bool (jH (ao p.a) (ao p.b)))):=fa (enters_of (by kernel_rfl)) (fun p=>aw (aB ba _) (aw (aB ba _) aQ)) (fun p=>aG 1 rfl) KU
theorem JA{a b:OL}{W:XW}(ha:(ao a).length<=1000000)(hb:(ao b).length<=1000000):bu (cN qa fun p=>.bool (jH (ao p.a) (ao p.b))) [al au a,al au b] W=some (.ret (.bool (jH (ao a) (ao b))),W):=eu (enc:=qa) (a:=⟨a,b,ha,hb⟩) fun q h=>by
 obtain⟨h1,h2⟩:=Q7 h;simp only at h1 h2 ⊢;rw[h1,h2]
def uA(all:List OL)(s:List Int)(lo hi:Nat):Nat:=
 if lo<hi then
  if jH (ao (all[(lo+hi)/2]?.getD none)) s then uA all s ((lo+hi)/2+1) hi else uA all s lo ((lo+hi)/2)
 else lo
termination_by hi-lo
decreasing_by all_goals omega
theorem DJ{all:List OL}{s:List Int}:∀(d lo hi:Nat),hi-lo<=d->lo<=hi->uA all s lo hi<=hi
 |0,lo,hi,hd,h=>by
  rw[uA,if_neg (by omega)];exact h
 |d+1,lo,hi,hd,h=>by
  rw[uA];split
  ·split
   ·exact DJ d _ _ (by omega) (by omega)
   exact Nat.le_trans (DJ d _ _ (by omega) (by omega)) (by omega)
  exact h
def nC(all:List OL)(s:List Int):Nat:=uA all s 0 all.length
def tk(all:List OL)(s:List Int):Bool:=decide (nC all s<all.length)&&!jH s (ao (all[nC all s]?.getD none))
theorem FG(all:List OL)(s:List Int):nC all s<=all.length:=DJ _ _ _ (Nat.le_refl _) (Z3 _)
structure R4 where
 o:Option (List OL)
 s:OL
 ho:(ao o).length<=1000000
 hs:(ao s).length<=1000000
 he:∀t∈ao o,(ao t).length<=1000000
def tH(p:R4):List Value:=[al bq p.o,al au p.s]
def Bj(p:R4):Value:=.tuple #[.int .i64 (nC (ao p.o) (ao p.s):Int),.bool (tk (ao p.o) (ao p.s))]
structure ZD(all:List OL)(s:List Int) where
 lo:Nat
 hi:Nat
 h:lo<=hi
 h2:hi<=all.length
 eq:uA all s lo hi=nC all s
noncomputable def SE:List (FuncId×HF):=[(98,bu (cN qa fun p=>.bool (jH (ao p.a) (ao p.b))))]
theorem jl:dv Tryz.prog (cE SE []):=⟨mixed,bU (.cons _ _ _ Wd .nil) .nil⟩
set_option maxHeartbeats 2000000 in
theorem MT(p:R4):aN Tryz.prog 60 (tH p) (wd [] 0 [] 0) fun e W'=>e=.ret (Bj p):=by
 obtain⟨o,s,ho,hs,he⟩:=p;have hoo:bk (al bq o)=true:=bL _;have hos:bk (al au s)=true:=bL _;have hlo:∀W e,fm W (al bq o) (some (.slice e))=some (.val (some (.int .i64 ((ao o).length:Int)))):=fun W e=>da _
 have hix:∀{i:Nat} (t:IntKind) (h:i<(ao o).length),dB Tryz.prog (some (.slice 35)) (some (al bq o)) (some (.int t ((i:Nat):Int)))=some (.val (some (FP [al au (ao o)[i]]))):=fun t h=>GY h
 have hld:∀W x,fo Tryz.prog W 35 (FP [al au x])=some (al au x):=fun W x=>Xg x
 show aN _ _ [al bq o,al au s] _ fun e W'=>e=.ret (.tuple #[.int .i64 (nC (ao o) (ao s):Int),.bool (tk (ao o) (ao s))])
 refine be jl Tryz.func60 rfl (Nat.le_of_ble_eq_true rfl) ?_;simp only[aY.eq_1,aY.eq_2,bf,Tryz.ntmps60,reduceAdd];refine ae (ac (e:=?e19) (s':=?s19) jl ?h19 ?q19)
 case h19=>simp(disch:=decide) only[hoo,hos,go_sem];all_goals rfl
 refine ae (ac (e:=?e20) (s':=?s20) jl ?h20 ?q20)
 case h20=>simp(disch:=decide) only[go_sem];all_goals rfl
 refine ae (ac (e:=?e21) (s':=?s21) jl ?h21 ?q21)
 case h21=>simp(disch:=decide) only[hlo,go_sem];all_goals rfl
 refine ae (aD ?_);refine aU (s':=⟨aI [(0,some (al bq o)),(1,some (al au s)),(6,some (.int .i64 (((0:Nat):Int):Int))),(7,some (.int .i64 ((ao o).length:Int)))],wd [] 0 [] 0,[]⟩) (ak (by simp(disch:=decide) [ai,ab,aa,ag]) (by simp(disch:=decide) [ai,ab,aa,ag]) (by decide)) ?_;refine bw (α:=ZD (ao o) (ao s)) (fun y=>⟨aI [(0,some (al bq o)),(1,some (al au s)),(6,some (.int .i64 (y.lo:Int))),(7,some (.int .i64 (y.hi:Int)))],wd [] 0 [] 0,[]⟩) (fun y=>y.hi-y.lo) ?_ ⟨0,(ao o).length,Z3 _,Nat.le_refl _,rfl⟩;intro ⟨lo,hi,h1,h2,heq⟩;simp only;by_cases hlt:lo<hi
 ·have hm:(lo+hi)/2<(ao o).length:=by omega
  rw[uA,if_pos hlt,ZP hm]at heq;have hix:=fun t=>hix t hm
  have hel:=he _ (aay hm);obtain⟨x,hx⟩:∃x,x=(ao o)[(lo+hi)/2]:=⟨_,rfl⟩;rw[<-hx]at hix hel;rw[<-hx]at heq;obtain⟨m,hmm⟩:∃m,m=(lo+hi)/2:=⟨_,rfl⟩;rw[<-hmm]at hix heq hm;have heq:(if jH (ao x) (ao s)=true then uA (ao o) (ao s) (m+1) hi else uA (ao o) (ao s) lo m)=nC (ao o) (ao s):=heq;have hg:∀W,bu (cN qa fun p=>.bool (jH (ao p.a) (ao p.b))) [al au x,al au s] W=some (.ret (.bool (jH (ao x) (ao s))),W):=fun W=>JA hel hs
  have hox:bk (al au x)=true:=bL _;refine ae ?_;refine ae (ac jl (by simp(disch:=first|decide|omega) only[go_sem]<;>with_reducible rfl) ?_);refine aZ (by simp(disch:=first|decide|omega) only[go_sem]<;>with_reducible rfl) ?_;refine aH ?_;refine aD ?_;refine ae (ac jl (by simp(disch:=first|decide|omega) only[<-hmm,go_sem]<;>with_reducible rfl) ?_);refine ae (ac jl (by simp(disch:=first|decide|omega) only[hix,hld,SE,hg,hox,hos,go_sem]<;>with_reducible rfl) ?_);cases hb:jH (ao x) (ao s)with
  |true=>
   rw[if_pos hb]at heq;refine aZ ?h26 ?q26
   case h26=>simp(disch:=decide) only[go_sem];all_goals rfl
   refine ac jl (by simp(disch:=first|decide|omega) only[go_sem]<;>with_reducible rfl) ?_;refine⟨⟨m+1,hi,by omega,h2,heq⟩,by simp only;omega,?_⟩;exact ak (by simp(disch:=decide) [ai,ab,aa,ag]) (by simp(disch:=decide) [ai,ab,aa,ag]) (by decide)
  |false=>
   rw[if_neg (by rw[hb];simp)]at heq;refine aO ?h28 ?q28
   case h28=>simp(disch:=decide) only[go_sem];all_goals rfl
   refine ac (e:=?e29) (s':=?s29) jl ?h29 ?q29
   case h29=>simp(disch:=decide) only[go_sem];all_goals rfl
   refine⟨⟨lo,m,by omega,by omega,heq⟩,by simp only;omega,?_⟩;exact ak (by simp(disch:=decide) [ai,ab,aa,ag]) (by simp(disch:=decide) [ai,ab,aa,ag]) (by decide)
 rw[uA,if_neg hlt]at heq;refine ae ?_;refine ae (ac (e:=?e30) (s':=?s30) jl ?h30 ?q30)
 case h30=>simp(disch:=decide) only[go_sem];all_goals rfl
 refine aO (by simp(disch:=first|decide|omega) only[go_sem]<;>with_reducible rfl) ?_;refine bp ?_;show bA _ _ _ _ _ _;have hpb:tk (ao o) (ao s)=(decide (lo<(ao o).length)&&!jH (ao s) (ao ((ao o)[lo]?.getD none))):=by unfold tk;rw[<-heq]
 rw[hpb,<-heq];by_cases hl2:lo<(ao o).length
 ·have hix:=fun t=>hix t hl2
  have hel:=he _ (aay hl2);rw[ZP hl2,decide_eq_true hl2];obtain⟨x,hx⟩:∃x,x=(ao o)[lo]:=⟨_,rfl⟩;rw[<-hx]at hix hel ⊢;have hg:∀W,bu (cN qa fun p=>.bool (jH (ao p.a) (ao p.b))) [al au s,al au x] W=some (.ret (.bool (jH (ao s) (ao x))),W):=fun W=>JA hs hel
  have hox:bk (al au x)=true:=bL _;refine ae (ac jl (by simp(disch:=first|decide|omega) only[hlo,hix,hld,SE,hg,hox,hos,go_sem]<;>with_reducible rfl) ?_);refine bh ?_;refine⟨_,?e33,?W33,rfl,?h33,?q33⟩
  case h33=>simp(disch:=decide) only[Tryz.results60,go_sem]<;>with_reducible rfl
  rfl
 rw[decide_eq_false hl2];refine ae (ac jl (by simp(disch:=first|decide|omega) only[hlo,go_sem]<;>with_reducible rfl) ?_);refine bh ?_;refine⟨_,?e35,?W35,rfl,?h35,?q35⟩
 case h35=>simp(disch:=decide) only[Tryz.results60,go_sem];all_goals rfl
 rfl
theorem IB{a b:Option (List OL)}(h:al bq a=al bq b):a=b:=fQ iL Ma (by decide) h
theorem WY:bD Tryz.prog 60 (bu (cN tH Bj)):=fa (enters_of (by kernel_rfl)) (fun p=>aw (aB bV _) (aw (aB ba _) aQ)) (fun p=>fp (aw (aG 1 rfl) (aw (aG 1 rfl) aQ))) MT
theorem It{o:Option (List OL)}{s:OL}{W:XW}(ho:(ao o).length<=1000000)(hs:(ao s).length<=1000000)(he:∀t∈ao o,(ao t).length<=1000000):bu (cN tH Bj) [al bq o,al au s] W=some (.ret (.tuple #[.int .i64 (nC (ao o) (ao s):Int),.bool (tk (ao o) (ao s))]),W):=eu (enc:=tH) (a:=⟨o,s,ho,hs,he⟩) fun q h=>by
 unfold tH at h;injection h with h1 h2;injection h2 with h2 _;have h1:=IB h1;have h2:=fQ dA mB (by decide) h2;unfold Bj;simp only at h1 h2;rw[h1,h2]
def nG(x:Int):List Int->Nat
 |[]=>0
 |y::l=>if y<x then nG x l+1 else 0
theorem KC{x y:Int}{l:List Int}:nG x (y::l)=if y<x then nG x l+1 else 0:=rfl
theorem x3(x:Int):∀l,nG x l<=l.length
 |[]=>Nat.le_refl _
 |y::l=>by
  unfold nG;split
  ·rw[List.length_cons];have:=x3 x l;omega
  exact Z3 _
def tN(x:Int)(out:List Int):List Int:=out.take (nG x out)++x::out.drop (nG x out)
def pW:List Int->List Int->Option (List Int)
 |[],out=>some out
 |x::l,out=>if out[nG x out]?=some x then pW l out else if x<0\/9<(tN x out).length then none else pW l (tN x out)
theorem zN{x:Int}{l out:List Int}:pW (x::l) out=if out[nG x out]?=some x then pW l out else if x<0\/9<(tN x out).length then none else pW l (tN x out):=rfl
def mg(l:List Int):Value:=match pW l []with
 |some out=>.tuple #[al au (oO out),.bool true]
 |none=>.tuple #[.slice none 0 0,.bool false]
structure YR(x:Int)(out:List Int) where
 k:Nat
 h:k<=out.length
 eq:k+nG x (out.drop k)=nG x out
structure ZJ(l:List Int) where
 i:Nat
 out:List Int
 h:i<=l.length
 le:out.length<=9
 eq:pW (l.drop i) out=pW l []
theorem L7{x:Int}{out:List Int}:(tN x out).length=out.length+1:=by
 unfold tN;have:=x3 x out;rw[ZM,List.length_cons,ZR,ZV];omega
structure Xu where
 a:OL
 h:(ao a).length<=1000000
def vL(p:Xu):List Value:=[al au p.a]
set_option maxHeartbeats 4000000 in
theorem Ng(p:Xu):aN Tryz.prog 59 (vL p) (wd [] 0 [] 0) fun e W'=>e=.ret (mg (ao p.a)):=by
 obtain⟨a,ha⟩:=p;simp only at ha ⊢;have hoa:bk (al au a)=true:=bL _;have hla:∀W e,fm W (al au a) (some (.slice e))=some (.val (some (.int .i64 ((ao a).length:Int)))):=fun W e=>da _
 have hld:∀W a,fo Tryz.prog W 3 (FP [.int .i64 a])=some (.int .i64 a):=fun W a=>xF a
 show aN _ _ [al au a] _ _;refine be av Tryz.func59 rfl (Nat.le_of_ble_eq_true rfl) ?_;simp only[aY.eq_1,aY.eq_2,bf,Tryz.ntmps59,reduceAdd];refine ae (ac (e:=?e1) (s':=?s1) av ?h1 ?q1)
 case h1=>simp(disch:=decide) only[hoa,go_sem];all_goals rfl
 refine ae (ac (e:=?e2) (s':=?s2) av ?h2 ?q2)
 case h2=>simp(disch:=decide) only[go_sem];all_goals rfl
 refine ae ?_;refine ae (ac (e:=?e3) (s':=?s3) av ?h3 ?q3)
 case h3=>simp(disch:=decide) only[go_sem];all_goals rfl
 refine aD ?_;refine aU (s':=⟨aI [(0,some (al au a)),(4,some (.slice none 0 0)),(5,some (.int .i64 (((0:Nat):Int):Int)))],wd [] 0 [] 0,[]⟩) (ak (by simp(disch:=decide) [ai,ab,aa,ag]) (by simp(disch:=decide) [ai,ab,aa,ag]) (by decide)) ?_;refine bw (α:=ZJ (ao a)) (fun y=>⟨aI [(0,some (al au a)),(4,some (al au (oO y.out))),(5,some (.int .i64 (y.i:Int)))],wd [] 0 [] 0,[]⟩) (fun y=>(ao a).length-y.i) ?_ ⟨0,[],Z3 _,Z3 _,rfl⟩;intro ⟨i,out,hi,hle,heq⟩;simp only;obtain⟨o,hoe⟩:∃o,o=oO out:=⟨_,rfl⟩;have hlst:ao o=out:=by rw[hoe,iz]
 rw[<-hoe];have hoo:bk (al au o)=true:=bL _;have hlo:∀W e,fm W (al au o) (some (.slice e))=some (.val (some (.int .i64 ((ao o).length:Int)))):=fun W e=>da _
 rw[<-hlst]at heq hle;by_cases hlt:i<(ao a).length
 ·obtain⟨x,hx⟩:∃x,x=(ao a)[i]:=⟨_,rfl⟩;have hix:∀t,dB Tryz.prog (some (.slice 3)) (some (al au a)) (some (.int t ((i:Nat):Int)))=some (.val (some (FP [.int .i64 x]))):=fun t=>by rw[hx];exact kC hlt
  have hda:(ao a).drop i=x::(ao a).drop (i+1):=by rw[hx];exact aac hlt
  rw[hda,zN]at heq;obtain⟨p,hp⟩:∃p,p=nG x (ao o):=⟨_,rfl⟩;have hple:p<=(ao o).length:=by rw[hp];exact x3 _ _
  refine ae ?_;refine ae (ac (e:=?e4) (s':=?s4) av ?h4 ?q4)
  case h4=>simp(disch:=decide) only[hla,go_sem];all_goals rfl
  refine aZ (by simp(disch:=first|decide|omega) only[go_sem]<;>with_reducible rfl) ?_;refine aH ?_;refine ae (aD ?_);refine ae (ac av (by simp(disch:=decide) only[go_sem]<;>with_reducible rfl) ?_);refine jy ⟨aI [(0,some (al au a)),(4,some (al au o)),(5,some (.int .i64 (i:Int))),(6,some (.int .i64 (p:Int)))],wd [] 0 [] 0,[]⟩ ?lp ?aft
  case lp=>
   refine aD ?_;refine aU (s':=⟨aI [(0,some (al au a)),(4,some (al au o)),(5,some (.int .i64 (i:Int))),(6,some (.int .i64 (((0:Nat):Int):Int)))],wd [] 0 [] 0,[]⟩) (ak (by simp(disch:=decide) [ai,ab,aa,ag]) (by simp(disch:=decide) [ai,ab,aa,ag]) (by decide)) ?_;refine bw (α:=YR x (ao o)) (fun y=>⟨aI [(0,some (al au a)),(4,some (al au o)),(5,some (.int .i64 (i:Int))),(6,some (.int .i64 (y.k:Int)))],wd [] 0 [] 0,[]⟩) (fun y=>(ao o).length-y.k) ?_ ⟨0,Z3 _,by simp⟩;intro ⟨k,hk,hke⟩;simp only;rw[<-hp]at hke;refine ae ?_;by_cases hkl:k<(ao o).length
   ·obtain⟨y,hy⟩:∃y,y=(ao o)[k]:=⟨_,rfl⟩;have hiy:∀t,dB Tryz.prog (some (.slice 3)) (some (al au o)) (some (.int t ((k:Nat):Int)))=some (.val (some (FP [.int .i64 y]))):=fun t=>by rw[hy];exact kC hkl
    have hdk:(ao o).drop k=y::(ao o).drop (k+1):=by rw[hy];exact aac hkl
    rw[hdk,KC]at hke;refine bl av ⟨aI [(0,some (al au a)),(4,some (al au o)),(5,some (.int .i64 (i:Int))),(6,some (.int .i64 (k:Int))),(28,some (.bool (decide (y<x))))],wd [] 0 [] 0,[]⟩ ?hda ?qda
    case hda=>
     refine⟨?rsa,?sxa,?hxa,?kxa,?lxa⟩
     case hxa=>simp(disch:=first|decide|omega) only[aE.eq_1,aE.eq_2,cm.eq_1,bd.eq_1,bd.eq_2,hlo,hix,hiy,hld,go_sem]<;>with_reducible rfl
     case kxa=>
      refine eK (by kernel_rfl) (by kernel_rfl) ?_
      repeat (refine cH (by first|(refine ed (by with_reducible rfl) (by kernel_rfl) (by kernel_rfl) ?_;simp(disch:=first|decide|omega) only[hix,hiy,ij.eq_1,cond_true,go_sem];done)|kernel_rfl) ?_)
      rfl
     case lxa=>exact ak (by simp(disch:=decide) [ai,ab,aa,ag]) (by simp(disch:=decide) [ai,ab,aa,ag]) (by decide)
    by_cases hyx:y<x
    ·rw[if_pos hyx]at hke;rw[decide_eq_true hyx];refine aZ ?h7 ?q7
     case h7=>simp(disch:=decide) only[go_sem];all_goals rfl
     refine aH ?_;refine aD ?_;refine ac av (by simp(disch:=first|decide|omega) only[go_sem]<;>with_reducible rfl) ?_;refine⟨⟨k+1,hkl,by omega⟩,by simp only;omega,?_⟩;exact ak (by simp(disch:=decide) [ai,ab,aa,ag]) (by simp(disch:=decide) [ai,ab,aa,ag]) (by decide)
    rw[if_neg hyx]at hke;rw[decide_eq_false hyx];refine aO (by simp(disch:=decide) only[go_sem]<;>with_reducible rfl) ?_;refine bp ?_;refine⟨rfl,?_⟩;have hkp:k=p:=by omega
    subst hkp;exact ak (by simp(disch:=decide) [ai,ab,aa,ag]) (by simp(disch:=decide) [ai,ab,aa,ag]) (by decide)
   rw[Z5 (by omega)]at hke;have hkp:k=p:=hke;refine bl av ⟨aI [(0,some (al au a)),(4,some (al au o)),(5,some (.int .i64 (i:Int))),(6,some (.int .i64 (k:Int))),(28,some (.bool false))],wd [] 0 [] 0,[]⟩ ?hdb ?qdb
   case hdb=>
    refine⟨?rsb,?sxb,?hxb,?kxb,?lxb⟩
    case hxb=>simp(disch:=first|decide|omega) only[aE.eq_1,aE.eq_2,cm.eq_1,bd.eq_1,bd.eq_2,hlo,hix,hld,go_sem]<;>with_reducible rfl
    case kxb=>
     refine eK (by kernel_rfl) (by kernel_rfl) ?_
     repeat (refine cH (by first|(refine ed (by with_reducible rfl) (by kernel_rfl) (by kernel_rfl) ?_;simp(disch:=first|decide|omega) only[hix,ij.eq_1,cond_true,go_sem];done)|kernel_rfl) ?_)
     rfl
    case lxb=>exact ak (by simp(disch:=decide) [ai,ab,aa,ag]) (by simp(disch:=decide) [ai,ab,aa,ag]) (by decide)
   refine aO (by simp(disch:=first|decide|omega) only[go_sem]<;>with_reducible rfl) ?_;refine bp ?_;refine⟨rfl,?_⟩;subst hkp;exact ak (by simp(disch:=decide) [ai,ab,aa,ag]) (by simp(disch:=decide) [ai,ab,aa,ag]) (by decide)
  rw[<-hp]at heq;refine ae ?_;refine bl av ⟨aI [(0,some (al au a)),(4,some (al au o)),(5,some (.int .i64 (i:Int))),(6,some (.int .i64 (p:Int))),(45,some (.bool (decide ((ao o)[p]?=some x))))],wd [] 0 [] 0,[]⟩ ?hdc ?qdc
  case hdc=>
   by_cases hpl:p<(ao o).length
   ·obtain⟨y,hy⟩:∃y,y=(ao o)[p]:=⟨_,rfl⟩;have hiy:∀t,dB Tryz.prog (some (.slice 3)) (some (al au o)) (some (.int t ((p:Nat):Int)))=some (.val (some (FP [.int .i64 y]))):=fun t=>by rw[hy];exact kC hpl
    have hde:decide ((ao o)[p]?=some x)=(y==x):=by
     rw[ZP hpl,<-hy];by_cases e:y=x
     ·rw[AL e];exact decide_eq_true (by rw[e])
     rw[AR e];exact decide_eq_false (fun q=>e (Option.some.inj q))
    rw[hde];refine⟨?rsc,?sxc,?hxc,?kxc,?lxc⟩
    case hxc=>simp(disch:=first|decide|omega) only[aE.eq_1,aE.eq_2,cm.eq_1,bd.eq_1,bd.eq_2,hlo,hix,hiy,hld,go_sem]<;>with_reducible rfl
    case kxc=>
     refine eK (by kernel_rfl) (by kernel_rfl) ?_
     repeat (refine cH (by first|(refine ed (by with_reducible rfl) (by kernel_rfl) (by kernel_rfl) ?_;simp(disch:=first|decide|omega) only[hix,hiy,ij.eq_1,cond_true,go_sem];done)|kernel_rfl) ?_)
     rfl
    case lxc=>exact ak (by simp(disch:=decide) [ai,ab,aa,ag]) (by simp(disch:=decide) [ai,ab,aa,ag]) (by decide)
   have hde:decide ((ao o)[p]?=some x)=false:=by rw[aae (by omega)];rfl
   rw[hde];refine⟨?rsd,?sxd,?hxd,?kxd,?lxd⟩
   case hxd=>simp(disch:=first|decide|omega) only[aE.eq_1,aE.eq_2,cm.eq_1,bd.eq_1,bd.eq_2,hlo,hix,hld,go_sem]<;>with_reducible rfl
   case kxd=>
    refine eK (by kernel_rfl) (by kernel_rfl) ?_
    repeat (refine cH (by first|(refine ed (by with_reducible rfl) (by kernel_rfl) (by kernel_rfl) ?_;simp(disch:=first|decide|omega) only[hix,ij.eq_1,cond_true,go_sem];done)|kernel_rfl) ?_)
    rfl
   case lxd=>exact ak (by simp(disch:=decide) [ai,ab,aa,ag]) (by simp(disch:=decide) [ai,ab,aa,ag]) (by decide)
  by_cases hit:(ao o)[p]?=some x
  ·rw[if_pos hit]at heq;rw[decide_eq_true hit];refine aZ ?h11 ?q11
   case h11=>simp(disch:=decide) only[go_sem];all_goals rfl
   refine bp ?_;show bA _ _ _ _ _ _;refine ac av (by simp(disch:=first|decide|omega) only[go_sem]<;>with_reducible rfl) ?_;refine⟨⟨i+1,ao o,hlt,hle,heq⟩,by simp only;omega,?_⟩;simp only;rw[hlst,<-hoe];exact ak (by simp(disch:=decide) [ai,ab,aa,ag]) (by simp(disch:=decide) [ai,ab,aa,ag]) (by decide)
  rw[if_neg hit]at heq;rw[decide_eq_false hit];refine aO ?h13 ?q13
  case h13=>simp(disch:=decide) only[go_sem];all_goals rfl
  refine aH ?_;show bA _ _ _ _ _ _;obtain⟨v1,hv1,hl1,hs1,ho1⟩:=sj (g:=au) (m:=1) dA (o:=o) (k:=p) hple;obtain⟨v2,hv2,hl2,hs2,ho2⟩:=rX (g:=au) (m:=1) dA (o:=o) (k:=p) hple;obtain⟨n1,hn1⟩:∃n,n=((ao o).drop p).length:=⟨_,rfl⟩;obtain⟨c1,hc1⟩:∃c,c=((ao o).drop p).flatMap au:=⟨_,rfl⟩;obtain⟨c2,hc2⟩:∃c,c=((ao o).take p).flatMap au:=⟨_,rfl⟩;rw[<-hn1]at hl1 hs1;rw[<-hc1]at hs1;rw[<-hc2]at hs2;have hcl1:c1.length=n1*1:=by rw[hc1,hn1];exact dF dA _
  have hcl2:c2.length=p*1:=by rw[hc2,dF dA,ZR,aai hple]
  have hca1:c1.all bk=true:=by rw[hc1];exact nH _
  have hca2:c2.all bk=true:=by rw[hc2];exact nH _
  have hnb:n1<=(ao o).length:=by rw[hn1,ZV];omega
  have hpcs:∀(fr:XF) (W:XW) (lo hi:Option Operand),fy Tryz.prog fr W (al au o) lo hi none (some (.slice 3))=sR au o (cG fr 0 lo) (cG fr (ao o).length hi):=fun fr W lo hi=>S4 o
  refine bl av ⟨aI ((7,some (al au (some (x::(ao o).drop p))))::[(0,some (al au a)),(4,some (al au o)),(5,some (.int .i64 (i:Int))),(6,some (.int .i64 (p:Int)))]),wd [] 0 [] 0,[]⟩ ?hde ?qde
  case hde=>
   by_cases hn0:n1=0
   ·have hd0:(ao o).drop p=[]:=List.length_eq_zero_iff.1 (by rw[<-hn1,hn0]);have hc0:c1=[]:=by rw[hc1,hd0];rfl
    have hcl1z:c1.length=0:=by rw[hc0];rfl
    rw[hn0]at hl1 hs1;refine⟨?rsea,?sxea,?hxea,?kxea,?lxea⟩
    case hxea=>simp(disch:=decide) only[aE.eq_1,aE.eq_2,cm.eq_1,bd.eq_1,bd.eq_2,hix,hld,hpcs,hv1,hl1,hs1,hca1,ho1,hcl1z,show bm 1=false from rfl,ZW,Z6,show bm 0=false from rfl,ZV,ZR,ZY,aad,aab,Z9,go_sem];all_goals rfl
    case kxea=>
     refine eK (by kernel_rfl) (by kernel_rfl) ?_
     repeat (refine cH (by first|(refine ed (by with_reducible rfl) (by kernel_rfl) (by kernel_rfl) ?_;simp(disch:=first|decide|omega) only[hix,ij.eq_1,cond_true,go_sem];done)|kernel_rfl) ?_)
     rfl
    exact i5 (t:=7) (x:=0) (len:=1) (cap:=1) (l:=x::(ao o).drop p) (c:=[.int .i64 x]) (by simp(disch:=first|decide|omega) only[ab,aa]) (by decide) (by simp(disch:=first|decide|omega) only[ab,aa]<;>rfl) (by decide) (by decide) (by rw[hd0];rfl) (by rw[hd0];rfl) (Nat.le_refl _) ba (by simp(disch:=decide) [ai,ab,aa,ag]) (jq (aB ba _) (jq (aB ba _) (jq cQ (jq cQ trivial))))
   have hn1p:0<n1:=by omega
   refine⟨?rseb,?sxeb,?hxeb,?kxeb,?lxeb⟩
   case hxeb=>simp(disch:=first|decide|omega) only[aE.eq_1,aE.eq_2,cm.eq_1,bd.eq_1,bd.eq_2,hix,hld,hpcs,hv1,hl1,hs1,hca1,ho1,hcl1,show bm 1=false from rfl,aak,ZW,Z6,show bm 0=false from rfl,ZV,ZR,ZY,aad,aab,Z9,go_sem]<;>with_reducible rfl
   case kxeb=>
    refine eK (by kernel_rfl) (by kernel_rfl) ?_
    repeat (refine cH (by first|(refine ed (by with_reducible rfl) (by kernel_rfl) (by kernel_rfl) ?_;simp(disch:=first|decide|omega) only[hix,ij.eq_1,cond_true,go_sem];done)|kernel_rfl) ?_)
    rfl
   exact i5 (t:=7) (x:=1) (len:=(1+n1)) (cap:=aM) (l:=x::(ao o).drop p) (c:=[.int .i64 x]++c1) (by simp(disch:=first|decide|omega) only[ab,aa]) (by decide) (by simp(disch:=first|decide|omega) only[ab,aa]<;>rfl) (by decide) (by decide) (by rw[hc1];rfl) (by rw[List.length_cons,<-hn1];omega) (by show _<=4611686018427387904;omega) ba (by simp(disch:=decide) [ai,ab,aa,ag]) (jq (aB ba _) (jq (aB ba _) (jq cQ (jq cQ trivial))))
  obtain⟨r,hr⟩:∃r,r=x::(ao o).drop p:=⟨_,rfl⟩;rw[<-hr];obtain⟨rn,hrn⟩:∃n,n=r.length:=⟨_,rfl⟩;obtain⟨rc,hrce⟩:∃c,c=r.flatMap au:=⟨_,rfl⟩;have hrn1:rn=n1+1:=by rw[hrn,hr,List.length_cons,hn1]
  have hrl:lm (al au (some r))=some rn:=by rw[oU];rw[hrn];rfl
  have hrs:∀W,fg W 1 rn (al au (some r))=some rc:=fun W=>by rw[hrn,hrce];exact oY (o:=some r) dA
  have hrc:rc.length=rn*1:=by rw[hrce,hrn];exact dF dA _
  have hra:rc.all bk=true:=by rw[hrce];exact nH _
  refine cP av ⟨aI ((4,some (al au (some ((ao o).take p++r))))::[(0,some (al au a)),(5,some (.int .i64 (i:Int)))]),wd [] 0 [] 0,[]⟩ ?hdf ?qdf
  case hdf=>
   by_cases hp0:p=0
   ·have hc0:c2=[]:=by rw[hc2,hp0];rfl
    have hcl2z:c2.length=0:=by rw[hc0];rfl
    rw[hp0]at hl2 hs2;rw[hc0]at hs2;refine⟨?sxfa,?hxfa,?lxfa⟩
    case hxfa=>simp(disch:=first|decide|omega) only[hpcs,hv2,hl2,hs2,hca2,ho2,hrl,hrs,hrc,hra,hcl2z,List.nil_append,show bm 0=false from rfl,aak,ZW,Z6,show bm 0=false from rfl,ZV,ZR,ZY,aad,aab,Z9,go_sem]<;>with_reducible rfl
    exact i5 (t:=4) (x:=1) (len:=rn) (cap:=aM) (l:=(ao o).take p++r) (c:=rc) (by simp(disch:=first|decide|omega) only[ab,aa]) (by decide) (by simp(disch:=first|decide|omega) only[ab,aa]<;>rfl) (by decide) (by decide) (by rw[hp0,List.take_zero,List.nil_append,hrce]) (by rw[hp0,List.take_zero,List.nil_append,hrn]) (by show _<=4611686018427387904;omega) ba (by simp(disch:=decide) [ai,ab,aa,ag]) (jq (aB ba _) (jq cQ trivial))
   have hp1:0<p:=by omega
   have hct:c2.take (p*1)=c2:=List.take_of_length_le (by rw[hcl2];exact Nat.le_refl _);refine⟨?sxfb,?hxfb,?lxfb⟩
   case hxfb=>simp(disch:=first|decide|omega) only[hpcs,hv2,hl2,hs2,hca2,ho2,hrl,hrs,hrc,hra,hcl2,hct,show bm 0=false from rfl,aak,List.nil_append,Nat.zero_add,ZW,Z6,show bm 0=false from rfl,ZV,ZR,ZY,aad,aab,Z9,go_sem]<;>with_reducible rfl
   exact i5 (t:=4) (x:=2) (len:=(p+rn)) (cap:=aM) (l:=(ao o).take p++r) (c:=c2++rc) (by simp(disch:=first|decide|omega) only[ab,aa]) (by decide) (by simp(disch:=first|decide|omega) only[ab,aa]<;>rfl) (by decide) (by decide) (by rw[hc2,hrce,aap]) (by rw[ZM,ZR,aai hple,hrn]) (by show _<=4611686018427387904;omega) ba (by simp(disch:=decide) [ai,ab,aa,ag]) (jq (aB ba _) (jq cQ trivial))
  have hins:tN x (ao o)=(ao o).take p++r:=by rw[hr,hp];rfl
  have hil:(tN x (ao o)).length=(ao o).length+1:=L7;rw[hins]at heq hil;obtain⟨q,hq⟩:∃q,q=(ao o).take p++r:=⟨_,rfl⟩;rw[<-hq]at heq hil ⊢;have hlq:∀W e,fm W (al au (some q)) (some (.slice e))=some (.val (some (.int .i64 (q.length:Int)))):=fun W e=>da (o:=some q)
  by_cases hbad:x<0\/9<q.length
  ·rw[if_pos hbad]at heq;have hsv:mg (ao a)=.tuple #[.slice none 0 0,.bool false]:=by unfold mg;rw[<-heq]
   rw[hsv];refine cP av ⟨aI [(71,some (.bool true))],wd [] 0 [] 0,[]⟩ ?hdg ?qdg
   case hdg=>
    by_cases hx0:x<0
    ·have hb1:decide (x<((0:Nat):Int))=true:=decide_eq_true hx0;refine⟨?s14,?a14,?b14⟩
     case a14=>simp(disch:=decide) only[hix,hld,hb1,go_sem];all_goals rfl
     exact ak (by simp(disch:=decide) [ai,ab,aa,ag]) (by simp(disch:=decide) [ai,ab,aa,ag]) (by decide)
    have hb1:decide (x<((0:Nat):Int))=false:=decide_eq_false hx0;have hb2:decide ((q.length:Int)>((9:Nat):Int))=true:=decide_eq_true (by omega);refine⟨?s15,?a15,?b15⟩
    case a15=>simp(disch:=decide) only[hix,hld,hb1,hlq,hb2,go_sem];all_goals rfl
    exact ak (by simp(disch:=decide) [ai,ab,aa,ag]) (by simp(disch:=decide) [ai,ab,aa,ag]) (by decide)
   refine aZ ?h16 ?q16
   case h16=>simp(disch:=decide) only[go_sem];all_goals rfl
   refine ae (ac (e:=?e17) (s':=?s17) av ?h17 ?q17)
   case h17=>simp(disch:=decide) only[go_sem];all_goals rfl
   refine bh ?_;refine⟨_,?e18,?W18,rfl,?h18,?q18⟩
   case h18=>simp(disch:=decide) only[Tryz.results59,go_sem];all_goals rfl
   rfl
  rw[if_neg hbad]at heq;have hb1:decide (x<((0:Nat):Int))=false:=decide_eq_false (fun h=>hbad (.inl h));have hb2:decide ((q.length:Int)>((9:Nat):Int))=false:=decide_eq_false (by omega);refine ae (ac (e:=?e19) (s':=?s19) av ?h19 ?q19)
  case h19=>simp(disch:=decide) only[hix,hld,hb1,hlq,hb2,go_sem];all_goals rfl
  refine aO ?h20 ?q20
  case h20=>simp(disch:=decide) only[go_sem];all_goals rfl
  refine aH ?_;show bA _ _ _ _ _ _;refine ac av (by simp(disch:=first|decide|omega) only[go_sem]<;>with_reducible rfl) ?_;refine⟨⟨i+1,q,hlt,by omega,heq⟩,by simp only;omega,?_⟩;simp only;rw[ky (by omega)];exact ak (by simp(disch:=decide) [ai,ab,aa,ag]) (by simp(disch:=decide) [ai,ab,aa,ag]) (by decide)
 rw[Z5 (by omega)]at heq;have hsv:mg (ao a)=.tuple #[al au o,.bool true]:=by unfold mg;rw[<-heq];show Value.tuple #[al au (oO (ao o)),.bool true]=_;rw[hlst,<-hoe]
 rw[hsv];refine ae ?_;refine ae (ac (e:=?e22) (s':=?s22) av ?h22 ?q22)
 case h22=>simp(disch:=decide) only[hla,go_sem];all_goals rfl
 refine aO (by simp(disch:=first|decide|omega) only[go_sem]<;>with_reducible rfl) ?_;refine bp ?_;show bA _ _ _ _ _ _;refine ae (ac (e:=?e24) (s':=?s24) av ?h24 ?q24)
 case h24=>simp(disch:=decide) only[hoo,go_sem];all_goals rfl
 refine bh ?_;refine⟨_,?e25,?W25,rfl,?h25,?q25⟩
 case h25=>simp(disch:=decide) only[Tryz.results59,go_sem];all_goals rfl
 rfl
theorem Ji(l:List Int):dG (mg l):=by
 unfold mg;split
 ·exact fp (aw (aB ba _) (aw (aG 1 rfl) aQ))
 exact fp (aw (aG 1 rfl) (aw (aG 1 rfl) aQ))
theorem Ws:bD Tryz.prog 59 (bu (cN vL fun p=>mg (ao p.a))):=fa (enters_of (by kernel_rfl)) (fun p=>aw (aB ba _) aQ) (fun p=>Ji _) Ng
theorem Sy{a:OL}{W:XW}(ha:(ao a).length<=1000000):bu (cN vL fun p=>mg (ao p.a)) [al au a] W=some (.ret (mg (ao a)),W):=eu (enc:=vL) (a:=⟨a,ha⟩) fun q h=>by
 unfold vL at h;injection h with h _;rw[fQ dA mB (by decide) h]
def qg(x:Int):List bC->Nat
 |[]=>0
 |y::l=>if y.1<=x then qg x l+1 else 0
theorem HH{x:Int}{y:bC}{l:List bC}:qg x (y::l)=if y.1<=x then qg x l+1 else 0:=rfl
theorem yV(x:Int):∀l,qg x l<=l.length
 |[]=>Nat.le_refl _
 |y::l=>by
  unfold qg;split
  ·rw[List.length_cons];have:=yV x l;omega
  exact Z3 _
def yZ(x:bC)(out:List bC):List bC:=out.take (qg x.1 out)++x::out.drop (qg x.1 out)
theorem Dt{x:bC}{out:List bC}:(yZ x out).length=out.length+1:=by
 unfold yZ;have:=yV x.1 out;rw[ZM,List.length_cons,ZR,ZV];omega
def tq:List bC->List bC->List bC
 |[],out=>out
 |x::l,out=>tq l (yZ x out)
theorem Aa{x:bC}{l out:List bC}:tq (x::l) out=tq l (yZ x out):=rfl
theorem CY:∀{l out:List bC},(tq l out).length=l.length+out.length
 |[],out=>by show out.length=_;simp
 |x::l,out=>by rw[Aa,CY,Dt,List.length_cons];omega
structure Zu(x:Int)(out:List bC) where
 k:Nat
 h:k<=out.length
 eq:k+qg x (out.drop k)=qg x out
structure Ze(l:List bC) where
 i:Nat
 out:List bC
 h:i<=l.length
 le:out.length=i
 eq:tq (l.drop i) out=tq l []
structure Xr where
 a:Option (List bC)
 h:(ao a).length<=1000000
def wl(p:Xr):List Value:=[al az p.a]
def tB(l:List bC):Value:=al az (oO (tq l []))
set_option maxHeartbeats 4000000 in
theorem Me(p:Xr):aN Tryz.prog 61 (wl p) (wd [] 0 [] 0) fun e W'=>e=.ret (tB (ao p.a)):=by
 obtain⟨a,ha⟩:=p;simp only at ha ⊢;have hoa:bk (al az a)=true:=bL _;have hla:∀W e,fm W (al az a) (some (.slice e))=some (.val (some (.int .i64 ((ao a).length:Int)))):=fun W e=>da _
 show aN _ _ [al az a] _ _;refine be av Tryz.func61 rfl (Nat.le_of_ble_eq_true rfl) ?_;simp only[aY.eq_1,aY.eq_2,bf,Tryz.ntmps61,reduceAdd];refine ae (ac (e:=?e1) (s':=?s1) av ?h1 ?q1)
 case h1=>simp(disch:=decide) only[hoa,go_sem];all_goals rfl
 refine ae (ac (e:=?e2) (s':=?s2) av ?h2 ?q2)
 case h2=>simp(disch:=decide) only[go_sem];all_goals rfl
 refine ae ?_;refine ae (ac (e:=?e3) (s':=?s3) av ?h3 ?q3)
 case h3=>simp(disch:=decide) only[go_sem];all_goals rfl
 refine aD ?_;refine aU (s':=⟨aI [(0,some (al az a)),(3,some (.slice none 0 0)),(4,some (.int .i64 (((0:Nat):Int):Int)))],wd [] 0 [] 0,[]⟩) (ak (by simp(disch:=decide) [ai,ab,aa,ag]) (by simp(disch:=decide) [ai,ab,aa,ag]) (by decide)) ?_;refine bw (α:=Ze (ao a)) (fun y=>⟨aI [(0,some (al az a)),(3,some (al az (oO y.out))),(4,some (.int .i64 (y.i:Int)))],wd [] 0 [] 0,[]⟩) (fun y=>(ao a).length-y.i) ?_ ⟨0,[],Z3 _,rfl,rfl⟩;intro ⟨i,out,hi,hle,heq⟩;simp only;obtain⟨o,hoe⟩:∃o,o=oO out:=⟨_,rfl⟩;have hlst:ao o=out:=by rw[hoe,iz]
 rw[<-hoe];have hoo:bk (al az o)=true:=bL _;have hlo:∀W e,fm W (al az o) (some (.slice e))=some (.val (some (.int .i64 ((ao o).length:Int)))):=fun W e=>da _
 rw[<-hlst]at heq hle;by_cases hlt:i<(ao a).length
 ·obtain⟨x,hx⟩:∃x,x=(ao a)[i]:=⟨_,rfl⟩;have hix:∀t,dB Tryz.prog (some (.slice 60)) (some (al az a)) (some (.int t ((i:Nat):Int)))=some (.val (some (FP [.int .i64 x.1,.int .i64 x.2]))):=fun t=>by rw[hx];exact pC hlt
  have hda:(ao a).drop i=x::(ao a).drop (i+1):=by rw[hx];exact aac hlt
  rw[hda,Aa]at heq;obtain⟨p,hp⟩:∃p,p=qg x.1 (ao o):=⟨_,rfl⟩;have hple:p<=(ao o).length:=by rw[hp];exact yV _ _
  refine ae ?_;refine ae (ac (e:=?e4) (s':=?s4) av ?h4 ?q4)
  case h4=>simp(disch:=decide) only[hla,go_sem];all_goals rfl
  refine aZ (by simp(disch:=first|decide|omega) only[go_sem]<;>with_reducible rfl) ?_;refine aH ?_;refine ae (aD ?_);refine ae (ac av (by simp(disch:=decide) only[go_sem]<;>with_reducible rfl) ?_);refine jy ⟨aI [(0,some (al az a)),(3,some (al az o)),(4,some (.int .i64 (i:Int))),(5,some (.int .i64 (p:Int)))],wd [] 0 [] 0,[]⟩ ?lp ?aft
  case lp=>
   refine aD ?_;refine aU (s':=⟨aI [(0,some (al az a)),(3,some (al az o)),(4,some (.int .i64 (i:Int))),(5,some (.int .i64 (((0:Nat):Int):Int)))],wd [] 0 [] 0,[]⟩) (ak (by simp(disch:=decide) [ai,ab,aa,ag]) (by simp(disch:=decide) [ai,ab,aa,ag]) (by decide)) ?_;refine bw (α:=Zu x.1 (ao o)) (fun y=>⟨aI [(0,some (al az a)),(3,some (al az o)),(4,some (.int .i64 (i:Int))),(5,some (.int .i64 (y.k:Int)))],wd [] 0 [] 0,[]⟩) (fun y=>(ao o).length-y.k) ?_ ⟨0,Z3 _,by simp⟩;intro ⟨k,hk,hke⟩;simp only;rw[<-hp]at hke;refine ae ?_;by_cases hkl:k<(ao o).length
   ·obtain⟨y,hy⟩:∃y,y=(ao o)[k]:=⟨_,rfl⟩;have hiy:∀t,dB Tryz.prog (some (.slice 60)) (some (al az o)) (some (.int t ((k:Nat):Int)))=some (.val (some (FP [.int .i64 y.1,.int .i64 y.2]))):=fun t=>by rw[hy];exact pC hkl
    have hdk:(ao o).drop k=y::(ao o).drop (k+1):=by rw[hy];exact aac hkl
    rw[hdk,HH]at hke;refine bl av ⟨aI [(0,some (al az a)),(3,some (al az o)),(4,some (.int .i64 (i:Int))),(5,some (.int .i64 (k:Int))),(29,some (.bool (decide (y.1<=x.1))))],wd [] 0 [] 0,[]⟩ ?hda ?qda
    case hda=>
     refine⟨?rsa,?sxa,?hxa,?kxa,?lxa⟩
     case hxa=>simp(disch:=first|decide|omega) only[aE.eq_1,aE.eq_2,cm.eq_1,bd.eq_1,bd.eq_2,hlo,hix,hiy,fB,y9 Mk,go_sem]<;>with_reducible rfl
     case kxa=>
      refine eK (by kernel_rfl) (by kernel_rfl) ?_
      repeat (refine cH (by first|(refine ed (by with_reducible rfl) (by kernel_rfl) (by kernel_rfl) ?_;simp(disch:=first|decide|omega) only[hix,hiy,ij.eq_1,cond_true,go_sem];done)|kernel_rfl) ?_)
      rfl
     case lxa=>exact ak (by simp(disch:=decide) [ai,ab,aa,ag]) (by simp(disch:=decide) [ai,ab,aa,ag]) (by decide)
    by_cases hyx:y.1<=x.1
    ·rw[if_pos hyx]at hke;rw[decide_eq_true hyx];refine aZ ?h7 ?q7
     case h7=>simp(disch:=decide) only[go_sem];all_goals rfl
     refine aH ?_;refine aD ?_;refine ac av (by simp(disch:=first|decide|omega) only[go_sem]<;>with_reducible rfl) ?_;refine⟨⟨k+1,hkl,by omega⟩,by simp only;omega,?_⟩;exact ak (by simp(disch:=decide) [ai,ab,aa,ag]) (by simp(disch:=decide) [ai,ab,aa,ag]) (by decide)
    rw[if_neg hyx]at hke;rw[decide_eq_false hyx];refine aO (by simp(disch:=decide) only[go_sem]<;>with_reducible rfl) ?_;refine bp ?_;refine⟨rfl,?_⟩;have hkp:k=p:=by omega
    subst hkp;exact ak (by simp(disch:=decide) [ai,ab,aa,ag]) (by simp(disch:=decide) [ai,ab,aa,ag]) (by decide)
   rw[Z5 (by omega)]at hke;have hkp:k=p:=hke;refine bl av ⟨aI [(0,some (al az a)),(3,some (al az o)),(4,some (.int .i64 (i:Int))),(5,some (.int .i64 (k:Int))),(29,some (.bool false))],wd [] 0 [] 0,[]⟩ ?hdb ?qdb
   case hdb=>
    refine⟨?rsb,?sxb,?hxb,?kxb,?lxb⟩
    case hxb=>simp(disch:=first|decide|omega) only[aE.eq_1,aE.eq_2,cm.eq_1,bd.eq_1,bd.eq_2,hlo,hix,go_sem]<;>with_reducible rfl
    case kxb=>
     refine eK (by kernel_rfl) (by kernel_rfl) ?_
     repeat (refine cH (by first|(refine ed (by with_reducible rfl) (by kernel_rfl) (by kernel_rfl) ?_;simp(disch:=first|decide|omega) only[hix,ij.eq_1,cond_true,go_sem];done)|kernel_rfl) ?_)
     rfl
    case lxb=>exact ak (by simp(disch:=decide) [ai,ab,aa,ag]) (by simp(disch:=decide) [ai,ab,aa,ag]) (by decide)
   refine aO ?h10 ?q10
   case h10=>simp(disch:=decide) only[go_sem];all_goals rfl
   refine bp ?_;refine⟨rfl,?_⟩;subst hkp;exact ak (by simp(disch:=decide) [ai,ab,aa,ag]) (by simp(disch:=decide) [ai,ab,aa,ag]) (by decide)
  obtain⟨v1,hv1,hl1,hs1,ho1⟩:=sj (g:=az) (m:=2) cW (o:=o) (k:=p) hple;obtain⟨v2,hv2,hl2,hs2,ho2⟩:=rX (g:=az) (m:=2) cW (o:=o) (k:=p) hple;obtain⟨n1,hn1⟩:∃n,n=((ao o).drop p).length:=⟨_,rfl⟩;obtain⟨c1,hc1⟩:∃c,c=((ao o).drop p).flatMap az:=⟨_,rfl⟩;obtain⟨c2,hc2⟩:∃c,c=((ao o).take p).flatMap az:=⟨_,rfl⟩;rw[<-hn1]at hl1 hs1;rw[<-hc1]at hs1;rw[<-hc2]at hs2;have hcl1:c1.length=n1*2:=by rw[hc1,hn1];exact dF cW _
  have hcl2:c2.length=p*2:=by rw[hc2,dF cW,ZR,aai hple]
  have hca1:c1.all bk=true:=by rw[hc1];exact Hg _
  have hca2:c2.all bk=true:=by rw[hc2];exact Hg _
  have hnb:n1<=(ao o).length:=by rw[hn1,ZV];omega
  have hpcs:∀(fr:XF) (W:XW) (lo hi:Option Operand),fy Tryz.prog fr W (al az o) lo hi none (some (.slice 60))=sR az o (cG fr 0 lo) (cG fr (ao o).length hi):=fun fr W lo hi=>Yr o
  have hlx:∀W,fo Tryz.prog W 60 (FP [.int .i64 x.1,.int .i64 x.2])=some (.agg #[.int .i64 x.1,.int .i64 x.2]):=fun W=>(fB (c:=[.int .i64 x.1,.int .i64 x.2])).trans (PX GZ yY)
  refine bl av ⟨aI ((6,some (al az (some (x::(ao o).drop p))))::[(0,some (al az a)),(3,some (al az o)),(4,some (.int .i64 (i:Int))),(5,some (.int .i64 (p:Int)))]),wd [] 0 [] 0,[]⟩ ?hde ?qde
  case hde=>
   by_cases hn0:n1=0
   ·have hd0:(ao o).drop p=[]:=List.length_eq_zero_iff.1 (by rw[<-hn1,hn0]);have hc0:c1=[]:=by rw[hc1,hd0];rfl
    have hcl1z:c1.length=0:=by rw[hc0];rfl
    rw[hn0]at hl1 hs1;refine⟨?rsea,?sxea,?hxea,?kxea,?lxea⟩
    case hxea=>simp(disch:=decide) only[aE.eq_1,aE.eq_2,cm.eq_1,bd.eq_1,bd.eq_2,hix,hlx,hpcs,hv1,hl1,hs1,hca1,ho1,hcl1z,show bm 1=false from rfl,ZW,Z6,show bm 0=false from rfl,ZV,ZR,ZY,aad,aab,Z9,go_sem];all_goals rfl
    case kxea=>
     refine eK (by kernel_rfl) (by kernel_rfl) ?_
     repeat (refine cH (by first|(refine ed (by with_reducible rfl) (by kernel_rfl) (by kernel_rfl) ?_;simp(disch:=first|decide|omega) only[hix,ij.eq_1,cond_true,go_sem];done)|kernel_rfl) ?_)
     rfl
    exact i5 (t:=6) (x:=0) (len:=1) (cap:=1) (l:=x::(ao o).drop p) (c:=[.int .i64 x.1,.int .i64 x.2]) (by simp(disch:=first|decide|omega) only[ab,aa]) (by decide) (by simp(disch:=first|decide|omega) only[ab,aa]<;>rfl) (by decide) (by decide) (by rw[hd0];rfl) (by rw[hd0];rfl) (Nat.le_refl _) bB (by simp(disch:=decide) [ai,ab,aa,ag]) (jq (aB bB _) (jq (aB bB _) (jq cQ (jq cQ trivial))))
   have hn1p:0<n1:=by omega
   refine⟨?rseb,?sxeb,?hxeb,?kxeb,?lxeb⟩
   case hxeb=>simp(disch:=first|decide|omega) only[aE.eq_1,aE.eq_2,cm.eq_1,bd.eq_1,bd.eq_2,hix,hlx,hpcs,hv1,hl1,hs1,hca1,ho1,hcl1,show bm 1=false from rfl,aak,ZW,Z6,show bm 0=false from rfl,ZV,ZR,ZY,aad,aab,Z9,go_sem]<;>with_reducible rfl
   case kxeb=>
    refine eK (by kernel_rfl) (by kernel_rfl) ?_
    repeat (refine cH (by first|(refine ed (by with_reducible rfl) (by kernel_rfl) (by kernel_rfl) ?_;simp(disch:=first|decide|omega) only[hix,ij.eq_1,cond_true,go_sem];done)|kernel_rfl) ?_)
    rfl
   exact i5 (t:=6) (x:=1) (len:=(1+n1)) (cap:=aM) (l:=x::(ao o).drop p) (c:=[.int .i64 x.1,.int .i64 x.2]++c1) (by simp(disch:=first|decide|omega) only[ab,aa]) (by decide) (by simp(disch:=first|decide|omega) only[ab,aa]<;>rfl) (by decide) (by decide) (by rw[hc1];rfl) (by rw[List.length_cons,<-hn1];omega) (by show _<=4611686018427387904;omega) bB (by simp(disch:=decide) [ai,ab,aa,ag]) (jq (aB bB _) (jq (aB bB _) (jq cQ (jq cQ trivial))))
  have hins:yZ x (ao o)=(ao o).take p++x::(ao o).drop p:=by rw[hp];rfl
  have hil:(yZ x (ao o)).length=(ao o).length+1:=Dt;rw[hins]at heq hil;obtain⟨r,hr⟩:∃r,r=x::(ao o).drop p:=⟨_,rfl⟩;rw[<-hr];obtain⟨rn,hrn⟩:∃n,n=r.length:=⟨_,rfl⟩;obtain⟨rc,hrce⟩:∃c,c=r.flatMap az:=⟨_,rfl⟩;have hrn1:rn=n1+1:=by rw[hrn,hr,List.length_cons,hn1]
  have hrl:lm (al az (some r))=some rn:=by rw[oU];rw[hrn];rfl
  have hrs:∀W,fg W 2 rn (al az (some r))=some rc:=fun W=>by rw[hrn,hrce];exact oY (o:=some r) cW
  have hrc:rc.length=rn*2:=by rw[hrce,hrn];exact dF cW _
  have hra:rc.all bk=true:=by rw[hrce];exact Hg _
  refine jV av ⟨aI ((3,some (al az (some ((ao o).take p++r))))::[(0,some (al az a)),(4,some (.int .i64 (i:Int)))]),wd [] 0 [] 0,[]⟩ ?hdf ?qdf
  case hdf=>
   by_cases hp0:p=0
   ·have hc0:c2=[]:=by rw[hc2,hp0];rfl
    have hcl2z:c2.length=0:=by rw[hc0];rfl
    rw[hp0]at hl2 hs2;rw[hc0]at hs2;refine⟨?sxfa,?hxfa,?lxfa⟩
    case hxfa=>simp(disch:=first|decide|omega) only[hpcs,hv2,hl2,hs2,hca2,ho2,hrl,hrs,hrc,hra,hcl2z,List.nil_append,show bm 0=false from rfl,aak,ZW,Z6,show bm 0=false from rfl,ZV,ZR,ZY,aad,aab,Z9,go_sem]<;>with_reducible rfl
    exact i5 (t:=3) (x:=1) (len:=rn) (cap:=aM) (l:=(ao o).take p++r) (c:=rc) (by simp(disch:=first|decide|omega) only[ab,aa]) (by decide) (by simp(disch:=first|decide|omega) only[ab,aa]<;>rfl) (by decide) (by decide) (by rw[hp0,List.take_zero,List.nil_append,hrce]) (by rw[hp0,List.take_zero,List.nil_append,hrn]) (by show _<=4611686018427387904;omega) bB (by simp(disch:=decide) [ai,ab,aa,ag]) (jq (aB bB _) (jq cQ trivial))
   have hp1:0<p:=by omega
   have hct:c2.take (p*2)=c2:=List.take_of_length_le (by rw[hcl2];exact Nat.le_refl _);refine⟨?sxfb,?hxfb,?lxfb⟩
   case hxfb=>simp(disch:=first|decide|omega) only[hpcs,hv2,hl2,hs2,hca2,ho2,hrl,hrs,hrc,hra,hcl2,hct,show bm 0=false from rfl,aak,List.nil_append,Nat.zero_add,ZW,Z6,show bm 0=false from rfl,ZV,ZR,ZY,aad,aab,Z9,go_sem]<;>with_reducible rfl
   exact i5 (t:=3) (x:=2) (len:=(p+rn)) (cap:=aM) (l:=(ao o).take p++r) (c:=c2++rc) (by simp(disch:=first|decide|omega) only[ab,aa]) (by decide) (by simp(disch:=first|decide|omega) only[ab,aa]<;>rfl) (by decide) (by decide) (by rw[hc2,hrce,aap]) (by rw[ZM,ZR,aai hple,hrn]) (by show _<=4611686018427387904;omega) bB (by simp(disch:=decide) [ai,ab,aa,ag]) (jq (aB bB _) (jq cQ trivial))
  intro sl hsl;show bA _ _ _ _ _ _;refine aU hsl ?_;rw[<-hr]at heq hil;obtain⟨q,hq⟩:∃q,q=(ao o).take p++r:=⟨_,rfl⟩;rw[<-hq]at heq hil ⊢;refine ac av (by simp(disch:=first|decide|omega) only[go_sem]<;>with_reducible rfl) ?_;refine⟨⟨i+1,q,hlt,by omega,heq⟩,by simp only;omega,?_⟩;simp only;rw[ky (by omega)];exact ak (by simp(disch:=decide) [ai,ab,aa,ag]) (by simp(disch:=decide) [ai,ab,aa,ag]) (by decide)
 rw[Z5 (by omega)]at heq;have hsv:tB (ao a)=al az o:=by unfold tB;rw[<-heq];show al az (oO (ao o))=_;rw[hlst,<-hoe]
 rw[hsv];refine ae ?_;refine ae (ac (e:=?e12) (s':=?s12) av ?h12 ?q12)
 case h12=>simp(disch:=decide) only[hla,go_sem];all_goals rfl
 refine aO (by simp(disch:=first|decide|omega) only[go_sem]<;>with_reducible rfl) ?_;refine bp ?_;show bA _ _ _ _ _ _;refine ae (ac (e:=?e14) (s':=?s14) av ?h14 ?q14)
 case h14=>simp(disch:=decide) only[hoo,go_sem];all_goals rfl
 refine bh ?_;refine⟨_,?e15,?W15,rfl,?h15,?q15⟩
 case h15=>simp(disch:=decide) only[Tryz.results61,go_sem];all_goals rfl
 rfl
theorem Xc:bD Tryz.prog 61 (bu (cN wl fun p=>tB (ao p.a))):=fa (enters_of (by kernel_rfl)) (fun p=>aw (aB bB _) aQ) (fun p=>aB bB _) Me
theorem SU{a:Option (List bC)}{W:XW}(ha:(ao a).length<=1000000):bu (cN wl fun p=>tB (ao p.a)) [al az a] W=some (.ret (tB (ao a)),W):=eu (enc:=wl) (a:=⟨a,ha⟩) fun q h=>by
 unfold wl at h;injection h with h _;rw[fQ cW lE (by decide) h]
def xB(n:Nat):Nat->Option Nat:=fun m=>if m<n then some m else none
theorem iy{n m:Nat}(h:m<n):xB n m=some m:=if_pos h
def l6(n:Nat):List (Nat×Option Value)->Prop
 |[]=>True
 |(_,v)::F=>(∀u,v=some u->TV (cM (xB n)) u u)/\l6 n F
theorem l6.mem{n:Nat}:∀{F:List (Nat×Option Value)},l6 n F->∀t v,(t,some v)∈F->TV (cM (xB n)) v v
 |[],_,t,v,h=>by cases h
 |(t',v')::F,h,t,v,hp=>by
  rcases List.mem_cons.1 hp with e|hp
  ·cases e;exact h.1 v rfl
  exact l6.mem h.2 t v hp
theorem kb{n t:Nat}{v:Value}{F:List (Nat×Option Value)}(h:dG v)(hs:l6 n F):l6 n ((t,some v)::F):=⟨fun u e=>by cases e;exact h _ ah,hs⟩
theorem kp{n t m:Nat}{F:List (Nat×Option Value)}(h:m<n)(hs:l6 n F):l6 n ((t,some (.pointer (some ⟨m,0,none⟩)))::F):=⟨fun u e=>by cases e;exact ay (iy h),hs⟩
theorem Gq{P:Program}{F:List (Nat×Option Value)}{W:XW}{k n':Nat}{K:List (Nat×Option bb)}(hk:k<=n')(hK:∀m o,lk K m=some o->m<n'/\W.get m=some o/\TO P (cM (xB n')) o o)(hB:l6 n' F):db P k ⟨aI F,W,[]⟩ ⟨aI F,wd K n' [] 0,[]⟩:=
 qR (xB n') (xB n') (fun n m h=>by
  unfold xB at h;split at h
  ·cases h;by_cases hn:n<k
   ·exact .inl ⟨hn,rfl⟩
   exact .inr ⟨by omega,iy (by assumption)⟩
  ·cases h) (fun m n h=>by
  unfold xB at h;split at h
  ·assumption
  ·cases h) hk (fun t v h=>⟨v,h,hB.mem t v (bX (gS h))⟩) (fun m o h=>by
  obtain⟨_,h2⟩:=dV h;obtain⟨h3,h4,h5⟩:=hK m o h2;exact⟨m,o,iy h3,h4,h5⟩) .nil
theorem gy{P:Program}{F F':List (Nat×Option Value)}{L K:List (Nat×Option bb)}{k n nl t x len cap n':Nat}{lg:List Nat}{α:Type}{g:α->List Value}{l:List α}{c:List Value}{e:TypeId}{fr:Nat×Nat}
 (ht:lk F t=some (.slice (some ⟨x,0,none⟩) len cap)) (h511:t<511) (hx:lk L x=some (.cells c e fr)) (hxn:x<n) (hn:n<16383) (hc:c=l.flatMap g) (hlen:len=l.length) (hcap:len<=cap)
 (hb:∀x,dt (g x)) (hF:ai 511 F F') (hk:k<=n') (hn':n'<=n) (hK:∀m o,lk K m=some o->m<n'/\m≠x/\lk L m=some o/\TO P (cM (xB n')) o o) (hB:l6 n' F'):db P k ⟨aI F,wd L n lg nl,[]⟩ ⟨aI ((t,some (al g (some l)))::F'),wd K n' [] 0,[]⟩:=by
 subst hc;refine(dH x (F':=(t,some (al g (some l)))::F') hx hxn hn (af h511 ht ?_ (pi hF)) K (fun m o' h hmn=>?_) .nil).trans (Gq hk (fun m o h=>?_) (kb (aB hb _) hB))
 ·have:=gz (n:=x) (o:=0) (len:=len) (cap:=cap) (c:=l.flatMap g) (q:=(l.flatMap g).length) hcap (fun h=>by
   rw[hlen]at h;rw[List.length_eq_zero_iff.1 h];rfl)
  rw[List.drop_zero,List.take_length,hlen]at this;rw[hlen];exact this
 ·by_cases e1:x=m
  ·subst e1;rw[ab]at h;cases h
  rw[aa e1]at h;obtain⟨_,_,h3,_⟩:=hK m o' h;exact⟨o',h3,eb⟩
 obtain⟨h1,h2,h3,h4⟩:=hK m o h;refine⟨h1,?_,h4⟩;show(wd ((x,none)::K) n lg nl).get m=some o;rw[bO (by omega) (by omega),aa (fun e=>h2 e.symm)];exact h
def bR:bb:=.cells [.slice none 0 0] 40 (0,0)
theorem bF{P:Program}:fY P bR:=bc (aw (aG 1 rfl) aQ)
theorem yE:∀{l out q:List Int},pW l out=some q->out.length<=9->q.length<=9
 |[],out,q,h,hl=>by cases h;exact hl
 |x::l,out,q,h,hl=>by
  rw[zN]at h;split at h
  ·exact yE h hl
  split at h
  ·cases h
  rename_i h2;exact yE h (by omega)
structure Xv where
 o:Option (List OL)
 ho:(ao o).length<=1000000
 he:∀t∈ao o,(ao t).length<=1000000
structure rL(n:Nat)(all:List OL):Prop where
 le:all.length<=n
 el:∀t∈all,(ao t).length<=9
theorem rL.mono{n m:Nat}{all:List OL}(h:rL n all)(hm:n<=m):rL m all:=⟨Nat.le_trans h.le hm,h.el⟩
theorem rL.ins{n k:Nat}{all:List OL}{t:OL}(h:rL n all)(ht:(ao t).length<=9):rL (n+1) (all.take k++t::all.drop k) where
 le:=by have:=h.le;rw[ZM,List.length_cons,ZR,ZV];omega
 el:=fun u hu=>by
  rcases List.mem_append.1 hu with q|q
  ·exact h.el u (List.mem_of_mem_take q)
  rcases List.mem_cons.1 q with q|q
  ·rw[q];exact ht
  exact h.el u (List.mem_of_mem_drop q)
structure Zt(o:Option (List OL)) where
 i:Nat
 all:List OL
 h:i<=(ao o).length
 a:rL 4000 all
structure YZ where
 b:Nat
 all:List OL
 h1:1<=b
 h2:b<=513
 a:rL (4000+b) all
structure ZK(n:Nat) where
 k:Nat
 t:List Int
 h:k<=n
 le:t.length<=k
structure NZ(cs:List aC):Prop where
 len:cs.length<=4000
 id:∀x∈cs,0<x.id/\x.id<1000000
 few:∀x∈cs,(ao x.sides).length<=9
noncomputable def Io:List (FuncId×HF):=[(59,bu (cN vL fun p=>mg (ao p.a))),(60,bu (cN tH Bj)),(61,bu (cN wl fun p=>tB (ao p.a)))]
theorem cO:dv Tryz.prog (cE Io []):=⟨mixed,bU (.cons _ _ _ Ws (.cons _ _ _ WY (.cons _ _ _ Xc .nil))) .nil⟩
def Ts(e:cz)(W':XW):Prop:=∃cs:List aC,NZ cs/\e=.ret (.agg #[al an (oO cs)])/\W'.get 0=some bR/\W'.next<=30
structure YV(n:Nat) where
 i:Nat
 cs:List aC
 h:i<=n
 cl:cs.length=i
 id:∀x∈cs,0<x.id/\x.id<=4001
 few:∀x∈cs,(ao x.sides).length<=9
structure Zw(n:Nat) where
 k:Nat
 ss:List bC
 h:k<=n
 le:ss.length=k
set_option maxHeartbeats 8000000 in
theorem Mi(p:Xv):aN Tryz.prog 31 [al bq p.o] (wd [(0,some bR)] 1 [] 0) Ts:=by
 obtain⟨o,ho,he⟩:=p;simp only at ho he ⊢;have hoo:bk (al bq o)=true:=bL _;have hlo:∀W e,fm W (al bq o) (some (.slice e))=some (.val (some (.int .i64 ((ao o).length:Int)))):=fun W e=>da _
 have hld:∀W x,fo Tryz.prog W 35 (FP [al au x])=some (al au x):=fun W x=>Xg x
 have hldI:∀W a,fo Tryz.prog W 3 (FP [.int .i64 a])=some (.int .i64 a):=fun W a=>xF a
 refine be cO Tryz.func31 rfl (Nat.le_of_ble_eq_true rfl) ?_;simp only[aY.eq_1,aY.eq_2,bf,Tryz.ntmps31,reduceAdd];refine ae (ac cO (by simp(disch:=decide) only[hoo,go_sem]<;>with_reducible rfl) ?_);refine ae (ac cO (by simp(disch:=decide) only[go_sem]<;>with_reducible rfl) ?_);refine ae ?_;refine ae (ac cO (by simp(disch:=decide) only[go_sem]<;>with_reducible rfl) ?_);refine aD ?_;refine aU (s':=⟨aI [(0,some (al bq o)),(2,some (.pointer (some ⟨1,0,none⟩))),(3,some (.slice none 0 0)),(4,some (.int .i64 (((0:Nat):Int):Int)))],wd [(0,some (bR)),(1,some (bR))] 2 [] 0,[]⟩) (aV [(0,some 0),(1,some 1)] [(0,some 0),(1,some 1)] (by decide) (by decide) (by decide) (af (by decide) rfl (aB bV _ _ ah) (af (by decide) rfl (ay rfl) (af (by decide) rfl (ar 1 rfl) (af (by decide) rfl (ar 1 rfl) aR)))) (aj 0 rfl (by decide) (by decide) rfl (aq ah bF) (aj 1 rfl (by decide) (by decide) rfl (aq ah bF) bj)) .nil) ?_;refine bw (α:=Zt o) (fun y=>⟨aI [(0,some (al bq o)),(2,some (.pointer (some ⟨1,0,none⟩))),(3,some (al bq (oO y.all))),(4,some (.int .i64 (y.i:Int)))],wd [(0,some (bR)),(1,some (bR))] 2 [] 0,[]⟩) (fun y=>(ao o).length-y.i) ?_ ⟨0,[],Z3 _,⟨Z3 _,fun t h=>by cases h⟩⟩;intro ⟨i,all,hi,hall⟩;simp only;obtain⟨o3,hoe⟩:∃o3,o3=oO all:=⟨_,rfl⟩;have hlst:ao o3=all:=by rw[hoe,iz]
 rw[<-hoe];rw[<-hlst]at hall;by_cases hlt:i<(ao o).length
 ·obtain⟨x,hx⟩:∃x,x=(ao o)[i]:=⟨_,rfl⟩;have hix:∀t,dB Tryz.prog (some (.slice 35)) (some (al bq o)) (some (.int t ((i:Nat):Int)))=some (.val (some (FP [al au x]))):=fun t=>by rw[hx];exact GY hlt
  have hxl:(ao x).length<=1000000:=by rw[hx];exact he _ (aay hlt)
  have hox:bk (al au x)=true:=bL _;obtain⟨os,bo,hos,hsv⟩:∃os bo,(ao os).length<=9/\mg (ao x)=.tuple #[al au os,.bool bo]:=by
   unfold mg;cases hsf:pW (ao x) []with
   |none=>exact⟨none,false,Z3 _,rfl⟩
   |some q=>exact⟨oO q,true,by rw[iz];exact yE hsf (Z3 _),rfl⟩
  have hg:∀W,bu (cN vL fun p=>mg (ao p.a)) [al au x] W=some (.ret (.tuple #[al au os,.bool bo]),W):=fun W=>by rw[Sy hxl,hsv]
  have hoos:bk (al au os)=true:=bL _;have hlos:∀W e,fm W (al au os) (some (.slice e))=some (.val (some (.int .i64 ((ao os).length:Int)))):=fun W e=>da _
  obtain⟨sn,hsn⟩:∃n,n=(ao os).length:=⟨_,rfl⟩;rw[<-hsn]at hos hlos;refine ae ?_;refine ae (ac cO (by simp(disch:=decide) only[hlo,go_sem]<;>with_reducible rfl) ?_);refine aZ (by simp(disch:=first|decide|omega) only[go_sem]<;>with_reducible rfl) ?_;refine aH ?_;refine ae (aD ?_);refine ae (ac cO (by simp(disch:=decide) only[hix,hld,Io,hg,hox,hoos,go_sem]<;>with_reducible rfl) ?_);refine ae ?_;refine ae (ac cO (by simp(disch:=decide) only[go_sem]<;>with_reducible rfl) ?_);refine aD ?_;rw[hoe];rw[hlst]at hall;refine aU (s':=⟨aI [(0,some (al bq o)),(2,some (.pointer (some ⟨1,0,none⟩))),(3,some (al bq (oO all))),(4,some (.int .i64 (i:Int))),(5,some (al au os)),(6,some (.bool bo)),(7,some (.int .i64 (((1:Nat):Int):Int)))],wd [(0,some (bR)),(1,some (bR))] 2 [] 0,[]⟩) (aV [(0,some 0),(1,some 1)] [(0,some 0),(1,some 1)] (by decide) (by decide) (by decide) (af (v:=al bq o) (by decide) (by simp(disch:=first|decide|omega) only[ab,aa]<;>rfl) (aB bV _ _ ah) (af (v:=.pointer (some ⟨1,0,none⟩)) (by decide) (by simp(disch:=first|decide|omega) only[ab,aa]<;>rfl) (ay (by simp(disch:=first|decide|omega) only[ab,aa])) (af (v:=al bq (oO all)) (by decide) (by simp(disch:=first|decide|omega) only[ab,aa]<;>rfl) (aB bV _ _ ah) (af (v:=.int .i64 (i:Int)) (by decide) (by simp(disch:=first|decide|omega) only[ab,aa]<;>rfl) (ar 1 rfl) (af (v:=al au os) (by decide) (by simp(disch:=first|decide|omega) only[ab,aa]<;>rfl) (aB ba _ _ ah) (af (v:=.bool bo) (by decide) (by simp(disch:=first|decide|omega) only[ab,aa]<;>rfl) (ar 1 rfl) (af (v:=.int .i64 (((1:Nat):Int):Int)) (by decide) (by simp(disch:=first|decide|omega) only[ab,aa]<;>rfl) (ar 1 rfl) aR))))))) (aj (o:=bR) 0 (by simp(disch:=first|decide|omega) only[ab,aa]) (by decide) (by decide) (by simp(disch:=first|decide|omega) only[ab,aa]<;>rfl) (aq ah bF) (aj (o:=bR) 1 (by simp(disch:=first|decide|omega) only[ab,aa]) (by decide) (by decide) (by simp(disch:=first|decide|omega) only[ab,aa]<;>rfl) (aq ah bF) bj)) .nil) ?_;refine bw (α:=YZ) (fun y=>⟨aI [(0,some (al bq o)),(2,some (.pointer (some ⟨1,0,none⟩))),(3,some (al bq (oO y.all))),(4,some (.int .i64 (i:Int))),(5,some (al au os)),(6,some (.bool bo)),(7,some (.int .i64 (y.b:Int)))],wd [(0,some (bR)),(1,some (bR))] 2 [] 0,[]⟩) (fun y=>513-y.b) ?_ ⟨1,all,Nat.le_refl _,by decide,hall.mono (by decide)⟩;clear hall hlst hoe;clear o3;clear all;intro ⟨b,all,hb1,hb2,hall⟩;simp only;obtain⟨o3,hoe⟩:∃o3,o3=oO all:=⟨_,rfl⟩;have hlst:ao o3=all:=by rw[hoe,iz]
  rw[<-hoe];rw[<-hlst]at hall;have hoo3:bk (al bq o3)=true:=bL _;have hlo3:∀W e,fm W (al bq o3) (some (.slice e))=some (.val (some (.int .i64 ((ao o3).length:Int)))):=fun W e=>da _
  have hpw:(2:Nat)^sn<=512:=Nat.pow_le_pow_right (n:=2) (by decide) hos;by_cases hcb:bo=true/\b<2^sn
  ·obtain⟨hbt,hbl⟩:=hcb;subst hbt;refine ae ?_;refine ae (ac cO (by simp(disch:=first|decide|omega) only[hlos,go_sem]<;>with_reducible rfl) ?_);refine aZ (by simp(disch:=first|decide|omega) only[go_sem]<;>with_reducible rfl) ?_;refine aH ?_;refine ae (aD ?_);refine ae (ac cO (by simp(disch:=first|decide|omega) only[go_sem]<;>with_reducible rfl) ?_);refine ae ?_;refine ae (ac cO (by simp(disch:=first|decide|omega) only[go_sem]<;>with_reducible rfl) ?_);refine aD ?_;refine aU (s':=⟨aI [(0,some (al bq o)),(2,some (.pointer (some ⟨1,0,none⟩))),(3,some (al bq o3)),(4,some (.int .i64 (i:Int))),(5,some (al au os)),(6,some (.bool true)),(7,some (.int .i64 (b:Int))),(8,some (.slice none 0 0)),(9,some (.int .i64 (((0:Nat):Int):Int)))],wd [(0,some (bR)),(1,some (bR)),(2,none)] 3 [] 0,[]⟩) (ak (by simp(disch:=decide) [ai,ab,aa,ag]) (by simp(disch:=decide) [ai,ab,aa,ag]) (by decide)) ?_;refine bw (α:=ZK sn) (fun y=>⟨aI [(0,some (al bq o)),(2,some (.pointer (some ⟨1,0,none⟩))),(3,some (al bq o3)),(4,some (.int .i64 (i:Int))),(5,some (al au os)),(6,some (.bool true)),(7,some (.int .i64 (b:Int))),(8,some (cA 2 y.t.length)),(9,some (.int .i64 (y.k:Int)))],wd [(0,some (bR)),(1,some (bR)),(2,bN 3 (y.t.flatMap au) y.t.length)] 3 [] 0,[]⟩) (fun y=>sn-y.k) ?_ ⟨0,[],Z3 _,Nat.le_refl _⟩;intro ⟨k,t,hk,htk⟩;simp only;refine ae ?_;by_cases hkl:k<sn
   ·refine ae (ac cO (by simp(disch:=first|decide|omega) only[hlos,go_sem]<;>with_reducible rfl) ?_);refine aZ (by simp(disch:=first|decide|omega) only[go_sem]<;>with_reducible rfl) ?_;refine aH ?_;refine ae (aD ?_);obtain⟨z,hz⟩:∃z,z=(ao os)[k]'(by omega):=⟨_,rfl⟩;have hiz:∀t,dB Tryz.prog (some (.slice 3)) (some (al au os)) (some (.int t ((k:Nat):Int)))=some (.val (some (FP [.int .i64 z]))):=fun t=>by rw[hz];exact kC (by omega)
    refine ae (ac cO (by simp(disch:=first|decide|omega) only[go_sem]<;>with_reducible rfl) ?_);cases hbit:(mU BinOp.and IntKind.i64 ((b/2^k:Nat):Int) ((1:Nat):Int)==((1:Nat):Int))with
    |true=>
     refine aZ (by simp(disch:=first|decide|omega) only[go_sem]<;>with_reducible rfl) ?_;refine jV cO ⟨aI [(0,some (al bq o)),(2,some (.pointer (some ⟨1,0,none⟩))),(3,some (al bq o3)),(4,some (.int .i64 (i:Int))),(5,some (al au os)),(6,some (.bool true)),(7,some (.int .i64 (b:Int))),(8,some (cA 2 (t++[z]).length)),(9,some (.int .i64 (k:Int)))],wd [(0,some (bR)),(1,some (bR)),(2,bN 3 ((t++[z]).flatMap au) (t++[z]).length)] 3 [] 0,[]⟩ ?hdg ?qdg
     case hdg=>
      have hro:(t.flatMap au++[.int .i64 z])=(t++[z]).flatMap au:=by rw[aap];rfl
      rcases htt:t with _|⟨a0,t0⟩
      ·have hr1:[.int .i64 z]=[z].flatMap au:=rfl;refine⟨?sxga,?hxga,?lxga⟩
       case hxga=>simp(disch:=first|decide|omega) only[hiz,hldI,cA.eq_1,bN.eq_1,List.length_nil,show bm 0=false from rfl,ZW,Z6,show bm 0=false from rfl,ZV,ZR,ZY,aad,aab,Z9,go_sem]<;>with_reducible rfl
       simp only[List.nil_append,ZM,List.length_cons,List.length_nil,Nat.zero_add,cA.eq_2,bN.eq_2];exact aV [(0,some 0),(1,some 1),(4,some 2)] [(0,some 0),(1,some 1),(2,some 4)] (by decide) (by decide) (by decide) (af (v:=al bq o) (by decide) (by simp(disch:=first|decide|omega) only[ab,aa]<;>rfl) (aB bV _ _ ah) (af (v:=.pointer (some ⟨1,0,none⟩)) (by decide) (by simp(disch:=first|decide|omega) only[ab,aa]<;>rfl) (ay (by simp(disch:=first|decide|omega) only[ab,aa])) (af (v:=al bq o3) (by decide) (by simp(disch:=first|decide|omega) only[ab,aa]<;>rfl) (aB bV _ _ ah) (af (v:=.int .i64 (i:Int)) (by decide) (by simp(disch:=first|decide|omega) only[ab,aa]<;>rfl) (ar 1 rfl) (af (v:=al au os) (by decide) (by simp(disch:=first|decide|omega) only[ab,aa]<;>rfl) (aB ba _ _ ah) (af (v:=.bool true) (by decide) (by simp(disch:=first|decide|omega) only[ab,aa]<;>rfl) (ar 1 rfl) (af (v:=.int .i64 (b:Int)) (by decide) (by simp(disch:=first|decide|omega) only[ab,aa]<;>rfl) (ar 1 rfl) (af (v:=.slice (some ⟨4,0,none⟩) 1 aM) (by decide) (by simp(disch:=first|decide|omega) only[ab,aa]<;>rfl) (bI (by simp(disch:=first|decide|omega) only[ab,aa])) (af (v:=.int .i64 (k:Int)) (by decide) (by simp(disch:=first|decide|omega) only[ab,aa]<;>rfl) (ar 1 rfl) aR))))))))) (aj (o:=bR) 0 (by simp(disch:=first|decide|omega) only[ab,aa]) (by decide) (by decide) (by simp(disch:=first|decide|omega) only[ab,aa]<;>rfl) (aq ah bF) (aj (o:=bR) 1 (by simp(disch:=first|decide|omega) only[ab,aa]) (by decide) (by decide) (by simp(disch:=first|decide|omega) only[ab,aa]<;>rfl) (aq ah bF) (aj (o:=.cells ([z].flatMap au) 3 (0,0)) 4 (by simp(disch:=first|decide|omega) only[ab,aa]) (by decide) (by decide) (by simp(disch:=first|decide|omega) only[ab,aa]<;>rfl) (aq ah (bc (br ba _))) bj))) .nil
      have hg1:cA 2 (a0::t0).length=.slice (some ⟨2,0,none⟩) t.length aM:=by rw[htt];rfl
      have hg2:bN 3 ((a0::t0).flatMap au) (a0::t0).length=some (.cells (t.flatMap au) 3 (0,0)):=by rw[htt];rfl
      rw[hg1,hg2,<-htt];have hrl:(t.flatMap au).length=t.length*1:=dF dA _;have hrt:(t.flatMap au).take (t.length*1)=t.flatMap au:=List.take_of_length_le (by rw[hrl];exact Nat.le_refl _);have hrl1:(t.flatMap au).length=t.length:=by rw[hrl,aak]
      have hrt1:(t.flatMap au).take t.length=t.flatMap au:=by rw[aak]at hrt;exact hrt
      have hal:=nH t;refine⟨?sxgb,?hxgb,?lxgb⟩
      case hxgb=>simp(disch:=first|decide|omega) only[hiz,hldI,hrl1,hrt1,hro,hal,aak,ZW,Z6,show bm 0=false from rfl,ZV,ZR,ZY,aad,aab,Z9,go_sem]<;>with_reducible rfl
      simp only[List.nil_append,ZM,List.length_cons,List.length_nil,Nat.zero_add,cA.eq_2,bN.eq_2];exact aV [(0,some 0),(1,some 1),(4,some 2)] [(0,some 0),(1,some 1),(2,some 4)] (by decide) (by decide) (by decide) (af (v:=al bq o) (by decide) (by simp(disch:=first|decide|omega) only[ab,aa]<;>rfl) (aB bV _ _ ah) (af (v:=.pointer (some ⟨1,0,none⟩)) (by decide) (by simp(disch:=first|decide|omega) only[ab,aa]<;>rfl) (ay (by simp(disch:=first|decide|omega) only[ab,aa])) (af (v:=al bq o3) (by decide) (by simp(disch:=first|decide|omega) only[ab,aa]<;>rfl) (aB bV _ _ ah) (af (v:=.int .i64 (i:Int)) (by decide) (by simp(disch:=first|decide|omega) only[ab,aa]<;>rfl) (ar 1 rfl) (af (v:=al au os) (by decide) (by simp(disch:=first|decide|omega) only[ab,aa]<;>rfl) (aB ba _ _ ah) (af (v:=.bool true) (by decide) (by simp(disch:=first|decide|omega) only[ab,aa]<;>rfl) (ar 1 rfl) (af (v:=.int .i64 (b:Int)) (by decide) (by simp(disch:=first|decide|omega) only[ab,aa]<;>rfl) (ar 1 rfl) (af (v:=.slice (some ⟨4,0,none⟩) (t.length+1) aM) (by decide) (by simp(disch:=first|decide|omega) only[ab,aa]<;>rfl) (bI (by simp(disch:=first|decide|omega) only[ab,aa])) (af (v:=.int .i64 (k:Int)) (by decide) (by simp(disch:=first|decide|omega) only[ab,aa]<;>rfl) (ar 1 rfl) aR))))))))) (aj (o:=bR) 0 (by simp(disch:=first|decide|omega) only[ab,aa]) (by decide) (by decide) (by simp(disch:=first|decide|omega) only[ab,aa]<;>rfl) (aq ah bF) (aj (o:=bR) 1 (by simp(disch:=first|decide|omega) only[ab,aa]) (by decide) (by decide) (by simp(disch:=first|decide|omega) only[ab,aa]<;>rfl) (aq ah bF) (aj (o:=.cells ((t++[z]).flatMap au) 3 (0,0)) 4 (by simp(disch:=first|decide|omega) only[ab,aa]) (by decide) (by decide) (by simp(disch:=first|decide|omega) only[ab,aa]<;>rfl) (aq ah (bc (br ba _))) bj))) .nil
     intro sq hlq;show bA _ _ _ _ _ _;refine aU hlq ?_;refine ac cO (by simp(disch:=first|decide|omega) only[go_sem]<;>with_reducible rfl) ?_;refine⟨⟨k+1,t++[z],hkl,by rw[ZM];simp only[List.length_cons,List.length_nil];omega⟩,by simp only;omega,?_⟩;simp only;exact ak (by simp(disch:=decide) [ai,ab,aa,ag]) (ap (by decide) (by simp(disch:=first|decide|omega) only[ab,aa]<;>rfl) (ap (by decide) (by simp(disch:=first|decide|omega) only[ab,aa]<;>rfl) (ap (by decide) (by simp(disch:=first|decide|omega) only[ab,aa]<;>rfl) trivial))) (by decide)
    |false=>
     refine aO (by simp(disch:=decide) only[go_sem]<;>with_reducible rfl) ?_;refine aH ?_;show bA _ _ _ _ _ _;refine ac cO (by simp(disch:=first|decide|omega) only[go_sem]<;>with_reducible rfl) ?_;refine⟨⟨k+1,t,hkl,by omega⟩,by simp only;omega,?_⟩;simp only;exact ak (by simp(disch:=decide) [ai,ab,aa,ag]) (ap (by decide) (by simp(disch:=first|decide|omega) only[ab,aa]<;>rfl) (ap (by decide) (by simp(disch:=first|decide|omega) only[ab,aa]<;>rfl) (ap (by decide) (by simp(disch:=first|decide|omega) only[ab,aa]<;>rfl) trivial))) (by decide)
   refine ae (ac cO (by simp(disch:=decide) only[hlos,go_sem]<;>with_reducible rfl) ?_);refine aO (by simp(disch:=first|decide|omega) only[go_sem]<;>with_reducible rfl) ?_;refine bp ?_;show bA _ _ _ _ _ _;obtain⟨t2,ht2⟩:∃t2,t2=oO t:=⟨_,rfl⟩;have ht9:(ao t2).length<=9:=by rw[ht2,iz];omega
   have hot:bk (al au t2)=true:=bL _;have hcs:kO (fun i=>some (i*1,1)) [Value.slice none 0 0] [(0,al au t2)]=some [al au t2]:=by cases t2<;>rfl
   have hcs2:kO (fun i=>some (i,1)) [Value.slice none 0 0] [(0,al au t2)]=some [al au t2]:=by cases t2<;>rfl
   refine aU (s':=⟨aI [(0,some (al bq o)),(2,some (.pointer (some ⟨1,0,none⟩))),(3,some (al bq o3)),(4,some (.int .i64 (i:Int))),(5,some (al au os)),(6,some (.bool true)),(7,some (.int .i64 (b:Int))),(8,some (al au t2))],wd [(0,some (bR)),(1,some (bR))] 2 [] 0,[]⟩) ?hfz ?qfz
   case hfz=>
    rw[ht2];rcases htt:t with _|⟨a0,t0⟩
    ·exact aV [(0,some 0),(1,some 1)] [(0,some 0),(1,some 1)] (by decide) (by decide) (by decide) (af (by decide) rfl (aB bV _ _ ah) (af (by decide) rfl (ay rfl) (af (by decide) rfl (aB bV _ _ ah) (af (by decide) rfl (ar 1 rfl) (af (by decide) rfl (aB ba _ _ ah) (af (by decide) rfl (ar 1 rfl) (af (by decide) rfl (ar 1 rfl) (af (by decide) rfl (ar 1 rfl) aR)))))))) (aj 0 rfl (by decide) (by decide) rfl (aq ah bF) (aj 1 rfl (by decide) (by decide) rfl (aq ah bF) bj)) .nil
    rw[<-htt];have hg1:cA 2 t.length=.slice (some ⟨2,0,none⟩) t.length aM:=by rw[htt];rfl
    have hg2:bN 3 (t.flatMap au) t.length=some (.cells (t.flatMap au) 3 (0,0)):=by rw[htt];rfl
    rw[hg1,hg2,ky (by rw[htt];simp)];have:=gy (P:=Tryz.prog) (k:=1) (F:=[(8,some (.slice (some ⟨2,0,none⟩) t.length aM)),(0,some (al bq o)),(2,some (.pointer (some ⟨1,0,none⟩))),(3,some (al bq o3)),(4,some (.int .i64 (i:Int))),(5,some (al au os)),(6,some (.bool true)),(7,some (.int .i64 (b:Int)))]) (F':=[(0,some (al bq o)),(2,some (.pointer (some ⟨1,0,none⟩))),(3,some (al bq o3)),(4,some (.int .i64 (i:Int))),(5,some (al au os)),(6,some (.bool true)),(7,some (.int .i64 (b:Int)))]) (L:=[(0,some (bR)),(1,some (bR)),(2,some (.cells (t.flatMap au) 3 (0,0)))]) (n:=3) (nl:=0) (lg:=[]) (K:=[(0,some (bR)),(1,some (bR))]) (n':=2) (t:=8) (x:=2) (len:=t.length) (cap:=aM) (g:=au) (l:=t) (c:=t.flatMap au) (e:=3) (fr:=(0,0)) rfl (by decide) rfl (by decide) (by decide) rfl rfl (by show _<=4611686018427387904;omega) ba (by simp(disch:=decide) [ai,ab,aa,ag]) (by decide) (by decide)
     (fun m o h=>by
      have hm:=bX h;simp only[ZU,ZS,or_false,Prod.mk.injEq,Option.some.injEq]at hm;rcases hm with⟨rfl,rfl⟩|⟨rfl,rfl⟩
      ·exact⟨by decide,by decide,rfl,(aq ah bF)⟩
      exact⟨by decide,by decide,rfl,(aq ah bF)⟩) (kb (aB bV _) (kp (by decide) (kb (aB bV _) (kb cQ (kb (aB ba _) (kb m3 (kb cQ trivial)))))))
    refine db.trans ?_ (db.trans this ?_)
    ·exact ak (by simp(disch:=decide) [ai,ab,aa,ag]) (by simp(disch:=decide) [ai,ab,aa,ag];done) (by decide)
    exact ak (by simp(disch:=decide) [ai,ab,aa,ag]) (by simp(disch:=decide) [ai,ab,aa,ag];done) (by decide)
   clear ht2 htk hkl hk;clear t;have hpgo:∀W,bu (cN tH Bj) [al bq o3,al au t2] W=some (.ret (.tuple #[.int .i64 (nC (ao o3) (ao t2):Int),.bool (tk (ao o3) (ao t2))]),W):=fun W=>It (by have:=hall.le;omega) (by omega) (fun u hu=>by have:=hall.el u hu;omega)
   obtain⟨p,hp⟩:∃p,p=nC (ao o3) (ao t2):=⟨_,rfl⟩;have hple:p<=(ao o3).length:=by rw[hp];exact FG _ _
   rw[<-hp]at hpgo;refine ae (ac cO (by simp(disch:=decide) only[Io,hpgo,hoo3,hot,go_sem]<;>with_reducible rfl) ?_);cases hpb:tk (ao o3) (ao t2)with
   |true=>
    refine ae (ac cO (by simp(disch:=decide) only[go_sem]<;>with_reducible rfl) ?_);refine aO (by simp(disch:=decide) only[go_sem]<;>with_reducible rfl) ?_;refine aH ?_;show bA _ _ _ _ _ _;refine ac cO (by simp(disch:=first|decide|omega) only[go_sem]<;>with_reducible rfl) ?_;refine⟨⟨b+1,ao o3,by omega,by omega,hall.mono (by omega)⟩,by simp only;omega,?_⟩;simp only;rw[hlst,<-hoe];exact ak (by simp(disch:=decide) [ai,ab,aa,ag]) (by simp(disch:=decide) [ai,ab,aa,ag];done) (by decide)
   |false=>
    refine ae (ac cO (by simp(disch:=first|decide|omega) only[go_sem]<;>with_reducible rfl) ?_);refine aZ (by simp(disch:=first|decide|omega) only[go_sem]<;>with_reducible rfl) ?_;have hall4:=hall.le;obtain⟨v1,hv1,hl1,hs1,ho1⟩:=sj (g:=bq) (m:=1) iL (o:=o3) (k:=p) hple;obtain⟨v2,hv2,hl2,hs2,ho2⟩:=rX (g:=bq) (m:=1) iL (o:=o3) (k:=p) hple;obtain⟨n1,hn1⟩:∃n,n=((ao o3).drop p).length:=⟨_,rfl⟩;obtain⟨c1,hc1⟩:∃c,c=((ao o3).drop p).flatMap bq:=⟨_,rfl⟩;obtain⟨c2,hc2⟩:∃c,c=((ao o3).take p).flatMap bq:=⟨_,rfl⟩;rw[<-hn1]at hl1 hs1;rw[<-hc1]at hs1;rw[<-hc2]at hs2;have hcl1:c1.length=n1*1:=by rw[hc1,hn1];exact dF iL _
    have hcl2:c2.length=p*1:=by rw[hc2,dF iL,ZR,aai hple]
    have hca1:c1.all bk=true:=by rw[hc1];exact Gf _
    have hca2:c2.all bk=true:=by rw[hc2];exact Gf _
    have hnb:n1<=(ao o3).length:=by rw[hn1,ZV];omega
    have hpcs:∀(fr:XF) (W:XW) (lo hi:Option Operand),fy Tryz.prog fr W (al bq o3) lo hi none (some (.slice 35))=sR bq o3 (cG fr 0 lo) (cG fr (ao o3).length hi):=fun fr W lo hi=>Yd o3
    refine cP cO ⟨aI ((12,some (al bq (some (t2::(ao o3).drop p))))::[(0,some (al bq o)),(2,some (.pointer (some ⟨1,0,none⟩))),(3,some (al bq o3)),(4,some (.int .i64 (i:Int))),(5,some (al au os)),(6,some (.bool true)),(7,some (.int .i64 (b:Int))),(10,some (.int .i64 (p:Int)))]),wd [(0,some (bR)),(1,some (bR))] 2 [] 0,[]⟩ ?hde ?qde
    case hde=>
     by_cases hn0:n1=0
     ·have hd0:(ao o3).drop p=[]:=List.length_eq_zero_iff.1 (by rw[<-hn1,hn0]);have hc0:c1=[]:=by rw[hc1,hd0];rfl
      have hcl1z:c1.length=0:=by rw[hc0];rfl
      rw[hn0]at hl1 hs1;refine⟨?sxea,?hxea,?lxea⟩
      case hxea=>simp(disch:=first|decide|omega) only[hot,hcs,hcs2,hpcs,hv1,hl1,hs1,hca1,ho1,hcl1z,show bm 1=false from rfl,ZW,Z6,show bm 0=false from rfl,ZV,ZR,ZY,aad,aab,Z9,go_sem]<;>with_reducible rfl
      exact gy (t:=12) (x:=2) (len:=1) (cap:=1) (l:=t2::(ao o3).drop p) (c:=[al au t2]) (by simp(disch:=first|decide|omega) only[ab,aa]) (by decide) (by simp(disch:=first|decide|omega) only[ab,aa]<;>rfl) (by decide) (by decide) (by rw[hd0];rfl) (by rw[hd0];rfl) (Nat.le_refl _) bV (by simp(disch:=decide) [ai,ab,aa,ag]) (by decide) (by decide)
       (fun m o h=>by
        have hm:=bX h;simp only[ZU,ZS,or_false,Prod.mk.injEq,Option.some.injEq]at hm;rcases hm with⟨rfl,rfl⟩|⟨rfl,rfl⟩
        ·exact⟨by decide,by decide,by simp(disch:=first|decide|omega) only[ab,aa]<;>rfl,(aq ah bF)⟩
        exact⟨by decide,by decide,by simp(disch:=first|decide|omega) only[ab,aa]<;>rfl,(aq ah bF)⟩) (kb (aB bV _) (kp (by decide) (kb (aB bV _) (kb cQ (kb (aB ba _) (kb m3 (kb cQ (kb cQ trivial))))))))
     have hn1p:0<n1:=by omega
     refine⟨?sxeb,?hxeb,?lxeb⟩
     case hxeb=>simp(disch:=first|decide|omega) only[hot,hcs,hcs2,hpcs,hv1,hl1,hs1,hca1,ho1,hcl1,show bm 1=false from rfl,aak,ZW,Z6,show bm 0=false from rfl,ZV,ZR,ZY,aad,aab,Z9,go_sem]<;>with_reducible rfl
     exact gy (t:=12) (x:=3) (len:=(1+n1)) (cap:=aM) (l:=t2::(ao o3).drop p) (c:=[al au t2]++c1) (by simp(disch:=first|decide|omega) only[ab,aa]) (by decide) (by simp(disch:=first|decide|omega) only[ab,aa]<;>rfl) (by decide) (by decide) (by rw[hc1];rfl) (by rw[List.length_cons,<-hn1];omega) (by show _<=4611686018427387904;omega) bV (by simp(disch:=decide) [ai,ab,aa,ag]) (by decide) (by decide)
      (fun m o h=>by
       have hm:=bX h;simp only[ZU,ZS,or_false,Prod.mk.injEq,Option.some.injEq]at hm;rcases hm with⟨rfl,rfl⟩|⟨rfl,rfl⟩
       ·exact⟨by decide,by decide,by simp(disch:=first|decide|omega) only[ab,aa]<;>rfl,(aq ah bF)⟩
       exact⟨by decide,by decide,by simp(disch:=first|decide|omega) only[ab,aa]<;>rfl,(aq ah bF)⟩) (kb (aB bV _) (kp (by decide) (kb (aB bV _) (kb cQ (kb (aB ba _) (kb m3 (kb cQ (kb cQ trivial))))))))
    have hins:rL (4000+b+1) ((ao o3).take p++t2::(ao o3).drop p):=hall.ins ht9;obtain⟨r,hr⟩:∃r,r=t2::(ao o3).drop p:=⟨_,rfl⟩;rw[<-hr];obtain⟨rn,hrn⟩:∃n,n=r.length:=⟨_,rfl⟩;obtain⟨rc,hrce⟩:∃c,c=r.flatMap bq:=⟨_,rfl⟩;have hrn1:rn=n1+1:=by rw[hrn,hr,List.length_cons,hn1]
    have hrl:lm (al bq (some r))=some rn:=by rw[oU];rw[hrn];rfl
    have hrs:∀W,fg W 1 rn (al bq (some r))=some rc:=fun W=>by rw[hrn,hrce];exact oY (o:=some r) iL
    have hrc:rc.length=rn*1:=by rw[hrce,hrn];exact dF iL _
    have hra:rc.all bk=true:=by rw[hrce];exact Gf _
    refine jV cO ⟨aI ((3,some (al bq (some ((ao o3).take p++r))))::[(0,some (al bq o)),(2,some (.pointer (some ⟨1,0,none⟩))),(4,some (.int .i64 (i:Int))),(5,some (al au os)),(6,some (.bool true)),(7,some (.int .i64 (b:Int)))]),wd [(0,some (bR)),(1,some (bR))] 2 [] 0,[]⟩ ?hdf ?qdf
    case hdf=>
     by_cases hp0:p=0
     ·have hc0:c2=[]:=by rw[hc2,hp0];rfl
      have hcl2z:c2.length=0:=by rw[hc0];rfl
      rw[hp0]at hl2 hs2;rw[hc0]at hs2;refine⟨?sxfa,?hxfa,?lxfa⟩
      case hxfa=>simp(disch:=first|decide|omega) only[hpcs,hv2,hl2,hs2,hca2,ho2,hrl,hrs,hrc,hra,hcl2z,List.nil_append,show bm 0=false from rfl,aak,ZW,Z6,show bm 0=false from rfl,ZV,ZR,ZY,aad,aab,Z9,go_sem]<;>with_reducible rfl
      exact gy (t:=3) (x:=3) (len:=rn) (cap:=aM) (l:=(ao o3).take p++r) (c:=rc) (by simp(disch:=first|decide|omega) only[ab,aa]) (by decide) (by simp(disch:=first|decide|omega) only[ab,aa]<;>rfl) (by decide) (by decide) (by rw[hp0,List.take_zero,List.nil_append,hrce]) (by rw[hp0,List.take_zero,List.nil_append,hrn]) (by show _<=4611686018427387904;omega) bV (by simp(disch:=decide) [ai,ab,aa,ag]) (by decide) (by decide)
       (fun m o h=>by
        have hm:=bX h;simp only[ZU,ZS,or_false,Prod.mk.injEq,Option.some.injEq]at hm;rcases hm with⟨rfl,rfl⟩|⟨rfl,rfl⟩
        ·exact⟨by decide,by decide,by simp(disch:=first|decide|omega) only[ab,aa]<;>rfl,(aq ah bF)⟩
        exact⟨by decide,by decide,by simp(disch:=first|decide|omega) only[ab,aa]<;>rfl,(aq ah bF)⟩) (kb (aB bV _) (kp (by decide) (kb cQ (kb (aB ba _) (kb m3 (kb cQ trivial))))))
     have hp1:0<p:=by omega
     have hct:c2.take (p*1)=c2:=List.take_of_length_le (by rw[hcl2];exact Nat.le_refl _);refine⟨?sxfb,?hxfb,?lxfb⟩
     case hxfb=>simp(disch:=first|decide|omega) only[hpcs,hv2,hl2,hs2,hca2,ho2,hrl,hrs,hrc,hra,hcl2,hct,show bm 0=false from rfl,aak,List.nil_append,Nat.zero_add,ZW,Z6,show bm 0=false from rfl,ZV,ZR,ZY,aad,aab,Z9,go_sem]<;>with_reducible rfl
     exact gy (t:=3) (x:=4) (len:=(p+rn)) (cap:=aM) (l:=(ao o3).take p++r) (c:=c2++rc) (by simp(disch:=first|decide|omega) only[ab,aa]) (by decide) (by simp(disch:=first|decide|omega) only[ab,aa]<;>rfl) (by decide) (by decide) (by rw[hc2,hrce,aap]) (by rw[ZM,ZR,aai hple,hrn]) (by show _<=4611686018427387904;omega) bV (by simp(disch:=decide) [ai,ab,aa,ag]) (by decide) (by decide)
      (fun m o h=>by
       have hm:=bX h;simp only[ZU,ZS,or_false,Prod.mk.injEq,Option.some.injEq]at hm;rcases hm with⟨rfl,rfl⟩|⟨rfl,rfl⟩
       ·exact⟨by decide,by decide,by simp(disch:=first|decide|omega) only[ab,aa]<;>rfl,(aq ah bF)⟩
       exact⟨by decide,by decide,by simp(disch:=first|decide|omega) only[ab,aa]<;>rfl,(aq ah bF)⟩) (kb (aB bV _) (kp (by decide) (kb cQ (kb (aB ba _) (kb m3 (kb cQ trivial))))))
    intro sq hlq;show bA _ _ _ _ _ _;refine aU hlq ?_;rw[<-hr]at hins;have hqn:0<((ao o3).take p++r).length:=by rw[ZM,<-hrn,hrn1];omega
    obtain⟨q,hq⟩:∃q,q=(ao o3).take p++r:=⟨_,rfl⟩;rw[<-hq]at hins hqn ⊢;refine ac cO (by simp(disch:=first|decide|omega) only[go_sem]<;>with_reducible rfl) ?_;refine⟨⟨b+1,q,by omega,by omega,hins⟩,by simp only;omega,?_⟩;simp only;rw[ky hqn];exact ak (by simp(disch:=decide) [ai,ab,aa,ag]) (by simp(disch:=decide) [ai,ab,aa,ag];done) (by decide)
  refine ae ?_;refine cP cO ⟨aI [(0,some (al bq o)),(2,some (.pointer (some ⟨1,0,none⟩))),(3,some (al bq o3)),(4,some (.int .i64 (i:Int))),(5,some (al au os)),(6,some (.bool bo)),(7,some (.int .i64 (b:Int))),(41,some (.bool false))],wd [(0,some (bR)),(1,some (bR))] 2 [] 0,[]⟩ ?hdh ?qdh
  case hdh=>
   cases bo with
   |false=>
    refine⟨?s28,?a28,?b28⟩
    case a28=>simp(disch:=first|decide|omega) only[hlos,go_sem]<;>with_reducible rfl
    exact ak (by simp(disch:=decide) [ai,ab,aa,ag]) (by simp(disch:=decide) [ai,ab,aa,ag]) (by decide)
   |true=>
    have hbl:¬b<2^sn:=fun h=>hcb ⟨rfl,h⟩
    refine⟨?s29,?a29,?b29⟩
    case a29=>simp(disch:=first|decide|omega) only[hlos,go_sem]<;>with_reducible rfl
    exact ak (by simp(disch:=decide) [ai,ab,aa,ag]) (by simp(disch:=decide) [ai,ab,aa,ag]) (by decide)
  refine aO (by simp(disch:=first|decide|omega) only[go_sem]<;>with_reducible rfl) ?_;refine bp ?_;show bA _ _ _ _ _ _;by_cases hbig:4000<(ao o3).length
  ·have hb4:decide (((ao o3).length:Int)>4000)=true:=decide_eq_true (by omega);refine ae (ac cO (by simp(disch:=first|decide|omega) only[hlo3,hb4,go_sem]<;>with_reducible rfl) ?_);refine aZ (by simp(disch:=first|decide|omega) only[go_sem]<;>with_reducible rfl) ?_;refine ae (ac cO (by simp(disch:=first|decide|omega) only[bR,go_sem]<;>with_reducible rfl) ?_);refine bh ?_;refine⟨_,?e34,?W34,rfl,?h34,?q34⟩
   case h34=>simp(disch:=first|decide|omega) only[Tryz.results31,bR,go_sem]<;>with_reducible rfl
   refine⟨[],⟨Z3 _,fun x h=>by(cases h),fun x h=>by(cases h)⟩,rfl,?_,?_⟩
   ·simp(disch:=first|decide|omega) only[bR,go_sem]
   show _<=30;decide
  have hb4:decide (((ao o3).length:Int)>4000)=false:=decide_eq_false (by omega);refine ae (ac cO (by simp(disch:=first|decide|omega) only[hlo3,hb4,go_sem]<;>with_reducible rfl) ?_);refine aO (by simp(disch:=first|decide|omega) only[go_sem]<;>with_reducible rfl) ?_;refine aH ?_;show bA _ _ _ _ _ _;refine ac cO (by simp(disch:=first|decide|omega) only[go_sem]<;>with_reducible rfl) ?_;refine⟨⟨i+1,ao o3,hlt,⟨by omega,hall.el⟩⟩,by simp only;omega,?_⟩;simp only;rw[hlst,<-hoe];exact ak (by simp(disch:=decide) [ai,ab,aa,ag]) (by simp(disch:=decide) [ai,ab,aa,ag];done) (by decide)
 have hall4:=hall.le;refine ae ?_;refine ae (ac cO (by simp(disch:=first|decide|omega) only[hlo,go_sem]<;>with_reducible rfl) ?_);refine aO (by simp(disch:=first|decide|omega) only[go_sem]<;>with_reducible rfl) ?_;refine bp ?_;show bA _ _ _ _ _ _;have hlo3:∀W e,fm W (al bq o3) (some (.slice e))=some (.val (some (.int .i64 ((ao o3).length:Int)))):=fun W e=>da _
 have hoo3:bk (al bq o3)=true:=bL _;clear hlst hoe hlo hoo he ho;clear hlt hi;refine ae (ac cO (by simp(disch:=first|decide|omega) only[go_sem]<;>with_reducible rfl) ?_);refine ae ?_;refine ae (ac cO (by simp(disch:=first|decide|omega) only[go_sem]<;>with_reducible rfl) ?_);refine aD ?_;refine aU (s':=⟨aI [(2,some (.pointer (some ⟨1,0,none⟩))),(3,some (al bq o3)),(13,some (.pointer (some ⟨2,0,none⟩))),(14,some (.int .i64 (((0:Nat):Int):Int)))],wd [(0,some (bR)),(1,some (bR)),(2,some (.cells [.slice none 0 0] 40 (0,0))),(3,none)] 4 [] 0,[]⟩) (ak (by simp(disch:=decide) [ai,ab,aa,ag]) (by simp(disch:=decide) [ai,ab,aa,ag]) (by decide)) ?_;refine bw (α:=YV (ao o3).length) (fun y=>⟨aI [(2,some (.pointer (some ⟨1,0,none⟩))),(3,some (al bq o3)),(13,some (.pointer (some ⟨2,0,none⟩))),(14,some (.int .i64 (y.i:Int)))],wd [(0,some (bR)),(1,some (bR)),(2,some (.cells [cA 3 y.cs.length] 40 (0,0))),(3,bN 58 (y.cs.flatMap an) y.cs.length)] 4 [] 0,[]⟩) (fun y=>(ao o3).length-y.i) ?_ ⟨0,[],Z3 _,rfl,fun x h=>(by cases h),fun x h=>(by cases h)⟩;intro ⟨i,cs,hi,hcl,hid,hfw⟩;simp only;refine ae ?_;by_cases hlt:i<(ao o3).length
 ·obtain⟨u,hu⟩:∃u,u=(ao o3)[i]:=⟨_,rfl⟩;have hiu:∀t,dB Tryz.prog (some (.slice 35)) (some (al bq o3)) (some (.int t ((i:Nat):Int)))=some (.val (some (FP [al au u]))):=fun t=>by rw[hu];exact GY hlt
  have hu9:(ao u).length<=9:=hall.el u (by rw[hu];exact aay hlt);have hlu:∀W e,fm W (al au u) (some (.slice e))=some (.val (some (.int .i64 ((ao u).length:Int)))):=fun W e=>da _
  have hou:bk (al au u)=true:=bL _;clear hu;obtain⟨un,hun⟩:∃n,n=(ao u).length:=⟨_,rfl⟩;rw[<-hun]at hu9 hlu;refine ae (ac cO (by simp(disch:=first|decide|omega) only[hlo3,go_sem]<;>with_reducible rfl) ?_);refine aZ (by simp(disch:=first|decide|omega) only[go_sem]<;>with_reducible rfl) ?_;refine aH ?_;refine ae (aD ?_);refine ae (ac cO (by simp(disch:=first|decide|omega) only[hiu,hld,hlu,go_sem]<;>with_reducible rfl) ?_);refine ae ?_;refine ae (ac cO (by simp(disch:=first|decide|omega) only[go_sem]<;>with_reducible rfl) ?_);refine aD ?_;obtain⟨d,hd⟩:∃d:Int,d=(un:Int)-((1:Nat):Int):=⟨_,rfl⟩;rw[<-hd];refine aU (s':=⟨aI [(2,some (.pointer (some ⟨1,0,none⟩))),(3,some (al bq o3)),(13,some (.pointer (some ⟨2,0,none⟩))),(14,some (.int .i64 (i:Int))),(15,some (.pointer (some ⟨4,0,none⟩))),(16,some (.int .i64 (((0:Nat):Int):Int)))],wd [(0,some (bR)),(1,some (bR)),(2,some (.cells [cA 3 cs.length] 40 (0,0))),(3,bN 58 (cs.flatMap an) cs.length),(4,some (.cells [.int .i64 ((i+1:Nat):Int),.int .i64 d,.slice none 0 0] 58 (0,0))),(5,none)] 6 [] 0,[]⟩) (ak (by simp(disch:=decide) [ai,ab,aa,ag]) (ap (by decide) (by simp(disch:=first|decide|omega) only[ab,aa]<;>rfl) (ap (by decide) (by simp(disch:=first|decide|omega) only[ab,aa]<;>rfl) (ap (by decide) (by simp(disch:=first|decide|omega) only[ab,aa]<;>rfl) (ap (by decide) (by simp(disch:=first|decide|omega) only[ab,aa]<;>rfl) (ap (by decide) (by simp(disch:=first|decide|omega) only[ab,aa]<;>rfl) trivial))))) (by decide)) ?_;refine bw (α:=Zw un) (fun y=>⟨aI [(2,some (.pointer (some ⟨1,0,none⟩))),(3,some (al bq o3)),(13,some (.pointer (some ⟨2,0,none⟩))),(14,some (.int .i64 (i:Int))),(15,some (.pointer (some ⟨4,0,none⟩))),(16,some (.int .i64 (y.k:Int)))],wd [(0,some (bR)),(1,some (bR)),(2,some (.cells [cA 3 cs.length] 40 (0,0))),(3,bN 58 (cs.flatMap an) cs.length),(4,some (.cells [.int .i64 ((i+1:Nat):Int),.int .i64 d,cA 5 y.ss.length] 58 (0,0))),(5,bN 60 (y.ss.flatMap az) y.ss.length)] 6 [] 0,[]⟩) (fun y=>un-y.k) ?_ ⟨0,[],Z3 _,rfl⟩;intro ⟨k,ss,hk,hsl⟩;simp only;refine ae ?_;by_cases hc:k<un/\0<d
  ·obtain⟨hkl,hd0⟩:=hc;have hb0:decide (d>((0:Nat):Int))=true:=decide_eq_true hd0;refine ae (ac cO (by simp(disch:=first|decide|omega) only[hiu,hld,hlu,hb0,go_sem]<;>with_reducible rfl) ?_);refine aZ (by simp(disch:=first|decide|omega) only[go_sem]<;>with_reducible rfl) ?_;refine aH ?_;refine ae (aD ?_);obtain⟨w,hw⟩:∃w,w=(ao u).take k++(ao u).drop (k+1):=⟨_,rfl⟩;have hwl:w.length=un-1:=by rw[hw,ZM,ZR,ZV,<-hun];omega
   obtain⟨v1,hv1,hl1,hs1,ho1⟩:=sj (g:=au) (m:=1) dA (o:=u) (k:=k+1) (by omega);obtain⟨v2,hv2,hl2,hs2,ho2⟩:=rX (g:=au) (m:=1) dA (o:=u) (k:=k) (by omega);obtain⟨n1,hn1⟩:∃n,n=((ao u).drop (k+1)).length:=⟨_,rfl⟩;obtain⟨c1,hc1⟩:∃c,c=((ao u).drop (k+1)).flatMap au:=⟨_,rfl⟩;obtain⟨c2,hc2⟩:∃c,c=((ao u).take k).flatMap au:=⟨_,rfl⟩;rw[<-hn1]at hl1 hs1;rw[<-hc1]at hs1;rw[<-hc2]at hs2;have hcl1:c1.length=n1*1:=by rw[hc1,hn1];exact dF dA _
   have hcl2:c2.length=k*1:=by rw[hc2,dF dA,ZR,aai (by omega)]
   have hca1:c1.all bk=true:=by rw[hc1];exact nH _
   have hca2:c2.all bk=true:=by rw[hc2];exact nH _
   have hn1v:n1=un-(k+1):=by rw[hn1,ZV,<-hun]
   have hcw:c2++c1=w.flatMap au:=by rw[hc1,hc2,hw,aap]
   rw[<-hun]at hv1;have hpcs:∀(fr:XF) (W:XW) (lo hi:Option Operand),fy Tryz.prog fr W (al au u) lo hi none (some (.slice 3))=sR au u (cG fr 0 lo) (cG fr un hi):=fun fr W lo hi=>by rw[hun];exact S4 u
   refine bl cO ⟨aI ((17,some (al au (some w)))::[(2,some (.pointer (some ⟨1,0,none⟩))),(3,some (al bq o3)),(13,some (.pointer (some ⟨2,0,none⟩))),(14,some (.int .i64 (i:Int))),(15,some (.pointer (some ⟨4,0,none⟩))),(16,some (.int .i64 (k:Int)))]),wd [(0,some (bR)),(1,some (bR)),(2,some (.cells [cA 3 cs.length] 40 (0,0))),(3,bN 58 (cs.flatMap an) cs.length),(4,some (.cells [.int .i64 ((i+1:Nat):Int),.int .i64 d,cA 5 ss.length] 58 (0,0))),(5,bN 60 (ss.flatMap az) ss.length)] 6 [] 0,[]⟩ ?hd29 ?qd29
   case hd29=>
    by_cases hk0:k=0
    ·have hn1p:0<n1:=by omega
     have hc0:c2=[]:=by rw[hc2,hk0];rfl
     have hcw0:c1=w.flatMap au:=by rw[<-hcw,hc0];rfl
     rw[hk0]at hl2 hs2;rw[hc0]at hs2;refine⟨?rsp,?sxp,?hxp,?kxp,?lxp⟩
     case hxp=>simp(disch:=first|decide|omega) only[aE.eq_1,aE.eq_2,cm.eq_1,bd.eq_1,bd.eq_2,hiu,hld,hpcs,hv1,hl1,hs1,hca1,ho1,hv2,hl2,hs2,hca2,ho2,hcl1,show bm 0=false from rfl,aak,List.nil_append,Nat.zero_add,ZW,Z6,show bm 0=false from rfl,ZV,ZR,ZY,aad,aab,Z9,go_sem]<;>with_reducible rfl
     case kxp=>
      refine eK (by kernel_rfl) (by kernel_rfl) ?_
      repeat (refine cH (by first|(refine ed (by with_reducible rfl) (by kernel_rfl) (by kernel_rfl) ?_;simp(disch:=first|decide|omega) only[hiu,ij.eq_1,cond_true,go_sem];done)|kernel_rfl) ?_)
      rfl
     exact gy (t:=17) (x:=7) (len:=n1) (cap:=aM) (l:=w) (c:=c1) (by simp(disch:=first|decide|omega) only[ab,aa]) (by decide) (by simp(disch:=first|decide|omega) only[ab,aa]<;>rfl) (by decide) (by decide) hcw0 (by rw[hwl];omega) (by show _<=4611686018427387904;omega) ba (by simp(disch:=decide) [ai,ab,aa,ag]) (by decide) (by decide)
      (fun m o h=>by
       have hm:=bX h;simp only[ZU,ZS,or_false,Prod.mk.injEq,Option.some.injEq]at hm;rcases hm with⟨rfl,rfl⟩|⟨rfl,rfl⟩|⟨rfl,rfl⟩|⟨rfl,hh⟩|⟨rfl,rfl⟩|⟨rfl,hh⟩
       ·exact⟨by decide,by decide,by simp(disch:=first|decide|omega) only[ab,aa]<;>rfl,(aq ah bF)⟩
       ·exact⟨by decide,by decide,by simp(disch:=first|decide|omega) only[ab,aa]<;>rfl,(aq ah bF)⟩
       ·exact⟨by decide,by decide,by simp(disch:=first|decide|omega) only[ab,aa]<;>rfl,(bJ (ax (gG (iy (by decide)) _) aX))⟩
       ·exact⟨by decide,by decide,by simp(disch:=first|decide|omega) only[ab,aa];exact hh.symm,fO ah (br aW _) _ _ hh.symm⟩
       ·exact⟨by decide,by decide,by simp(disch:=first|decide|omega) only[ab,aa]<;>rfl,(bJ (ax (ar 1 rfl) (ax (ar 1 rfl) (ax (gG (iy (by decide)) _) aX))))⟩
       exact⟨by decide,by decide,by simp(disch:=first|decide|omega) only[ab,aa];exact hh.symm,fO ah (br bB _) _ _ hh.symm⟩) (kp (by decide) (kb (aB bV _) (kp (by decide) (kb cQ (kp (by decide) (kb cQ trivial))))))
    have hkp:0<k:=by omega
    have hct:c2.take k=c2:=List.take_of_length_le (by rw[hcl2];omega);by_cases hn0:n1=0
    ·have hd0':(ao u).drop (k+1)=[]:=List.length_eq_zero_iff.1 (by rw[<-hn1,hn0]);have hc0:c1=[]:=by rw[hc1,hd0'];rfl
     have hcw0:c2=w.flatMap au:=by rw[<-hcw,hc0,List.append_nil]
     rw[hn0]at hl1 hs1;rw[hc0]at hs1;have hoc:k.ble aM=true:=Nat.ble_eq_true_of_le (Nat.le_trans (show k<=9 by omega) (by decide));refine⟨?rsr,?sxr,?hxr,?kxr,?lxr⟩
     case hxr=>simp(disch:=first|decide|omega) only[aE.eq_1,aE.eq_2,cm.eq_1,bd.eq_1,bd.eq_2,hiu,hld,hpcs,hv1,hl1,hs1,hca1,ho1,hv2,hl2,hs2,hca2,ho2,hcl2,hoc,show bm 0=false from rfl,aak,List.nil_append,Nat.zero_add,ZW,Z6,show bm 0=false from rfl,ZV,ZR,ZY,aad,aab,Z9,go_sem]<;>with_reducible rfl
     case kxr=>
      refine eK (by kernel_rfl) (by kernel_rfl) ?_
      repeat (refine cH (by first|(refine ed (by with_reducible rfl) (by kernel_rfl) (by kernel_rfl) ?_;simp(disch:=first|decide|omega) only[hiu,ij.eq_1,cond_true,go_sem];done)|kernel_rfl) ?_)
      rfl
     exact gy (t:=17) (x:=7) (len:=k) (cap:=aM) (l:=w) (c:=c2) (by simp(disch:=first|decide|omega) only[ab,aa]) (by decide) (by simp(disch:=first|decide|omega) only[ab,aa]<;>rfl) (by decide) (by decide) hcw0 (by rw[hwl];omega) (by show _<=4611686018427387904;omega) ba (by simp(disch:=decide) [ai,ab,aa,ag]) (by decide) (by decide)
      (fun m o h=>by
       have hm:=bX h;simp only[ZU,ZS,or_false,Prod.mk.injEq,Option.some.injEq]at hm;rcases hm with⟨rfl,rfl⟩|⟨rfl,rfl⟩|⟨rfl,rfl⟩|⟨rfl,hh⟩|⟨rfl,rfl⟩|⟨rfl,hh⟩
       ·exact⟨by decide,by decide,by simp(disch:=first|decide|omega) only[ab,aa]<;>rfl,(aq ah bF)⟩
       ·exact⟨by decide,by decide,by simp(disch:=first|decide|omega) only[ab,aa]<;>rfl,(aq ah bF)⟩
       ·exact⟨by decide,by decide,by simp(disch:=first|decide|omega) only[ab,aa]<;>rfl,(bJ (ax (gG (iy (by decide)) _) aX))⟩
       ·exact⟨by decide,by decide,by simp(disch:=first|decide|omega) only[ab,aa];exact hh.symm,fO ah (br aW _) _ _ hh.symm⟩
       ·exact⟨by decide,by decide,by simp(disch:=first|decide|omega) only[ab,aa]<;>rfl,(bJ (ax (ar 1 rfl) (ax (ar 1 rfl) (ax (gG (iy (by decide)) _) aX))))⟩
       exact⟨by decide,by decide,by simp(disch:=first|decide|omega) only[ab,aa];exact hh.symm,fO ah (br bB _) _ _ hh.symm⟩) (kp (by decide) (kb (aB bV _) (kp (by decide) (kb cQ (kp (by decide) (kb cQ trivial))))))
    have hn1p:0<n1:=by omega
    refine⟨?rst,?sxt,?hxt,?kxt,?lxt⟩
    case hxt=>simp(disch:=first|decide|omega) only[aE.eq_1,aE.eq_2,cm.eq_1,bd.eq_1,bd.eq_2,hiu,hld,hpcs,hv1,hl1,hs1,hca1,ho1,hv2,hl2,hs2,hca2,ho2,hcl1,hcl2,hct,show bm 0=false from rfl,aak,List.nil_append,Nat.zero_add,ZW,Z6,show bm 0=false from rfl,ZV,ZR,ZY,aad,aab,Z9,go_sem]<;>with_reducible rfl
    case kxt=>
     refine eK (by kernel_rfl) (by kernel_rfl) ?_
     repeat (refine cH (by first|(refine ed (by with_reducible rfl) (by kernel_rfl) (by kernel_rfl) ?_;simp(disch:=first|decide|omega) only[hiu,ij.eq_1,cond_true,go_sem];done)|kernel_rfl) ?_)
     rfl
    exact gy (t:=17) (x:=8) (len:=(k+n1)) (cap:=aM) (l:=w) (c:=c2++c1) (by simp(disch:=first|decide|omega) only[ab,aa]) (by decide) (by simp(disch:=first|decide|omega) only[ab,aa]<;>rfl) (by decide) (by decide) hcw (by rw[hwl];omega) (by show _<=4611686018427387904;omega) ba (by simp(disch:=decide) [ai,ab,aa,ag]) (by decide) (by decide)
     (fun m o h=>by
      have hm:=bX h;simp only[ZU,ZS,or_false,Prod.mk.injEq,Option.some.injEq]at hm;rcases hm with⟨rfl,rfl⟩|⟨rfl,rfl⟩|⟨rfl,rfl⟩|⟨rfl,hh⟩|⟨rfl,rfl⟩|⟨rfl,hh⟩
      ·exact⟨by decide,by decide,rfl,(aq ah bF)⟩
      ·exact⟨by decide,by decide,by simp(disch:=first|decide|omega) only[ab,aa]<;>rfl,(aq ah bF)⟩
      ·exact⟨by decide,by decide,by simp(disch:=first|decide|omega) only[ab,aa]<;>rfl,(bJ (ax (gG (iy (by decide)) _) aX))⟩
      ·exact⟨by decide,by decide,by simp(disch:=first|decide|omega) only[ab,aa];exact hh.symm,fO ah (br aW _) _ _ hh.symm⟩
      ·exact⟨by decide,by decide,by simp(disch:=first|decide|omega) only[ab,aa]<;>rfl,(bJ (ax (ar 1 rfl) (ax (ar 1 rfl) (ax (gG (iy (by decide)) _) aX))))⟩
      exact⟨by decide,by decide,by simp(disch:=first|decide|omega) only[ab,aa];exact hh.symm,fO ah (br bB _) _ _ hh.symm⟩) (kp (by decide) (kb (aB bV _) (kp (by decide) (kb cQ (kp (by decide) (kb cQ trivial))))))
   clear hcw hn1v hca1 hca2 hcl1 hcl2 hs1 hs2 hl1 hl2 hv1 hv2 ho1 ho2 hc1 hc2 hn1 hpcs;have how:bk (al au (some w))=true:=bL _;have hpgo:∀W,bu (cN tH Bj) [al bq o3,al au (some w)] W=some (.ret (.tuple #[.int .i64 (nC (ao o3) w:Int),.bool (tk (ao o3) w)]),W):=fun W=>It (s:=some w) (by omega) (by show w.length<=1000000;omega) (fun u hu=>by have:=hall.el u hu;omega)
   obtain⟨pn,hpn⟩:∃p,p=nC (ao o3) w:=⟨_,rfl⟩;have hple:pn<=(ao o3).length:=by rw[hpn];exact FG _ _
   rw[<-hpn]at hpgo;refine ae (ac cO (by simp(disch:=first|decide|omega) only[Io,hpgo,hoo3,how,go_sem]<;>with_reducible rfl) ?_);obtain⟨sd,hsd⟩:∃sd:bC,sd=(((pn+1:Nat):Int),((1:Nat):Int)-((2*(k%2):Nat):Int)):=⟨_,rfl⟩;have hsd1:((pn+1:Nat):Int)=sd.1:=by rw[hsd]
   have hsd2:((1:Nat):Int)-((2*(k%2):Nat):Int)=sd.2:=by rw[hsd]
   have hssb:ss.length<=9:=by omega
   refine jV cO ⟨aI [(2,some (.pointer (some ⟨1,0,none⟩))),(3,some (al bq o3)),(13,some (.pointer (some ⟨2,0,none⟩))),(14,some (.int .i64 (i:Int))),(15,some (.pointer (some ⟨4,0,none⟩))),(16,some (.int .i64 (k:Int)))],wd [(0,some (bR)),(1,some (bR)),(2,some (.cells [cA 3 cs.length] 40 (0,0))),(3,bN 58 (cs.flatMap an) cs.length),(4,some (.cells [.int .i64 ((i+1:Nat):Int),.int .i64 d,cA 5 (ss++[sd]).length] 58 (0,0))),(5,bN 60 ((ss++[sd]).flatMap az) (ss++[sd]).length)] 6 [] 0,[]⟩ ?hds ?qds
   case hds=>
    have hro:(ss.flatMap az++[.int .i64 sd.1,.int .i64 sd.2])=(ss++[sd]).flatMap az:=by rw[aap];rfl
    rcases htt:ss with _|⟨a0,t0⟩
    ·have hr1:[.int .i64 sd.1,.int .i64 sd.2]=[sd].flatMap az:=rfl;refine⟨?sxsa,?hxsa,?lxsa⟩
     case hxsa=>simp(disch:=first|decide|omega) only[hsd1,hsd2,cA.eq_1,bN.eq_1,List.length_nil,show bm 0=false from rfl,ZW,Z6,show bm 0=false from rfl,ZV,ZR,ZY,aad,aab,Z9,go_sem]<;>with_reducible rfl
     simp only[List.nil_append,ZM,List.length_cons,List.length_nil,Nat.zero_add,cA.eq_2,bN.eq_2];exact aV [(0,some 0),(1,some 1),(2,some 2),(3,some 3),(4,some 4),(7,some 5)] [(0,some 0),(1,some 1),(2,some 2),(3,some 3),(4,some 4),(5,some 7)] (by decide) (by decide) (by decide) (af (v:=.pointer (some ⟨1,0,none⟩)) (by decide) (by simp(disch:=first|decide|omega) only[ab,aa]<;>rfl) (ay (by simp(disch:=first|decide|omega) only[ab,aa])) (af (v:=al bq o3) (by decide) (by simp(disch:=first|decide|omega) only[ab,aa]<;>rfl) (aB bV _ _ ah) (af (v:=.pointer (some ⟨2,0,none⟩)) (by decide) (by simp(disch:=first|decide|omega) only[ab,aa]<;>rfl) (ay (by simp(disch:=first|decide|omega) only[ab,aa])) (af (v:=.int .i64 (i:Int)) (by decide) (by simp(disch:=first|decide|omega) only[ab,aa]<;>rfl) (ar 1 rfl) (af (v:=.pointer (some ⟨4,0,none⟩)) (by decide) (by simp(disch:=first|decide|omega) only[ab,aa]<;>rfl) (ay (by simp(disch:=first|decide|omega) only[ab,aa])) (af (v:=.int .i64 (k:Int)) (by decide) (by simp(disch:=first|decide|omega) only[ab,aa]<;>rfl) (ar 1 rfl) aR)))))) (aj (o:=bR) 0 (by simp(disch:=first|decide|omega) only[ab,aa]) (by decide) (by decide) (by simp(disch:=first|decide|omega) only[ab,aa]<;>rfl) (aq ah bF) (aj (o:=bR) 1 (by simp(disch:=first|decide|omega) only[ab,aa]) (by decide) (by decide) (by simp(disch:=first|decide|omega) only[ab,aa]<;>rfl) (aq ah bF) (aj (o:=.cells [cA 3 cs.length] 40 (0,0)) 2 (by simp(disch:=first|decide|omega) only[ab,aa]) (by decide) (by decide) (by simp(disch:=first|decide|omega) only[ab,aa]<;>rfl) (bJ (ax (gG (by simp(disch:=first|decide|omega) only[ab,aa]) _) aX)) (gc 3 (by simp(disch:=first|decide|omega) only[ab,aa]) (by decide) (by decide) (by simp(disch:=first|decide|omega) only[ab,aa]<;>rfl) (fO ah (br aW _) _) (aj (o:=.cells [.int .i64 ((i+1:Nat):Int),.int .i64 d,.slice (some ⟨7,0,none⟩) 1 aM] 58 (0,0)) 4 (by simp(disch:=first|decide|omega) only[ab,aa]) (by decide) (by decide) (by simp(disch:=first|decide|omega) only[ab,aa]<;>rfl) (bJ (ax (ar 1 rfl) (ax (ar 1 rfl) (ax (bI (by simp(disch:=first|decide|omega) only[ab,aa])) aX)))) (aj (o:=.cells ([sd].flatMap az) 60 (0,0)) 7 (by simp(disch:=first|decide|omega) only[ab,aa]) (by decide) (by decide) (by simp(disch:=first|decide|omega) only[ab,aa]<;>rfl) (aq ah (bc (br bB _))) bj)))))) .nil
    have hg1:cA 5 (a0::t0).length=.slice (some ⟨5,0,none⟩) ss.length aM:=by rw[htt];rfl
    have hg2:bN 60 ((a0::t0).flatMap az) (a0::t0).length=some (.cells (ss.flatMap az) 60 (0,0)):=by rw[htt];rfl
    rw[hg1,hg2,<-htt];have hrl:(ss.flatMap az).length=ss.length*2:=dF cW _;have hrt:(ss.flatMap az).take (ss.length*2)=ss.flatMap az:=List.take_of_length_le (by rw[hrl];exact Nat.le_refl _);have hrl1:=hrl;have hrt1:=hrt;have hal:=Hg ss;refine⟨?sxsb,?hxsb,?lxsb⟩
    case hxsb=>simp(disch:=first|decide|omega) only[hsd1,hsd2,hrl1,hrt1,hro,hal,ZW,Z6,show bm 0=false from rfl,ZV,ZR,ZY,aad,aab,Z9,go_sem]<;>with_reducible rfl
    simp only[List.nil_append,ZM,List.length_cons,List.length_nil,Nat.zero_add,cA.eq_2,bN.eq_2];exact aV [(0,some 0),(1,some 1),(2,some 2),(3,some 3),(4,some 4),(7,some 5)] [(0,some 0),(1,some 1),(2,some 2),(3,some 3),(4,some 4),(5,some 7)] (by decide) (by decide) (by decide) (af (v:=.pointer (some ⟨1,0,none⟩)) (by decide) (by simp(disch:=first|decide|omega) only[ab,aa]<;>rfl) (ay (by simp(disch:=first|decide|omega) only[ab,aa])) (af (v:=al bq o3) (by decide) (by simp(disch:=first|decide|omega) only[ab,aa]<;>rfl) (aB bV _ _ ah) (af (v:=.pointer (some ⟨2,0,none⟩)) (by decide) (by simp(disch:=first|decide|omega) only[ab,aa]<;>rfl) (ay (by simp(disch:=first|decide|omega) only[ab,aa])) (af (v:=.int .i64 (i:Int)) (by decide) (by simp(disch:=first|decide|omega) only[ab,aa]<;>rfl) (ar 1 rfl) (af (v:=.pointer (some ⟨4,0,none⟩)) (by decide) (by simp(disch:=first|decide|omega) only[ab,aa]<;>rfl) (ay (by simp(disch:=first|decide|omega) only[ab,aa])) (af (v:=.int .i64 (k:Int)) (by decide) (by simp(disch:=first|decide|omega) only[ab,aa]<;>rfl) (ar 1 rfl) aR)))))) (aj (o:=bR) 0 (by simp(disch:=first|decide|omega) only[ab,aa]) (by decide) (by decide) (by simp(disch:=first|decide|omega) only[ab,aa]<;>rfl) (aq ah bF) (aj (o:=bR) 1 (by simp(disch:=first|decide|omega) only[ab,aa]) (by decide) (by decide) (by simp(disch:=first|decide|omega) only[ab,aa]<;>rfl) (aq ah bF) (aj (o:=.cells [cA 3 cs.length] 40 (0,0)) 2 (by simp(disch:=first|decide|omega) only[ab,aa]) (by decide) (by decide) (by simp(disch:=first|decide|omega) only[ab,aa]<;>rfl) (bJ (ax (gG (by simp(disch:=first|decide|omega) only[ab,aa]) _) aX)) (gc 3 (by simp(disch:=first|decide|omega) only[ab,aa]) (by decide) (by decide) (by simp(disch:=first|decide|omega) only[ab,aa]<;>rfl) (fO ah (br aW _) _) (aj (o:=.cells [.int .i64 ((i+1:Nat):Int),.int .i64 d,.slice (some ⟨7,0,none⟩) (ss.length+1) aM] 58 (0,0)) 4 (by simp(disch:=first|decide|omega) only[ab,aa]) (by decide) (by decide) (by simp(disch:=first|decide|omega) only[ab,aa]<;>rfl) (bJ (ax (ar 1 rfl) (ax (ar 1 rfl) (ax (bI (by simp(disch:=first|decide|omega) only[ab,aa])) aX)))) (aj (o:=.cells ((ss++[sd]).flatMap az) 60 (0,0)) 7 (by simp(disch:=first|decide|omega) only[ab,aa]) (by decide) (by decide) (by simp(disch:=first|decide|omega) only[ab,aa]<;>rfl) (aq ah (bc (br bB _))) bj)))))) .nil
   intro sq hlq;show bA _ _ _ _ _ _;refine aU hlq ?_;refine ac cO (by simp(disch:=first|decide|omega) only[go_sem]<;>with_reducible rfl) ?_;refine⟨⟨k+1,ss++[sd],hkl,by rw[ZM,hsl];rfl⟩,by simp only;omega,?_⟩;simp only;exact ak (by simp(disch:=decide) [ai,ab,aa,ag]) (ap (by decide) (by simp(disch:=first|decide|omega) only[ab,aa]<;>rfl) (ap (by decide) (by simp(disch:=first|decide|omega) only[ab,aa]<;>rfl) (ap (by decide) (by simp(disch:=first|decide|omega) only[ab,aa]<;>rfl) (ap (by decide) (by simp(disch:=first|decide|omega) only[ab,aa]<;>rfl) (ap (by decide) (by simp(disch:=first|decide|omega) only[ab,aa]<;>rfl) (ap (by decide) (by simp(disch:=first|decide|omega) only[ab,aa]<;>rfl) trivial)))))) (by decide)
  refine cP cO ⟨aI [(2,some (.pointer (some ⟨1,0,none⟩))),(3,some (al bq o3)),(13,some (.pointer (some ⟨2,0,none⟩))),(14,some (.int .i64 (i:Int))),(15,some (.pointer (some ⟨4,0,none⟩))),(16,some (.int .i64 (k:Int))),(113,some (.bool false))],wd [(0,some (bR)),(1,some (bR)),(2,some (.cells [cA 3 cs.length] 40 (0,0))),(3,bN 58 (cs.flatMap an) cs.length),(4,some (.cells [.int .i64 ((i+1:Nat):Int),.int .i64 d,cA 5 ss.length] 58 (0,0))),(5,bN 60 (ss.flatMap az) ss.length)] 6 [] 0,[]⟩ ?hdj ?qdj
  case hdj=>
   by_cases hkl:k<un
   ·have hb0:decide (d>((0:Nat):Int))=false:=decide_eq_false fun h=>hc ⟨hkl,h⟩
    refine⟨?sj1,?aj1,?bj1⟩
    case aj1=>simp(disch:=first|decide|omega) only[hiu,hld,hlu,hb0,go_sem]<;>with_reducible rfl
    case bj1=>exact ak (by simp(disch:=decide) [ai,ab,aa,ag]) (ap (by decide) (by simp(disch:=first|decide|omega) only[ab,aa]<;>rfl) (ap (by decide) (by simp(disch:=first|decide|omega) only[ab,aa]<;>rfl) (ap (by decide) (by simp(disch:=first|decide|omega) only[ab,aa]<;>rfl) (ap (by decide) (by simp(disch:=first|decide|omega) only[ab,aa]<;>rfl) (ap (by decide) (by simp(disch:=first|decide|omega) only[ab,aa]<;>rfl) (ap (by decide) (by simp(disch:=first|decide|omega) only[ab,aa]<;>rfl) trivial)))))) (by decide)
   refine⟨?sj2,?aj2,?bj2⟩
   case aj2=>simp(disch:=first|decide|omega) only[hiu,hld,hlu,go_sem]<;>with_reducible rfl
   case bj2=>exact ak (by simp(disch:=decide) [ai,ab,aa,ag]) (ap (by decide) (by simp(disch:=first|decide|omega) only[ab,aa]<;>rfl) (ap (by decide) (by simp(disch:=first|decide|omega) only[ab,aa]<;>rfl) (ap (by decide) (by simp(disch:=first|decide|omega) only[ab,aa]<;>rfl) (ap (by decide) (by simp(disch:=first|decide|omega) only[ab,aa]<;>rfl) (ap (by decide) (by simp(disch:=first|decide|omega) only[ab,aa]<;>rfl) (ap (by decide) (by simp(disch:=first|decide|omega) only[ab,aa]<;>rfl) trivial)))))) (by decide)
  refine aO (by simp(disch:=first|decide|omega) only[go_sem]<;>with_reducible rfl) ?_;refine bp ?_;show bA _ _ _ _ _ _;have hssb:ss.length<=9:=by omega
  refine aU (s':=⟨aI [(2,some (.pointer (some ⟨1,0,none⟩))),(3,some (al bq o3)),(13,some (.pointer (some ⟨2,0,none⟩))),(14,some (.int .i64 (i:Int))),(15,some (.pointer (some ⟨4,0,none⟩)))],wd [(0,some (bR)),(1,some (bR)),(2,some (.cells [cA 3 cs.length] 40 (0,0))),(3,bN 58 (cs.flatMap an) cs.length),(4,some (.cells [.int .i64 ((i+1:Nat):Int),.int .i64 d,al az (oO ss)] 58 (0,0)))] 5 [] 0,[]⟩) ?hopu ?qopu
  case hopu=>
   rcases hll:ss with _|⟨a0,l0⟩
   ·exact aV [(0,some 0),(1,some 1),(2,some 2),(3,some 3),(4,some 4)] [(0,some 0),(1,some 1),(2,some 2),(3,some 3),(4,some 4)] (by decide) (by decide) (by decide) (af (v:=.pointer (some ⟨1,0,none⟩)) (by decide) (by simp(disch:=first|decide|omega) only[ab,aa]<;>rfl) (ay (by simp(disch:=first|decide|omega) only[ab,aa])) (af (v:=al bq o3) (by decide) (by simp(disch:=first|decide|omega) only[ab,aa]<;>rfl) (aB bV _ _ ah) (af (v:=.pointer (some ⟨2,0,none⟩)) (by decide) (by simp(disch:=first|decide|omega) only[ab,aa]<;>rfl) (ay (by simp(disch:=first|decide|omega) only[ab,aa])) (af (v:=.int .i64 (i:Int)) (by decide) (by simp(disch:=first|decide|omega) only[ab,aa]<;>rfl) (ar 1 rfl) (af (v:=.pointer (some ⟨4,0,none⟩)) (by decide) (by simp(disch:=first|decide|omega) only[ab,aa]<;>rfl) (ay (by simp(disch:=first|decide|omega) only[ab,aa])) aR))))) (aj (o:=bR) 0 (by simp(disch:=first|decide|omega) only[ab,aa]) (by decide) (by decide) (by simp(disch:=first|decide|omega) only[ab,aa]<;>rfl) (aq ah bF) (aj (o:=bR) 1 (by simp(disch:=first|decide|omega) only[ab,aa]) (by decide) (by decide) (by simp(disch:=first|decide|omega) only[ab,aa]<;>rfl) (aq ah bF) (aj (o:=.cells [cA 3 cs.length] 40 (0,0)) 2 (by simp(disch:=first|decide|omega) only[ab,aa]) (by decide) (by decide) (by simp(disch:=first|decide|omega) only[ab,aa]<;>rfl) (bJ (ax (gG (by simp(disch:=first|decide|omega) only[ab,aa]) _) aX)) (gc 3 (by simp(disch:=first|decide|omega) only[ab,aa]) (by decide) (by decide) (by simp(disch:=first|decide|omega) only[ab,aa]<;>rfl) (fO ah (br aW _) _) (aj (o:=.cells [.int .i64 ((i+1:Nat):Int),.int .i64 d,.slice none 0 0] 58 (0,0)) 4 (by simp(disch:=first|decide|omega) only[ab,aa]) (by decide) (by decide) (by simp(disch:=first|decide|omega) only[ab,aa]<;>rfl) (aq ah (bc (aw (aG 1 rfl) (aw (aG 1 rfl) (aw (aG 1 rfl) aQ))))) bj))))) .nil
   rw[<-hll];have hg1:cA 5 ss.length=.slice (some ⟨5,0,none⟩) ss.length aM:=by rw[hll];rfl
   have hg2:bN 60 (ss.flatMap az) ss.length=some (.cells (ss.flatMap az) 60 (0,0)):=by rw[hll];rfl
   rw[hg1,hg2,ky (by rw[hll];simp)];have hch:=Ab (P:=Tryz.prog) (k:=1) (F:=[(2,some (.pointer (some ⟨1,0,none⟩))),(3,some (al bq o3)),(13,some (.pointer (some ⟨2,0,none⟩))),(14,some (.int .i64 (i:Int))),(15,some (.pointer (some ⟨4,0,none⟩)))]) (L:=[(0,some (bR)),(1,some (bR)),(2,some (.cells [cA 3 cs.length] 40 (0,0))),(3,bN 58 (cs.flatMap an) cs.length),(4,some (.cells [.int .i64 ((i+1:Nat):Int),.int .i64 d,.slice (some ⟨5,0,none⟩) ss.length aM] 58 (0,0))),(5,some (.cells (ss.flatMap az) 60 (0,0)))]) (n:=6) (nl:=0) (lg:=[]) (x:=5) (m:=4) (i:=2) (d:=[.int .i64 ((i+1:Nat):Int),.int .i64 d,.slice (some ⟨5,0,none⟩) ss.length aM]) (c:=ss.flatMap az) (e:=60) (e2:=58) (fr:=(0,0)) (fr2:=(0,0)) (len:=ss.length) (cap:=aM) (ss.flatMap az).length rfl rfl rfl (by decide) (by decide) (by decide) (by show _<=4611686018427387904;omega) (fun h0=>by rw[dF cW,h0,aab]);rw[List.take_length]at hch;refine db.trans (db.trans ?_ hch) ?_
   ·exact ak (by simp(disch:=decide) [ai,ab,aa,ag]) (ap (by decide) (by simp(disch:=first|decide|omega) only[ab,aa]<;>rfl) (ap (by decide) (by simp(disch:=first|decide|omega) only[ab,aa]<;>rfl) (ap (by decide) (by simp(disch:=first|decide|omega) only[ab,aa]<;>rfl) (ap (by decide) (by simp(disch:=first|decide|omega) only[ab,aa]<;>rfl) (ap (by decide) (by simp(disch:=first|decide|omega) only[ab,aa]<;>rfl) (ap (by decide) (by simp(disch:=first|decide|omega) only[ab,aa]<;>rfl) trivial)))))) (by decide)
   exact aV [(0,some 0),(1,some 1),(2,some 2),(3,some 3),(4,some 4)] [(0,some 0),(1,some 1),(2,some 2),(3,some 3),(4,some 4)] (by decide) (by decide) (by decide) (af (v:=.pointer (some ⟨1,0,none⟩)) (by decide) (by simp(disch:=first|decide|omega) only[ab,aa]<;>rfl) (ay (by simp(disch:=first|decide|omega) only[ab,aa])) (af (v:=al bq o3) (by decide) (by simp(disch:=first|decide|omega) only[ab,aa]<;>rfl) (aB bV _ _ ah) (af (v:=.pointer (some ⟨2,0,none⟩)) (by decide) (by simp(disch:=first|decide|omega) only[ab,aa]<;>rfl) (ay (by simp(disch:=first|decide|omega) only[ab,aa])) (af (v:=.int .i64 (i:Int)) (by decide) (by simp(disch:=first|decide|omega) only[ab,aa]<;>rfl) (ar 1 rfl) (af (v:=.pointer (some ⟨4,0,none⟩)) (by decide) (by simp(disch:=first|decide|omega) only[ab,aa]<;>rfl) (ay (by simp(disch:=first|decide|omega) only[ab,aa])) aR))))) (aj (o:=bR) 0 (by simp(disch:=first|decide|omega) only[ab,aa]) (by decide) (by decide) (by simp(disch:=first|decide|omega) only[ab,aa]<;>rfl) (aq ah bF) (aj (o:=bR) 1 (by simp(disch:=first|decide|omega) only[ab,aa]) (by decide) (by decide) (by simp(disch:=first|decide|omega) only[ab,aa]<;>rfl) (aq ah bF) (aj (o:=.cells [cA 3 cs.length] 40 (0,0)) 2 (by simp(disch:=first|decide|omega) only[ab,aa]) (by decide) (by decide) (by simp(disch:=first|decide|omega) only[ab,aa]<;>rfl) (bJ (ax (gG (by simp(disch:=first|decide|omega) only[ab,aa]) _) aX)) (gc 3 (by simp(disch:=first|decide|omega) only[ab,aa]) (by decide) (by decide) (by simp(disch:=first|decide|omega) only[ab,aa]<;>rfl) (fO ah (br aW _) _) (aj (o:=.cells [.int .i64 ((i+1:Nat):Int),.int .i64 d,al az (some ss)] 58 (0,0)) 4 (by simp(disch:=first|decide|omega) only[ab,aa]) (by decide) (by decide) (by simp(disch:=first|decide|omega) only[ab,aa]<;>rfl) (aq ah (bc (aw (aG 1 rfl) (aw (aG 1 rfl) (aw (aB bB _) aQ))))) bj))))) .nil
  obtain⟨s1,hs1⟩:∃s1,s1=oO ss:=⟨_,rfl⟩;have hs1l:(ao s1).length=ss.length:=by rw[hs1,iz]
  rw[<-hs1];have hos1:bk (al az s1)=true:=bL _;obtain⟨s2,hs2⟩:∃s2,s2=oO (tq (ao s1) []):=⟨_,rfl⟩;have hs2l:(ao s2).length<=9:=by rw[hs2,iz,CY,hs1l];simp only[List.length_nil];omega
  have hos2:bk (al az s2)=true:=bL _;have hsgo:∀W,bu (cN wl fun p=>tB (ao p.a)) [al az s1] W=some (.ret (al az s2),W):=fun W=>by rw[SU (by omega),hs2];rfl
  have hcm2:(al az s2).cells=#[al az s2]:=by cases s2<;>rfl
  unfold Value.cells at hcm2;refine ae (ac cO (by simp(disch:=decide) only[Io,hsgo,hos1,hos2,hcm2,go_sem]<;>with_reducible rfl) ?_);obtain⟨x,hx⟩:∃x:aC,x=⟨((i+1:Nat):Int),d,s2⟩:=⟨_,rfl⟩;have hx1:((i+1:Nat):Int)=x.id:=by rw[hx]
  have hx2:d=x.dim:=by rw[hx]
  have hx3:s2=x.sides:=by rw[hx]
  have hxid:0<x.id/\x.id<=4001:=by rw[<-hx1];omega
  rw[hx3]at hs2l hos2;refine aU (s':=⟨aI [(2,some (.pointer (some ⟨1,0,none⟩))),(3,some (al bq o3)),(13,some (.pointer (some ⟨2,0,none⟩))),(14,some (.int .i64 (i:Int))),(15,some (.pointer (some ⟨4,0,none⟩)))],wd [(0,some (bR)),(1,some (bR)),(2,some (.cells [cA 3 cs.length] 40 (0,0))),(3,bN 58 (cs.flatMap an) cs.length),(4,some (.cells [.int .i64 x.id,.int .i64 x.dim,al az x.sides] 58 (0,0)))] 5 [] 0,[]⟩) ?hbx ?qbx
  case hbx=>rw[<-hx1,<-hx2,<-hx3];exact ak (by simp(disch:=decide) [ai,ab,aa,ag]) (ap (by decide) rfl (ap (by decide) rfl (ap (by decide) rfl (ap (by decide) rfl (ap (by decide) rfl trivial))))) (by decide)
  have hcsb:cs.length<=4000:=by omega
  refine jV cO ⟨aI [(2,some (.pointer (some ⟨1,0,none⟩))),(3,some (al bq o3)),(13,some (.pointer (some ⟨2,0,none⟩))),(14,some (.int .i64 (i:Int)))],wd [(0,some (bR)),(1,some (bR)),(2,some (.cells [cA 3 (cs++[x]).length] 40 (0,0))),(3,bN 58 ((cs++[x]).flatMap an) (cs++[x]).length)] 4 [] 0,[]⟩ ?hdv ?qdv
  case hdv=>
   have hro:(cs.flatMap an++[.int .i64 x.id,.int .i64 x.dim,al az x.sides])=(cs++[x]).flatMap an:=by rw[aap];rfl
   rcases htt:cs with _|⟨a0,t0⟩
   ·have hr1:[.int .i64 x.id,.int .i64 x.dim,al az x.sides]=[x].flatMap an:=rfl;refine⟨?sxva,?hxva,?lxva⟩
    case hxva=>simp(disch:=decide) only[hos2,cA.eq_1,bN.eq_1,List.length_nil,show bm 0=false from rfl,ZW,Z6,show bm 0=false from rfl,ZV,ZR,ZY,aad,aab,Z9,go_sem]<;>with_reducible rfl
    simp only[List.nil_append,ZM,List.length_cons,List.length_nil,Nat.zero_add,cA.eq_2,bN.eq_2];exact aV [(0,some 0),(1,some 1),(2,some 2),(6,some 3)] [(0,some 0),(1,some 1),(2,some 2),(3,some 6)] (by decide) (by decide) (by decide) (af (v:=.pointer (some ⟨1,0,none⟩)) (by decide) (by simp(disch:=first|decide|omega) only[ab,aa]<;>rfl) (ay (by simp(disch:=first|decide|omega) only[ab,aa])) (af (v:=al bq o3) (by decide) (by simp(disch:=first|decide|omega) only[ab,aa]<;>rfl) (aB bV _ _ ah) (af (v:=.pointer (some ⟨2,0,none⟩)) (by decide) (by simp(disch:=first|decide|omega) only[ab,aa]<;>rfl) (ay (by simp(disch:=first|decide|omega) only[ab,aa])) (af (v:=.int .i64 (i:Int)) (by decide) (by simp(disch:=first|decide|omega) only[ab,aa]<;>rfl) (ar 1 rfl) aR)))) (aj (o:=bR) 0 (by simp(disch:=first|decide|omega) only[ab,aa]) (by decide) (by decide) (by simp(disch:=first|decide|omega) only[ab,aa]<;>rfl) (aq ah bF) (aj (o:=bR) 1 (by simp(disch:=first|decide|omega) only[ab,aa]) (by decide) (by decide) (by simp(disch:=first|decide|omega) only[ab,aa]<;>rfl) (aq ah bF) (aj (o:=.cells [.slice (some ⟨6,0,none⟩) 1 aM] 40 (0,0)) 2 (by simp(disch:=first|decide|omega) only[ab,aa]) (by decide) (by decide) (by simp(disch:=first|decide|omega) only[ab,aa]<;>rfl) (bJ (ax (bI (by simp(disch:=first|decide|omega) only[ab,aa])) aX)) (aj (o:=.cells ([x].flatMap an) 58 (0,0)) 6 (by simp(disch:=first|decide|omega) only[ab,aa]) (by decide) (by decide) (by simp(disch:=first|decide|omega) only[ab,aa]<;>rfl) (aq ah (bc (br aW _))) bj)))) .nil
   have hg1:cA 3 (a0::t0).length=.slice (some ⟨3,0,none⟩) cs.length aM:=by rw[htt];rfl
   have hg2:bN 58 ((a0::t0).flatMap an) (a0::t0).length=some (.cells (cs.flatMap an) 58 (0,0)):=by rw[htt];rfl
   rw[hg1,hg2,<-htt];have hrl:(cs.flatMap an).length=cs.length*3:=dF cD _;have hrt:(cs.flatMap an).take (cs.length*3)=cs.flatMap an:=List.take_of_length_le (by rw[hrl];exact Nat.le_refl _);have hrl1:=hrl;have hrt1:=hrt;have hal:=Ss cs;refine⟨?sxvb,?hxvb,?lxvb⟩
   case hxvb=>simp(disch:=first|decide|omega) only[hos2,hrl1,hrt1,hro,hal,ZW,Z6,show bm 0=false from rfl,ZV,ZR,ZY,aad,aab,Z9,go_sem]<;>with_reducible rfl
   simp only[List.nil_append,ZM,List.length_cons,List.length_nil,Nat.zero_add,cA.eq_2,bN.eq_2];exact aV [(0,some 0),(1,some 1),(2,some 2),(6,some 3)] [(0,some 0),(1,some 1),(2,some 2),(3,some 6)] (by decide) (by decide) (by decide) (af (v:=.pointer (some ⟨1,0,none⟩)) (by decide) (by simp(disch:=first|decide|omega) only[ab,aa]<;>rfl) (ay (by simp(disch:=first|decide|omega) only[ab,aa])) (af (v:=al bq o3) (by decide) (by simp(disch:=first|decide|omega) only[ab,aa]<;>rfl) (aB bV _ _ ah) (af (v:=.pointer (some ⟨2,0,none⟩)) (by decide) (by simp(disch:=first|decide|omega) only[ab,aa]<;>rfl) (ay (by simp(disch:=first|decide|omega) only[ab,aa])) (af (v:=.int .i64 (i:Int)) (by decide) (by simp(disch:=first|decide|omega) only[ab,aa]<;>rfl) (ar 1 rfl) aR)))) (aj (o:=bR) 0 (by simp(disch:=first|decide|omega) only[ab,aa]) (by decide) (by decide) (by simp(disch:=first|decide|omega) only[ab,aa]<;>rfl) (aq ah bF) (aj (o:=bR) 1 (by simp(disch:=first|decide|omega) only[ab,aa]) (by decide) (by decide) (by simp(disch:=first|decide|omega) only[ab,aa]<;>rfl) (aq ah bF) (aj (o:=.cells [.slice (some ⟨6,0,none⟩) (cs.length+1) aM] 40 (0,0)) 2 (by simp(disch:=first|decide|omega) only[ab,aa]) (by decide) (by decide) (by simp(disch:=first|decide|omega) only[ab,aa]<;>rfl) (bJ (ax (bI (by simp(disch:=first|decide|omega) only[ab,aa])) aX)) (aj (o:=.cells ((cs++[x]).flatMap an) 58 (0,0)) 6 (by simp(disch:=first|decide|omega) only[ab,aa]) (by decide) (by decide) (by simp(disch:=first|decide|omega) only[ab,aa]<;>rfl) (aq ah (bc (br aW _))) bj)))) .nil
  intro sq hlq;show bA _ _ _ _ _ _;refine aU hlq ?_;refine ac cO (by simp(disch:=first|decide|omega) only[go_sem]<;>with_reducible rfl) ?_;refine⟨⟨i+1,cs++[x],hlt,by rw[ZM,hcl];rfl,fun y hy=>?_,fun y hy=>?_⟩,by simp only;omega,?_⟩
  ·rcases List.mem_append.1 hy with hy|hy
   ·exact hid y hy
   have:y=x:=by simpa using hy
   rw[this];exact hxid
  ·rcases List.mem_append.1 hy with hy|hy
   ·exact hfw y hy
   have:y=x:=by simpa using hy
   rw[this];exact hs2l
  simp only;exact ak (by simp(disch:=decide) [ai,ab,aa,ag]) (ap (by decide) (by simp(disch:=first|decide|omega) only[ab,aa]<;>rfl) (ap (by decide) (by simp(disch:=first|decide|omega) only[ab,aa]<;>rfl) (ap (by decide) (by simp(disch:=first|decide|omega) only[ab,aa]<;>rfl) (ap (by decide) (by simp(disch:=first|decide|omega) only[ab,aa]<;>rfl) trivial)))) (by decide)
 have hcsb:cs.length<=4000:=by omega
 refine ae (ac cO (by simp(disch:=decide) only[hlo3,go_sem]<;>with_reducible rfl) ?_);refine aO (by simp(disch:=first|decide|omega) only[go_sem]<;>with_reducible rfl) ?_;refine bp ?_;show bA _ _ _ _ _ _;refine aU (s':=⟨aI [(2,some (.pointer (some ⟨1,0,none⟩))),(13,some (.pointer (some ⟨2,0,none⟩)))],wd [(0,some (bR)),(1,some (bR)),(2,some (.cells [al an (oO cs)] 40 (0,0)))] 3 [] 0,[]⟩) ?hopw ?qopw
 case hopw=>
  rcases hll:cs with _|⟨a0,l0⟩
  ·exact aV [(0,some 0),(1,some 1),(2,some 2)] [(0,some 0),(1,some 1),(2,some 2)] (by decide) (by decide) (by decide) (af (by decide) rfl (ay rfl) (af (by decide) rfl (ay rfl) aR)) (aj 0 rfl (by decide) (by decide) rfl (aq ah bF) (aj 1 rfl (by decide) (by decide) rfl (aq ah bF) (aj 2 rfl (by decide) (by decide) rfl (aq ah (bc (aw (aG 1 rfl) aQ))) bj))) .nil
  rw[<-hll];have hg1:cA 3 cs.length=.slice (some ⟨3,0,none⟩) cs.length aM:=by rw[hll];rfl
  have hg2:bN 58 (cs.flatMap an) cs.length=some (.cells (cs.flatMap an) 58 (0,0)):=by rw[hll];rfl
  rw[hg1,hg2,ky (by rw[hll];simp)];have hch:=Ab (P:=Tryz.prog) (k:=1) (F:=[(2,some (.pointer (some ⟨1,0,none⟩))),(13,some (.pointer (some ⟨2,0,none⟩)))]) (L:=[(0,some (bR)),(1,some (bR)),(2,some (.cells [.slice (some ⟨3,0,none⟩) cs.length aM] 40 (0,0))),(3,some (.cells (cs.flatMap an) 58 (0,0)))]) (n:=4) (nl:=0) (lg:=[]) (x:=3) (m:=2) (i:=0) (d:=[.slice (some ⟨3,0,none⟩) cs.length aM]) (c:=cs.flatMap an) (e:=58) (e2:=40) (fr:=(0,0)) (fr2:=(0,0)) (len:=cs.length) (cap:=aM) (cs.flatMap an).length rfl rfl rfl (by decide) (by decide) (by decide) (by show _<=4611686018427387904;omega) (fun h0=>by rw[dF cD,h0,aab]);rw[List.take_length]at hch;refine db.trans (db.trans ?_ hch) ?_
  ·exact ak (by simp(disch:=decide) [ai,ab,aa,ag]) (ap (by decide) rfl (ap (by decide) rfl (ap (by decide) rfl (ap (by decide) rfl trivial)))) (by decide)
  exact aV [(0,some 0),(1,some 1),(2,some 2)] [(0,some 0),(1,some 1),(2,some 2)] (by decide) (by decide) (by decide) (af (v:=.pointer (some ⟨1,0,none⟩)) (by decide) rfl (ay rfl) (af (v:=.pointer (some ⟨2,0,none⟩)) (by decide) rfl (ay rfl) aR)) (aj (o:=bR) 0 rfl (by decide) (by decide) rfl (aq ah bF) (aj (o:=bR) 1 rfl (by decide) (by decide) rfl (aq ah bF) (aj (o:=.cells [al an (some cs)] 40 (0,0)) 2 rfl (by decide) (by decide) rfl (aq ah (bc (aw (aB aW _) aQ))) bj))) .nil
 have hoc:bk (al an (oO cs))=true:=bL _;refine ae (ac cO (by simp(disch:=decide) only[bR,hoc,go_sem]<;>with_reducible rfl) ?_);refine bh ?_;refine⟨_,?e56,?W56,rfl,?h56,?q56⟩
 case h56=>simp(disch:=decide) only[Tryz.results31,hoc,go_sem]<;>with_reducible rfl
 refine⟨cs,⟨hcsb,fun x hx=>?_,hfw⟩,rfl,?_,?_⟩
 ·have:=hid x hx;omega
 ·simp(disch:=decide) only[bR,go_sem]
 show 3<=30;decide
theorem kg{n t m q:Nat}{F:List (Nat×Option Value)}(h:m<n)(hs:l6 n F):l6 n ((t,some (cA m q))::F):=⟨fun u e=>by cases e;exact gG (iy h) _,hs⟩
structure Zj(n:Nat) where
 k:Nat
 ls:List OL
 h:k<=n
 le:ls.length=k
 k12:k<=12
 el:∀t∈ls,(ao t).length<=1000000
structure YX where
 v:Nat
 one:List Int
 h:v<=6
 le:one.length<=v
set_option maxHeartbeats 8000000 in
theorem LT(a:OL):aN Tryz.prog 16 [al au a] (wd [] 0 [] 0) fun e W'=>∃cs:List aC,NZ cs/\e=.ret (.agg #[al an (oO cs)])/\W'.next<=40:=by
 have hoa:bk (al au a)=true:=bL _;have hla:∀W e,fm W (al au a) (some (.slice e))=some (.val (some (.int .i64 ((ao a).length:Int)))):=fun W e=>da _
 have hldI:∀W a,fo Tryz.prog W 3 (FP [.int .i64 a])=some (.int .i64 a):=fun W a=>xF a
 refine be av Tryz.func16 rfl (Nat.le_of_ble_eq_true rfl) ?_;simp only[aY.eq_1,aY.eq_2,bf,Tryz.ntmps16,reduceAdd];refine ae (ac av (by simp(disch:=first|decide|omega) only[hoa,go_sem]<;>with_reducible rfl) ?_);refine ae (ac av (by simp(disch:=first|decide|omega) only[go_sem]<;>with_reducible rfl) ?_);refine ae ?_;refine ae (ac av (by simp(disch:=first|decide|omega) only[go_sem]<;>with_reducible rfl) ?_);refine aD ?_;refine aU (s':=⟨aI [(0,some (al au a)),(2,some (.pointer (some ⟨0,0,none⟩))),(3,some (.slice none 0 0)),(4,some (.int .i64 (((0:Nat):Int):Int)))],wd [(0,some (bR)),(1,none)] 2 [] 0,[]⟩) (ak (by simp(disch:=decide) [ai,ab,aa,ag]) (ap (by decide) (by simp(disch:=first|decide|omega) only[ab,aa]<;>rfl) trivial) (by decide)) ?_;refine bw (α:=Zj (ao a).length) (fun y=>⟨aI [(0,some (al au a)),(2,some (.pointer (some ⟨0,0,none⟩))),(3,some (cA 1 y.ls.length)),(4,some (.int .i64 (y.k:Int)))],wd [(0,some (bR)),(1,bN 35 (y.ls.flatMap bq) y.ls.length)] 2 [] 0,[]⟩) (fun y=>(ao a).length-y.k) ?_ ⟨0,[],Z3 _,rfl,Z3 _,fun t h=>by cases h⟩;intro ⟨k,ls,hk,hle,h12,hel⟩;simp only;refine ae ?_;by_cases hc:k<(ao a).length/\k<12
 ·obtain⟨hlt,hk12⟩:=hc;obtain⟨z,hz⟩:∃z,z=(ao a)[k]:=⟨_,rfl⟩;have hiz:∀t,dB Tryz.prog (some (.slice 3)) (some (al au a)) (some (.int t ((k:Nat):Int)))=some (.val (some (FP [.int .i64 z]))):=fun t=>by rw[hz];exact kC hlt
  refine ae (ac av (by simp(disch:=first|decide|omega) only[hla,go_sem]<;>with_reducible rfl) ?_);refine aZ (by simp(disch:=first|decide|omega) only[go_sem]<;>with_reducible rfl) ?_;refine aH ?_;refine ae (aD ?_);refine ae (ac av (by simp(disch:=first|decide|omega) only[go_sem]<;>with_reducible rfl) ?_);refine ae ?_;refine ae (ac av (by simp(disch:=first|decide|omega) only[go_sem]<;>with_reducible rfl) ?_);refine aD ?_;refine aU (s':=⟨aI [(0,some (al au a)),(2,some (.pointer (some ⟨0,0,none⟩))),(3,some (cA 1 ls.length)),(4,some (.int .i64 (k:Int))),(5,some (.slice none 0 0)),(6,some (.int .i64 (((0:Nat):Int):Int)))],wd [(0,some (bR)),(1,bN 35 (ls.flatMap bq) ls.length),(2,none)] 3 [] 0,[]⟩) (ak (by simp(disch:=decide) [ai,ab,aa,ag]) (ap (by decide) (by simp(disch:=first|decide|omega) only[ab,aa]<;>rfl) (ap (by decide) (by simp(disch:=first|decide|omega) only[ab,aa]<;>rfl) trivial)) (by decide)) ?_;refine bw (α:=YX) (fun y=>⟨aI [(0,some (al au a)),(2,some (.pointer (some ⟨0,0,none⟩))),(3,some (cA 1 ls.length)),(4,some (.int .i64 (k:Int))),(5,some (cA 2 y.one.length)),(6,some (.int .i64 (y.v:Int)))],wd [(0,some (bR)),(1,bN 35 (ls.flatMap bq) ls.length),(2,bN 3 (y.one.flatMap au) y.one.length)] 3 [] 0,[]⟩) (fun y=>6-y.v) ?_ ⟨0,[],Z3 _,Z3 _⟩;intro ⟨v,one,hv,hol⟩;simp only;have hlg:∀W e,fm W (cA 2 one.length) (some (.slice e))=some (.val (some (.int .i64 (one.length:Int)))):=fun W e=>by cases one.length<;>rfl
  have hog:bk (cA 2 one.length)=true:=by cases one.length<;>rfl
  refine ae ?_;by_cases hcv:v<6/\one.length<4
  ·obtain⟨hv6,ho4⟩:=hcv;refine ae (ac av (by simp(disch:=first|decide|omega) only[hlg,go_sem]<;>with_reducible rfl) ?_);refine aZ (by simp(disch:=first|decide|omega) only[go_sem]<;>with_reducible rfl) ?_;refine aH ?_;refine ae (aD ?_);refine ae (ac av (by simp(disch:=first|decide|omega) only[hiz,hldI,go_sem]<;>with_reducible rfl) ?_);cases hbit:(mU BinOp.and IntKind.i64 (z.fdiv ((2^v:Nat):Int)) ((1:Nat):Int)==((1:Nat):Int))with
   |true=>
    refine aZ (by simp(disch:=first|decide|omega) only[go_sem]<;>with_reducible rfl) ?_;refine jV av ⟨aI [(0,some (al au a)),(2,some (.pointer (some ⟨0,0,none⟩))),(3,some (cA 1 ls.length)),(4,some (.int .i64 (k:Int))),(5,some (cA 2 (one++[(v:Int)]).length)),(6,some (.int .i64 (v:Int)))],wd [(0,some (bR)),(1,bN 35 (ls.flatMap bq) ls.length),(2,bN 3 ((one++[(v:Int)]).flatMap au) (one++[(v:Int)]).length)] 3 [] 0,[]⟩ ?hdg ?qdg
    case hdg=>
     have hro:(one.flatMap au++[.int .i64 (v:Int)])=(one++[(v:Int)]).flatMap au:=by rw[aap];rfl
     rcases htt:one with _|⟨a0,t0⟩
     ·have hr1:[.int .i64 (v:Int)]=[(v:Int)].flatMap au:=rfl;refine⟨?sxga,?hxga,?lxga⟩
      case hxga=>simp(disch:=first|decide|omega) only[hiz,hldI,cA.eq_1,bN.eq_1,List.length_nil,show bm 0=false from rfl,ZW,Z6,show bm 0=false from rfl,ZV,ZR,ZY,aad,aab,Z9,go_sem]<;>with_reducible rfl
      simp only[List.nil_append,ZM,List.length_cons,List.length_nil,Nat.zero_add,cA.eq_2,bN.eq_2];exact aV [(0,some 0),(1,some 1),(4,some 2)] [(0,some 0),(1,some 1),(2,some 4)] (by decide) (by decide) (by decide) (af (v:=al au a) (by decide) (by simp(disch:=first|decide|omega) only[ab,aa]<;>rfl) (aB ba _ _ ah) (af (v:=.pointer (some ⟨0,0,none⟩)) (by decide) (by simp(disch:=first|decide|omega) only[ab,aa]<;>rfl) (ay (by simp(disch:=first|decide|omega) only[ab,aa])) (af (v:=cA 1 ls.length) (by decide) (by simp(disch:=first|decide|omega) only[ab,aa]<;>rfl) (gG (by simp(disch:=first|decide|omega) only[ab,aa]) _) (af (v:=.int .i64 (k:Int)) (by decide) (by simp(disch:=first|decide|omega) only[ab,aa]<;>rfl) (ar 1 rfl) (af (v:=.slice (some ⟨4,0,none⟩) 1 aM) (by decide) (by simp(disch:=first|decide|omega) only[ab,aa]<;>rfl) (bI (by simp(disch:=first|decide|omega) only[ab,aa])) (af (v:=.int .i64 (v:Int)) (by decide) (by simp(disch:=first|decide|omega) only[ab,aa]<;>rfl) (ar 1 rfl) aR)))))) (aj (o:=bR) 0 (by simp(disch:=first|decide|omega) only[ab,aa]) (by decide) (by decide) (by simp(disch:=first|decide|omega) only[ab,aa]<;>rfl) (aq ah bF) (gc 1 (by simp(disch:=first|decide|omega) only[ab,aa]) (by decide) (by decide) (by simp(disch:=first|decide|omega) only[ab,aa]<;>rfl) (fO ah (br bV _) _) (aj (o:=.cells ([(v:Int)].flatMap au) 3 (0,0)) 4 (by simp(disch:=first|decide|omega) only[ab,aa]) (by decide) (by decide) (by simp(disch:=first|decide|omega) only[ab,aa]<;>rfl) (aq ah (bc (br ba _))) bj))) .nil
     have hg1:cA 2 (a0::t0).length=.slice (some ⟨2,0,none⟩) one.length aM:=by rw[htt];rfl
     have hg2:bN 3 ((a0::t0).flatMap au) (a0::t0).length=some (.cells (one.flatMap au) 3 (0,0)):=by rw[htt];rfl
     rw[hg1,hg2,<-htt];have hrl:(one.flatMap au).length=one.length*1:=dF dA _;have hrt:(one.flatMap au).take (one.length*1)=one.flatMap au:=List.take_of_length_le (by rw[hrl];exact Nat.le_refl _);have hrl1:(one.flatMap au).length=one.length:=by rw[hrl,aak]
     have hrt1:(one.flatMap au).take one.length=one.flatMap au:=by rw[aak]at hrt;exact hrt
     have hal:=nH one;refine⟨?sxgb,?hxgb,?lxgb⟩
     case hxgb=>simp(disch:=first|decide|omega) only[hiz,hldI,hrl1,hrt1,hro,hal,aak,ZW,Z6,show bm 0=false from rfl,ZV,ZR,ZY,aad,aab,Z9,go_sem]<;>with_reducible rfl
     simp only[List.nil_append,ZM,List.length_cons,List.length_nil,Nat.zero_add,cA.eq_2,bN.eq_2];exact aV [(0,some 0),(1,some 1),(4,some 2)] [(0,some 0),(1,some 1),(2,some 4)] (by decide) (by decide) (by decide) (af (v:=al au a) (by decide) (by simp(disch:=first|decide|omega) only[ab,aa]<;>rfl) (aB ba _ _ ah) (af (v:=.pointer (some ⟨0,0,none⟩)) (by decide) (by simp(disch:=first|decide|omega) only[ab,aa]<;>rfl) (ay (by simp(disch:=first|decide|omega) only[ab,aa])) (af (v:=cA 1 ls.length) (by decide) (by simp(disch:=first|decide|omega) only[ab,aa]<;>rfl) (gG (by simp(disch:=first|decide|omega) only[ab,aa]) _) (af (v:=.int .i64 (k:Int)) (by decide) (by simp(disch:=first|decide|omega) only[ab,aa]<;>rfl) (ar 1 rfl) (af (v:=.slice (some ⟨4,0,none⟩) (one.length+1) aM) (by decide) (by simp(disch:=first|decide|omega) only[ab,aa]<;>rfl) (bI (by simp(disch:=first|decide|omega) only[ab,aa])) (af (v:=.int .i64 (v:Int)) (by decide) (by simp(disch:=first|decide|omega) only[ab,aa]<;>rfl) (ar 1 rfl) aR)))))) (aj (o:=bR) 0 (by simp(disch:=first|decide|omega) only[ab,aa]) (by decide) (by decide) (by simp(disch:=first|decide|omega) only[ab,aa]<;>rfl) (aq ah bF) (gc 1 (by simp(disch:=first|decide|omega) only[ab,aa]) (by decide) (by decide) (by simp(disch:=first|decide|omega) only[ab,aa]<;>rfl) (fO ah (br bV _) _) (aj (o:=.cells ((one++[(v:Int)]).flatMap au) 3 (0,0)) 4 (by simp(disch:=first|decide|omega) only[ab,aa]) (by decide) (by decide) (by simp(disch:=first|decide|omega) only[ab,aa]<;>rfl) (aq ah (bc (br ba _))) bj))) .nil
    intro sq hlq;show bA _ _ _ _ _ _;refine aU hlq ?_;refine ac av (by simp(disch:=first|decide|omega) only[go_sem]<;>with_reducible rfl) ?_;refine⟨⟨v+1,one++[(v:Int)],hv6,by rw[ZM];simp only[List.length_cons,List.length_nil];omega⟩,by simp only;omega,?_⟩;simp only;exact ak (by simp(disch:=decide) [ai,ab,aa,ag]) (ap (by decide) (by simp(disch:=first|decide|omega) only[ab,aa]<;>rfl) (ap (by decide) (by simp(disch:=first|decide|omega) only[ab,aa]<;>rfl) (ap (by decide) (by simp(disch:=first|decide|omega) only[ab,aa]<;>rfl) trivial))) (by decide)
   |false=>
    refine aO (by simp(disch:=decide) only[go_sem]<;>with_reducible rfl) ?_;refine aH ?_;show bA _ _ _ _ _ _;refine ac av (by simp(disch:=first|decide|omega) only[go_sem]<;>with_reducible rfl) ?_;refine⟨⟨v+1,one,hv6,by omega⟩,by simp only;omega,?_⟩;simp only;exact ak (by simp(disch:=decide) [ai,ab,aa,ag]) (ap (by decide) (by simp(disch:=first|decide|omega) only[ab,aa]<;>rfl) (ap (by decide) (by simp(disch:=first|decide|omega) only[ab,aa]<;>rfl) (ap (by decide) (by simp(disch:=first|decide|omega) only[ab,aa]<;>rfl) trivial))) (by decide)
  refine cP av ⟨aI [(0,some (al au a)),(2,some (.pointer (some ⟨0,0,none⟩))),(3,some (cA 1 ls.length)),(4,some (.int .i64 (k:Int))),(5,some (cA 2 one.length)),(6,some (.int .i64 (v:Int))),(23,some (.bool false))],wd [(0,some (bR)),(1,bN 35 (ls.flatMap bq) ls.length),(2,bN 3 (one.flatMap au) one.length)] 3 [] 0,[]⟩ ?hdi ?qdi
  case hdi=>
   by_cases hv6:v<6
   ·refine⟨?si1,?ai1,?bi1⟩
    case ai1=>simp(disch:=first|decide|omega) only[hlg,go_sem]<;>with_reducible rfl
    case bi1=>exact ak (by simp(disch:=decide) [ai,ab,aa,ag]) (ap (by decide) (by simp(disch:=first|decide|omega) only[ab,aa]<;>rfl) (ap (by decide) (by simp(disch:=first|decide|omega) only[ab,aa]<;>rfl) (ap (by decide) (by simp(disch:=first|decide|omega) only[ab,aa]<;>rfl) trivial))) (by decide)
   refine⟨?si2,?ai2,?bi2⟩
   case ai2=>simp(disch:=first|decide|omega) only[hlg,go_sem]<;>with_reducible rfl
   case bi2=>exact ak (by simp(disch:=decide) [ai,ab,aa,ag]) (ap (by decide) (by simp(disch:=first|decide|omega) only[ab,aa]<;>rfl) (ap (by decide) (by simp(disch:=first|decide|omega) only[ab,aa]<;>rfl) (ap (by decide) (by simp(disch:=first|decide|omega) only[ab,aa]<;>rfl) trivial))) (by decide)
  refine aO (by simp(disch:=first|decide|omega) only[go_sem]<;>with_reducible rfl) ?_;refine bp ?_;show bA _ _ _ _ _ _;obtain⟨t2,ht2⟩:∃t2,t2=oO one:=⟨_,rfl⟩;have ht9:(ao t2).length<=9:=by rw[ht2,iz];omega
  have hot:bk (al au t2)=true:=bL _;have hcm:(al au t2).cells=#[al au t2]:=by cases t2<;>rfl
  unfold Value.cells at hcm;refine aU (s':=⟨aI [(0,some (al au a)),(2,some (.pointer (some ⟨0,0,none⟩))),(3,some (cA 1 ls.length)),(4,some (.int .i64 (k:Int))),(5,some (al au t2))],wd [(0,some (bR)),(1,bN 35 (ls.flatMap bq) ls.length)] 2 [] 0,[]⟩) ?hfz ?qfz
  case hfz=>
   rw[ht2];rcases htt:one with _|⟨a0,t0⟩
   ·exact aV [(0,some 0),(1,some 1)] [(0,some 0),(1,some 1)] (by decide) (by decide) (by decide) (af (v:=al au a) (by decide) (by simp(disch:=first|decide|omega) only[ab,aa]<;>rfl) (aB ba _ _ ah) (af (v:=.pointer (some ⟨0,0,none⟩)) (by decide) (by simp(disch:=first|decide|omega) only[ab,aa]<;>rfl) (ay (by simp(disch:=first|decide|omega) only[ab,aa])) (af (v:=cA 1 ls.length) (by decide) (by simp(disch:=first|decide|omega) only[ab,aa]<;>rfl) (gG (by simp(disch:=first|decide|omega) only[ab,aa]) _) (af (v:=.int .i64 (k:Int)) (by decide) (by simp(disch:=first|decide|omega) only[ab,aa]<;>rfl) (ar 1 rfl) (af (v:=.slice none 0 0) (by decide) (by simp(disch:=first|decide|omega) only[ab,aa]<;>rfl) (ar 1 rfl) aR))))) (aj (o:=bR) 0 (by simp(disch:=first|decide|omega) only[ab,aa]) (by decide) (by decide) (by simp(disch:=first|decide|omega) only[ab,aa]<;>rfl) (aq ah bF) (gc 1 (by simp(disch:=first|decide|omega) only[ab,aa]) (by decide) (by decide) (by simp(disch:=first|decide|omega) only[ab,aa]<;>rfl) (fO ah (br bV _) _) bj)) .nil
   rw[<-htt];have hg1:cA 2 one.length=.slice (some ⟨2,0,none⟩) one.length aM:=by rw[htt];rfl
   have hg2:bN 3 (one.flatMap au) one.length=some (.cells (one.flatMap au) 3 (0,0)):=by rw[htt];rfl
   rw[hg1,hg2,ky (by rw[htt];simp)];have:=gy (P:=Tryz.prog) (k:=0) (F:=[(5,some (.slice (some ⟨2,0,none⟩) one.length aM)),(0,some (al au a)),(2,some (.pointer (some ⟨0,0,none⟩))),(3,some (cA 1 ls.length)),(4,some (.int .i64 (k:Int)))]) (F':=[(0,some (al au a)),(2,some (.pointer (some ⟨0,0,none⟩))),(3,some (cA 1 ls.length)),(4,some (.int .i64 (k:Int)))]) (L:=[(0,some (bR)),(1,bN 35 (ls.flatMap bq) ls.length),(2,some (.cells (one.flatMap au) 3 (0,0)))]) (n:=3) (nl:=0) (lg:=[]) (K:=[(0,some (bR)),(1,bN 35 (ls.flatMap bq) ls.length)]) (n':=2) (t:=5) (x:=2) (len:=one.length) (cap:=aM) (g:=au) (l:=one) (c:=one.flatMap au) (e:=3) (fr:=(0,0)) rfl (by decide) rfl (by decide) (by decide) rfl rfl (by show _<=4611686018427387904;omega) ba (by simp(disch:=decide) [ai,ab,aa,ag]) (by decide) (by decide)
    (fun m o h=>by
     have hm:=bX h;simp only[ZU,ZS,or_false,Prod.mk.injEq,Option.some.injEq]at hm;rcases hm with⟨rfl,rfl⟩|⟨rfl,hh⟩
     ·exact⟨by decide,by decide,rfl,(aq ah bF)⟩
     exact⟨by decide,by decide,by simp(disch:=decide) only[ab,aa];exact hh.symm,fO ah (br bV _) _ _ hh.symm⟩) (kb (aB ba _) (kp (by decide) (kg (by decide) (kb cQ trivial))))
   refine db.trans ?_ (db.trans this ?_)
   ·exact ak (by simp(disch:=decide) [ai,ab,aa,ag]) (ap (by decide) rfl (ap (by decide) rfl (ap (by decide) rfl trivial))) (by decide)
   exact ak (by simp(disch:=decide) [ai,ab,aa,ag]) (ap (by decide) rfl (ap (by decide) rfl trivial)) (by decide)
  have hlb:ls.length<=12:=by omega
  refine jV av ⟨aI [(0,some (al au a)),(2,some (.pointer (some ⟨0,0,none⟩))),(3,some (cA 1 (ls++[t2]).length)),(4,some (.int .i64 (k:Int)))],wd [(0,some (bR)),(1,bN 35 ((ls++[t2]).flatMap bq) (ls++[t2]).length)] 2 [] 0,[]⟩ ?hdh ?qdh
  case hdh=>
   have hro:(ls.flatMap bq++[al au t2])=(ls++[t2]).flatMap bq:=by rw[aap];rfl
   rcases htt:ls with _|⟨a0,t0⟩
   ·have hr1:[al au t2]=[t2].flatMap bq:=rfl;refine⟨?sxha,?hxha,?lxha⟩
    case hxha=>simp(disch:=decide) only[hot,hcm,cA.eq_1,bN.eq_1,List.length_nil,show bm 0=false from rfl,ZW,Z6,show bm 0=false from rfl,ZV,ZR,ZY,aad,aab,Z9,go_sem]<;>with_reducible rfl
    simp only[List.nil_append,ZM,List.length_cons,List.length_nil,Nat.zero_add,cA.eq_2,bN.eq_2];exact aV [(0,some 0),(3,some 1)] [(0,some 0),(1,some 3)] (by decide) (by decide) (by decide) (af (v:=al au a) (by decide) (by simp(disch:=first|decide|omega) only[ab,aa]<;>rfl) (aB ba _ _ ah) (af (v:=.pointer (some ⟨0,0,none⟩)) (by decide) (by simp(disch:=first|decide|omega) only[ab,aa]<;>rfl) (ay (by simp(disch:=first|decide|omega) only[ab,aa])) (af (v:=.slice (some ⟨3,0,none⟩) 1 aM) (by decide) (by simp(disch:=first|decide|omega) only[ab,aa]<;>rfl) (bI (by simp(disch:=first|decide|omega) only[ab,aa])) (af (v:=.int .i64 (k:Int)) (by decide) (by simp(disch:=first|decide|omega) only[ab,aa]<;>rfl) (ar 1 rfl) aR)))) (aj (o:=bR) 0 (by simp(disch:=first|decide|omega) only[ab,aa]) (by decide) (by decide) (by simp(disch:=first|decide|omega) only[ab,aa]<;>rfl) (aq ah bF) (aj (o:=.cells ([t2].flatMap bq) 35 (0,0)) 3 (by simp(disch:=first|decide|omega) only[ab,aa]) (by decide) (by decide) (by simp(disch:=first|decide|omega) only[ab,aa]<;>rfl) (aq ah (bc (br bV _))) bj)) .nil
   have hg1:cA 1 (a0::t0).length=.slice (some ⟨1,0,none⟩) ls.length aM:=by rw[htt];rfl
   have hg2:bN 35 ((a0::t0).flatMap bq) (a0::t0).length=some (.cells (ls.flatMap bq) 35 (0,0)):=by rw[htt];rfl
   rw[hg1,hg2,<-htt];have hrl:(ls.flatMap bq).length=ls.length*1:=dF iL _;have hrt:(ls.flatMap bq).take (ls.length*1)=ls.flatMap bq:=List.take_of_length_le (by rw[hrl];exact Nat.le_refl _);have hrl1:(ls.flatMap bq).length=ls.length:=by rw[hrl,aak]
   have hrt1:(ls.flatMap bq).take ls.length=ls.flatMap bq:=by rw[aak]at hrt;exact hrt
   have hal:=Gf ls;refine⟨?sxhb,?hxhb,?lxhb⟩
   case hxhb=>simp(disch:=first|decide|omega) only[hot,hcm,hrl1,hrt1,hro,hal,aak,ZW,Z6,show bm 0=false from rfl,ZV,ZR,ZY,aad,aab,Z9,go_sem]<;>with_reducible rfl
   simp only[List.nil_append,ZM,List.length_cons,List.length_nil,Nat.zero_add,cA.eq_2,bN.eq_2];exact aV [(0,some 0),(3,some 1)] [(0,some 0),(1,some 3)] (by decide) (by decide) (by decide) (af (v:=al au a) (by decide) rfl (aB ba _ _ ah) (af (v:=.pointer (some ⟨0,0,none⟩)) (by decide) rfl (ay rfl) (af (v:=.slice (some ⟨3,0,none⟩) (ls.length+1) aM) (by decide) rfl (bI rfl) (af (v:=.int .i64 (k:Int)) (by decide) rfl (ar 1 rfl) aR)))) (aj (o:=bR) 0 rfl (by decide) (by decide) rfl (aq ah bF) (aj (o:=.cells ((ls++[t2]).flatMap bq) 35 (0,0)) 3 rfl (by decide) (by decide) rfl (aq ah (bc (br bV _))) bj)) .nil
  intro sq hlq;show bA _ _ _ _ _ _;refine aU hlq ?_;refine ac av (by simp(disch:=first|decide|omega) only[go_sem]<;>with_reducible rfl) ?_;refine⟨⟨k+1,ls++[t2],hlt,by rw[ZM,hle];rfl,by omega,fun u hu=>?_⟩,by simp only;omega,?_⟩
  ·rcases List.mem_append.1 hu with hu|hu
   ·exact hel u hu
   have:u=t2:=by simpa using hu
   rw[this];omega
  simp only;exact ak (by simp(disch:=decide) [ai,ab,aa,ag]) (ap (by decide) (by simp(disch:=first|decide|omega) only[ab,aa]<;>rfl) (ap (by decide) (by simp(disch:=first|decide|omega) only[ab,aa]<;>rfl) trivial)) (by decide)
 refine cP av ⟨aI [(0,some (al au a)),(2,some (.pointer (some ⟨0,0,none⟩))),(3,some (cA 1 ls.length)),(4,some (.int .i64 (k:Int))),(14,some (.bool false))],wd [(0,some (bR)),(1,bN 35 (ls.flatMap bq) ls.length)] 2 [] 0,[]⟩ ?hdj ?qdj
 case hdj=>
  by_cases hkl:k<(ao a).length
  ·refine⟨?sj1,?aj1,?bj1⟩
   case aj1=>simp(disch:=first|decide|omega) only[hla,go_sem]<;>with_reducible rfl
   case bj1=>exact ak (by simp(disch:=decide) [ai,ab,aa,ag]) (ap (by decide) (by simp(disch:=first|decide|omega) only[ab,aa]<;>rfl) (ap (by decide) (by simp(disch:=first|decide|omega) only[ab,aa]<;>rfl) trivial)) (by decide)
  refine⟨?sj2,?aj2,?bj2⟩
  case aj2=>simp(disch:=first|decide|omega) only[hla,go_sem]<;>with_reducible rfl
  case bj2=>exact ak (by simp(disch:=decide) [ai,ab,aa,ag]) (ap (by decide) (by simp(disch:=first|decide|omega) only[ab,aa]<;>rfl) (ap (by decide) (by simp(disch:=first|decide|omega) only[ab,aa]<;>rfl) trivial)) (by decide)
 refine aO (by simp(disch:=decide) only[go_sem]<;>with_reducible rfl) ?_;refine bp ?_;show bA _ _ _ _ _ _;obtain⟨o3,ho3⟩:∃o3,o3=oO ls:=⟨_,rfl⟩;have hlst:ao o3=ls:=by rw[ho3,iz]
 have hoo3:bk (al bq o3)=true:=bL _;refine aU (s':=⟨aI [(2,some (.pointer (some ⟨0,0,none⟩))),(3,some (al bq o3))],wd [(0,some (bR))] 1 [] 0,[]⟩) ?hfy ?qfy
 case hfy=>
  rw[ho3];rcases htt:ls with _|⟨a0,t0⟩
  ·exact aV [(0,some 0)] [(0,some 0)] (by decide) (by decide) (by decide) (af (by decide) rfl (ay rfl) (af (by decide) rfl (ar 1 rfl) aR)) (aj 0 rfl (by decide) (by decide) rfl (aq ah bF) bj) .nil
  rw[<-htt];have hg1:cA 1 ls.length=.slice (some ⟨1,0,none⟩) ls.length aM:=by rw[htt];rfl
  have hg2:bN 35 (ls.flatMap bq) ls.length=some (.cells (ls.flatMap bq) 35 (0,0)):=by rw[htt];rfl
  rw[hg1,hg2,ky (by rw[htt];simp)];have:=gy (P:=Tryz.prog) (k:=0) (F:=[(3,some (.slice (some ⟨1,0,none⟩) ls.length aM)),(2,some (.pointer (some ⟨0,0,none⟩)))]) (F':=[(2,some (.pointer (some ⟨0,0,none⟩)))]) (L:=[(0,some (bR)),(1,some (.cells (ls.flatMap bq) 35 (0,0)))]) (n:=2) (nl:=0) (lg:=[]) (K:=[(0,some (bR))]) (n':=1) (t:=3) (x:=1) (len:=ls.length) (cap:=aM) (g:=bq) (l:=ls) (c:=ls.flatMap bq) (e:=35) (fr:=(0,0)) rfl (by decide) rfl (by decide) (by decide) rfl rfl (by show _<=4611686018427387904;omega) bV (by simp(disch:=decide) [ai,ab,aa,ag]) (by decide) (by decide)
   (fun m o h=>by
    have hm:=bX h;simp only[ZU,ZS,or_false,Prod.mk.injEq,Option.some.injEq]at hm;rcases hm with⟨rfl,rfl⟩;exact⟨by decide,by decide,rfl,(aq ah bF)⟩) (kp (by decide) trivial)
  refine db.trans ?_ (db.trans this ?_)
  ·exact ak (by simp(disch:=decide) [ai,ab,aa,ag]) (ap (by decide) rfl (ap (by decide) rfl trivial)) (by decide)
  exact ak (by simp(disch:=decide) [ai,ab,aa,ag]) (ap (by decide) rfl trivial) (by decide)
 refine ae (cI ?_);refine aP av 1 (s1:=?sA) ?hA (fT (f:=31) (args:=[al bq o3]) (S:=Ts) (enters_of (by kernel_rfl)) rfl ?hxA ?hlA ?qA)
 case hA=>simp(disch:=decide) only[go_sem]<;>with_reducible rfl
 case hxA=>simp(disch:=decide) only[go_sem]
 case hlA=>exact Mi ⟨o3,by rw[hlst];omega,by rw[hlst];exact hel⟩
 intro e W' ⟨cs,hcx,he,h0,hn⟩;refine⟨_,_,he,dQ (by decide),?_⟩;refine ec (iF (L:=[(0,some bR)]) (n':=30) (lg:=[]) (nl:=0) hn fun n o e=>?_) ?_
 ·have hcases:=bX e;simp only[ZU,ZS,or_false,Prod.mk.injEq,Option.some.injEq]at hcases;rcases hcases with⟨rfl,rfl⟩;exact h0
 have hoc:bk (al an (oO cs))=true:=bL _;refine aP av 1 (s1:=?sB) ?hB (cY ?qB)
 case hB=>simp(disch:=decide) only[bR,hoc,go_sem]<;>with_reducible rfl
 refine bh ?_;refine⟨_,?e18,?W18,rfl,?h18,?q18⟩
 case h18=>simp(disch:=decide) only[Tryz.results16,bR,hoc,go_sem]<;>with_reducible rfl
 exact⟨cs,hcx,rfl,by show 30<=40;decide⟩
end Go.Proofs.YthlkgmdkabelpaaGreat.X
