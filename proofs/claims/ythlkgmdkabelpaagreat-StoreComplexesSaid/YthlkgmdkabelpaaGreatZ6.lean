/-
  Packed by program (tools/pack.py) out of the texts MZ9 MZ10 MZ11. No condition.
-/
import Derived.Test.YthlkgmdkabelpaaGreatZ5
set_option linter.all false
namespace Go.Proofs.YthlkgmdkabelpaaGreat.X
open Go Go.RowKit Go.Proofs.YthlkgmdkabelpaaGreat.St
section
variable {P:Program} {H:ci} {n:Nat}
theorem O7:bc P H 2=im P H (bc P H 1):=rfl
theorem PE:bc P H 3=im P H (bc P H 2):=rfl
theorem P6:bc P H 4=im P H (bc P H 3):=rfl
theorem Pq:bc P H 5=im P H (bc P H 4):=rfl
theorem O4:bc P H 6=im P H (bc P H 5):=rfl
theorem PY:bc P H 7=im P H (bc P H 6):=rfl
theorem Pe:bc P H 8=im P H (bc P H 7):=rfl
theorem PA:bc P H 9=im P H (bc P H 8):=rfl
theorem IK:bc P H 10=im P H (bc P H 9):=rfl
theorem Im:bc P H 11=im P H (bc P H 10):=rfl
theorem Ii:bc P H 12=im P H (bc P H 11):=rfl
end
theorem xu{α:Type}:(#[]:Array α).isEmpty=true:=rfl
theorem BD{α:Type}:(none:Option α).isNone=true:=rfl
theorem yq{α:Type}:([]:List α).isEmpty=true:=rfl
theorem getD_some{α:Type}{a b:α}:(some a).getD b=a:=rfl
theorem getD_none{α:Type}{b:α}:(none:Option α).getD b=b:=rfl
theorem rX{id:Nat}{s:XS}:nC id (some (.code .norm s))=some (.code .norm s):=rfl
theorem BM:("cocycle/store.guard" == "runtime.NumGoroutine")=false:=by kernel_rfl
theorem uY{e:Nat}:dH Tryz.prog .eql 20 (.tmp 5) (.const .nilIface) (some (fC e)) (some .nilIface)=some (.val (some (.bool false))):=by kernel_rfl
theorem uZ:dH Tryz.prog .eql 20 (.tmp 5) (.const .nilIface) (some .nilIface) (some .nilIface)=some (.val (some (.bool true))):=by kernel_rfl
theorem oA{P:Program}{t u:TypeId}{ok:Bool}{v:Value}{fs}:yI P t ok (some (.iface u v)) (some (.struct fs))=bif Nat.beq u t then val (om ok v true)else Et ok (az P t):=rfl
theorem BO{v:Value}:om true v true=.tuple #[v,.bool true]:=rfl
abbrev zE(e:Int):ah:=.cells [.int .i64 e] 43 (0,0)
theorem ZF{L:List (Nat×Option ah)}{n nl e:Nat}{lg:List Nat}{e0:Int}(h1:lk L 3=some (zE e0))(h2:3<n)(h3:n<16000) :
 kZ Tryz.prog (bc Tryz.prog (aJ [] []) 12) 46 [.pointer (some ⟨3,0,none⟩)] (some (fC e)) (wd L n lg nl)=some (none,wd ((3,some (zE e))::(n,some (.cells [.int .i64 (e:Nat)] 159 (0,0)))::(n,some (.cells [.int .i64 0] 159 (0,0)))::L) (n+1) (3::n::lg) (nl+1+1)):=by
 simp(disch:=first|decide|omega|(simp only[List.length_cons,List.length_nil,abP,bE,abR,abT];omega)) only[kZ.eq_1,Tryz.func46,Tryz.f46,uN.eq_1,Ai.eq_1,vd.eq_1,pT.eq_1,uM.eq_1,vh.eq_1,uV.eq_1,nf.eq_1,nf.eq_2,mE.eq_1,mE.eq_2,ip.eq_1,ip.eq_2,ip.eq_3,x6.eq_1,cD.eq_1,cD.eq_2,cD.eq_3,cD.eq_4,cD.eq_5,cD.eq_6,cD.eq_8,rX,mr.eq_1,mr.eq_2,mB.eq_1,mB.eq_2,im.eq_1,O7,PE,P6,Pq,O4,PY,Pe,PA,IK,Im,Ii,xu,BD,yq,getD_some,getD_none,fh.eq_1,BM,uY,uZ,oA,BO,ph,bk.eq_1,bk.eq_2,h1,acu,go_sem,Nat.reduceAdd,Nat.reduceMul,Nat.reduceSub]
theorem Xs{L:List (Nat×Option ah)}{n nl:Nat}{lg:List Nat} :
 kZ Tryz.prog (bc Tryz.prog (aJ [] []) 12) 46 [.pointer (some ⟨3,0,none⟩)] none (wd L n lg nl)=some (none,wd L n lg nl):=by
 simp(disch:=first|decide|omega|(simp only[List.length_cons,List.length_nil,abP,bE,abR,abT];omega)) only[kZ.eq_1,Tryz.func46,Tryz.f46,uN.eq_1,Ai.eq_1,vd.eq_1,pT.eq_1,uM.eq_1,vh.eq_1,uV.eq_1,nf.eq_1,nf.eq_2,mE.eq_1,mE.eq_2,ip.eq_1,ip.eq_2,ip.eq_3,x6.eq_1,cD.eq_1,cD.eq_2,cD.eq_3,cD.eq_4,cD.eq_5,cD.eq_6,cD.eq_8,rX,mr.eq_1,mr.eq_2,mB.eq_1,mB.eq_2,im.eq_1,O7,PE,P6,Pq,O4,PY,Pe,PA,IK,Im,Ii,xu,BD,yq,getD_some,getD_none,fh.eq_1,BM,uY,uZ,oA,BO,ph,bk.eq_1,bk.eq_2,acu,go_sem,Nat.reduceAdd,Nat.reduceMul,Nat.reduceSub]
theorem Pb{L:List (Nat×Option ah)}{n nl e:Nat}{lg:List Nat}{e0:Int}(h1:lk L 4=some (zE e0))(h2:4<n)(h3:n<16000) :
 kZ Tryz.prog (bc Tryz.prog (aJ [] []) 12) 46 [.pointer (some ⟨4,0,none⟩)] (some (fC e)) (wd L n lg nl)=some (none,wd ((4,some (zE e))::(n,some (.cells [.int .i64 (e:Nat)] 159 (0,0)))::(n,some (.cells [.int .i64 0] 159 (0,0)))::L) (n+1) (4::n::lg) (nl+1+1)):=by
 simp(disch:=first|decide|omega|(simp only[List.length_cons,List.length_nil,abP,bE,abR,abT];omega)) only[kZ.eq_1,Tryz.func46,Tryz.f46,uN.eq_1,Ai.eq_1,vd.eq_1,pT.eq_1,uM.eq_1,vh.eq_1,uV.eq_1,nf.eq_1,nf.eq_2,mE.eq_1,mE.eq_2,ip.eq_1,ip.eq_2,ip.eq_3,x6.eq_1,cD.eq_1,cD.eq_2,cD.eq_3,cD.eq_4,cD.eq_5,cD.eq_6,cD.eq_8,rX,mr.eq_1,mr.eq_2,mB.eq_1,mB.eq_2,im.eq_1,O7,PE,P6,Pq,O4,PY,Pe,PA,IK,Im,Ii,xu,BD,yq,getD_some,getD_none,fh.eq_1,BM,uY,uZ,oA,BO,ph,bk.eq_1,bk.eq_2,h1,acu,go_sem,Nat.reduceAdd,Nat.reduceMul,Nat.reduceSub]
theorem Vp{L:List (Nat×Option ah)}{n nl:Nat}{lg:List Nat} :
 kZ Tryz.prog (bc Tryz.prog (aJ [] []) 12) 46 [.pointer (some ⟨4,0,none⟩)] none (wd L n lg nl)=some (none,wd L n lg nl):=by
 simp(disch:=first|decide|omega|(simp only[List.length_cons,List.length_nil,abP,bE,abR,abT];omega)) only[kZ.eq_1,Tryz.func46,Tryz.f46,uN.eq_1,Ai.eq_1,vd.eq_1,pT.eq_1,uM.eq_1,vh.eq_1,uV.eq_1,nf.eq_1,nf.eq_2,mE.eq_1,mE.eq_2,ip.eq_1,ip.eq_2,ip.eq_3,x6.eq_1,cD.eq_1,cD.eq_2,cD.eq_3,cD.eq_4,cD.eq_5,cD.eq_6,cD.eq_8,rX,mr.eq_1,mr.eq_2,mB.eq_1,mB.eq_2,im.eq_1,O7,PE,P6,Pq,O4,PY,Pe,PA,IK,Im,Ii,xu,BD,yq,getD_some,getD_none,fh.eq_1,BM,uY,uZ,oA,BO,ph,bk.eq_1,bk.eq_2,acu,go_sem,Nat.reduceAdd,Nat.reduceMul,Nat.reduceSub]
noncomputable def DG:List (FuncId×HD):=[(46,kZ Tryz.prog (bc Tryz.prog (aJ [] []) 12) 46)]
theorem abh:nW Tryz.prog DG:=.cons _ _ _ (Hh (enters_of (by kernel_rfl)) (jV (b0 (P:=Tryz.prog)).sim.ext 12) ((b0 (P:=Tryz.prog)).simC 12)) .nil
theorem Zg:dv Tryz.prog (aJ [] DG):=⟨mixed,eP .nil abh⟩
theorem ya{H:ci}{f:FuncId}{args cap:List Value}{p p':Option Value}{W W':XW}{h:HD}(hh:H.defd f=some h)(he:h (args++cap) p W=some (p',W')):cU H [.call f args cap] p W=some (p',W'):=by
 unfold cU;rw[hh];simp only;rw[he];rfl
def yV(P:Program)(R:List ResultVar)(E:aW->XW->Prop):XQ:=fun ex s=>∃p e' W',oH ex=some p/\kC P R s.fr (cU (aJ [] DG) s.ds p s.W)=some (.fin e' W')/\E e' W'
theorem UQ{f:FuncId}{args:List Value}{S:aW->XW->Prop}{W:XW}{fn:Func}{c:Code}{F:List (Nat×Option Value)}{N:Nat}{R:Array ResultVar}(hf:Tryz.prog.funcs[f]?=some fn)(hR:fn.results=R)(hc:fn.body=some c:=by rfl)(hN:fn.ntmps=N:=by rfl)(hl:args.length<=fn.ntmps:=by exact Nat.le_of_ble_eq_true rfl)
 (hF:bk 0 args []=F:=by simp only[bk.eq_1,bk.eq_2,Nat.reduceAdd]<;>with_reducible rfl) (h:ar Tryz.prog N W.next c ⟨ao F,W,[]⟩ (yV Tryz.prog R.toList S)):bg Tryz.prog f args W S:=by
 subst hN hF hR;exact cH Zg hf hc hl (fu (fun ex s ⟨p,e',W',h1,h2,h3⟩=>⟨p,e',W',h1,by rw[<-lB];exact h2,h3⟩) h)
abbrev dG(q:Nat):List cq:=[.call 46 [.pointer (some ⟨q,0,none⟩)] []]
theorem Wg{T:RT}{q q':Nat}(h:TV T (.pointer (some ⟨q,0,none⟩)) (.pointer (some ⟨q',0,none⟩))):ul T (dG q) (dG q'):=.call _ _ _ _ _ _ _ (av h aR) aR .nil
theorem xP{P:Program}{N k:Nat}{c:Code}{s:XS}{Q:XQ}(q:Nat)(F':List (Nat×Option Value))(L':List (Nat×Option ah))(n':Nat)(h:ar P N k c ⟨ao F',wd L' n' [] 0,dG q⟩ Q)(hl:bz P k s ⟨ao F',wd L' n' [] 0,dG q⟩:=by exact bL):ar P N k c s Q:=eR hl h
section
variable {P:Program} {k:Nat} {F F':List (Nat×Option Value)} {L L':List (Nat×Option ah)} {n n' nl nl':Nat} {lg lg':List Nat}
theorem Ir(q q':Nat)(R:List (Nat×Nat)){R1 R2:List (Nat×Option Nat)}(e1:R.map (fun p=>(p.1,some p.2))=R1:=by simp only[ack,acI]<;>rfl)(e2:R.map (fun p=>(p.2,some p.1))=R2:=by simp only[ack,acI]<;>rfl)
 (hR:ke k n' R2 R1=true:=by decide) (hRi:∀p∈R2,p.1<n':=by decide) (hk:k<=n':=by decide)
 (hF:cY (aP (lk R1)) F F':=by
  try dsimp only
  repeat' (first|exact di|refine bR (by decide) (by repeat (first|exact ab|refine Eq.trans (aa (by decide)) ?_)) (by first|exact ga (by decide) (by first|rfl|simp)|exact tv_gv (by decide) (by first|rfl|simp)|exact cC (by decide)|exact bI (by decide)|exact cI (by decide)|exact Br.h _ aj) ?_))
 (hL:gc P (aP (lk R1)) R1 n L L':=by
  try dsimp only
  repeat' (first|exact dP|exact kb|refine JR (by first|exact ab|exact ag ab (by decide)|exact ag (ag ab (by decide)) (by decide)|exact ag (ag (ag ab (by decide)) (by decide)) (by decide)|exact ag (ag (ag (ag ab (by decide)) (by decide)) (by decide)) (by decide)|exact ag (ag (ag (ag (ag ab (by decide)) (by decide)) (by decide)) (by decide)) (by decide)|exact ag (ag (ag (ag (ag (ag ab (by decide)) (by decide)) (by decide)) (by decide)) (by decide)) (by decide)) (by first|decide|omega) (by decide) (by repeat (first|exact ab|refine Eq.trans (aa (by decide)) ?_)) ?_|refine oN (by first|exact ab|exact ag ab (by decide)|exact ag (ag ab (by decide)) (by decide)|exact ag (ag (ag ab (by decide)) (by decide)) (by decide)|exact ag (ag (ag (ag ab (by decide)) (by decide)) (by decide)) (by decide)|exact ag (ag (ag (ag (ag ab (by decide)) (by decide)) (by decide)) (by decide)) (by decide)|exact ag (ag (ag (ag (ag (ag ab (by decide)) (by decide)) (by decide)) (by decide)) (by decide)) (by decide)) (by first|decide|omega) (by decide) (by repeat (first|exact ab|refine Eq.trans (aa (by decide)) ?_)) (by first|exact aT aj (aB b7.h)|with_reducible exact aT aj jO.h|exact dy (fun _=>by decide)|exact x8.h _ (by decide)|exact sU (by decide) (by decide)|exact jf (by decide)|exact iy .nil|(refine cm ?_;repeat (first|exact aR|refine av (by first|exact yv|exact ga (by decide) (by first|rfl|simp)|exact tv_gv (by decide) (by first|rfl|simp)|exact cC (by decide)|exact bI (by decide)|exact cI (by decide)|exact Br.h _ aj) ?_))) ?_)) (hd:ul (aP (lk R1)) (dG q) (dG q'):=by exact Wg (bI (by decide))) :
 bz P k ⟨ao F,wd L n lg nl,dG q⟩ ⟨ao F',wd L' n' lg' nl',dG q'⟩:=fI R1 R2 hR hRi hk hF hL hd
theorem Va(q:Nat)(x:Nat){c:List Value}{e:TypeId}{fr:Nat×Nat}(hx:lk L x=some (.cells c e fr):=by repeat (first|exact ab|refine Eq.trans (aa (by decide)) ?_))(hn:x<n:=by decide)(hn2:x<16383:=by decide)
 (hF:cY (dL x c) F F':=by
  try dsimp only
  repeat' (first|exact di|refine bR (by decide) (by repeat (first|exact ab|refine Eq.trans (aa (by decide)) ?_)) (by first|exact gJ|exact s8 rfl (by first|rfl|simp) (by simp only[abP,List.length_cons,List.length_nil,abR,abT,aq,bf]<;>omega)) ?_))
 (hL:jt P x c n L L':=by
  try dsimp only
  repeat' (first|exact D5|exact Ae|refine zG (by decide) (by decide) (by decide) (by repeat (first|exact ab|refine Eq.trans (aa (by decide)) ?_)) (by first|exact rB|(refine cm ?_;repeat (first|exact aR|refine av (by first|exact gJ|exact s8 rfl (by first|rfl|simp) (by simp only[abP,List.length_cons,List.length_nil,abR,abT,aq,bf]<;>omega)) ?_))) ?_)) (hnn:n<=n':=by decide) :
 bz P k ⟨ao F,wd L n lg nl,dG q⟩ ⟨ao F',wd L' n' lg' nl',dG q⟩:=by
 refine kI x (c:=c) (e:=e) (fr:=fr) (by show(wd L n lg nl).get x=_;rw[ae hn hn2];exact hx) ?_ hnn (fun t v' h=>?_) (fun m o' h=>?_) (Wg gJ)
 ·show(wd L' n' lg' nl').get x=none;cases e:(wd L' n' lg' nl').get x with
  |none=>rfl
  |some o=>exact absurd rfl (hL.mem _ _ (bK (bY e).2)).1
 ·obtain⟨h1,v,h2,h3⟩:=hF.mem t v' (bK (eQ h));exact⟨v,by show(ao F).get t=some v;rw[e9 h1];exact h2,h3⟩
 obtain⟨h0,h1,h2,o,h3,h4⟩:=hL.mem _ _ (bK (bY h).2);exact⟨o,by show(wd L n lg nl).get m=some o;rw[ae h1 h2];exact h3,h4⟩
end
theorem Xi{R:List ResultVar}{E:aW->XW->Prop}{F:List (Nat×Option Value)}{L:List (Nat×Option ah)}{n nl e:Nat}{lg:List Nat}{e':aW}{W':XW}(q:Nat){W2:XW}(hg:kZ Tryz.prog (bc Tryz.prog (aJ [] []) 12) 46 [.pointer (some ⟨q,0,none⟩)] (some (fC e)) (wd L n lg nl)=some (none,W2))
 (h:E e' W') (hf:kC Tryz.prog R (ao F) (some (none,W2))=some (.fin e' W'):=by simp(disch:=first|decide|omega|(simp only[abP,List.length_cons,List.length_nil,abR,abT,abX]<;>omega)|(simp(disch:=decide) only[ae,ab,aa,b9.eq_1];done)) only[kC.eq_1,kC.eq_2,go_sem]<;>with_reducible rfl):yV Tryz.prog R E (.pan (fC e)) ⟨ao F,wd L n lg nl,dG q⟩:=
 ⟨some (fC e),e',W',rfl,by rw[show cU (aJ [] DG) (dG q) (some (fC e)) (wd L n lg nl)=some (none,W2)from ya rfl hg];exact hf,h⟩
theorem rtD{R:List ResultVar}{E:aW->XW->Prop}{F:List (Nat×Option Value)}{L:List (Nat×Option ah)}{n nl:Nat}{lg:List Nat}{e':aW}{W':XW}(q:Nat)(hg:kZ Tryz.prog (bc Tryz.prog (aJ [] []) 12) 46 [.pointer (some ⟨q,0,none⟩)] none (wd L n lg nl)=some (none,wd L n lg nl))
 (h:E e' W') (hf:kC Tryz.prog R (ao F) (some (none,wd L n lg nl))=some (.fin e' W'):=by simp(disch:=first|decide|omega|(simp only[abP,List.length_cons,List.length_nil,abR,abT,abX]<;>omega)|(simp(disch:=decide) only[ae,ab,aa,b9.eq_1];done)) only[kC.eq_1,kC.eq_2,go_sem]<;>with_reducible rfl):yV Tryz.prog R E .ret ⟨ao F,wd L n lg nl,dG q⟩:=
 ⟨none,e',W',rfl,by rw[show cU (aJ [] DG) (dG q) none (wd L n lg nl)=some (none,wd L n lg nl)from ya rfl hg];exact hf,h⟩
theorem IW(es:aV)(h:HB)(hb:∀t,aD h es=some t->t.length<=1000000):Fg 21 [bu h] es (.ret (.tuple #[sl ((cz (aD h es)).1.map (·.2)),.int .i64 ((cz (aD h es)).2:Nat)])):=by
 refine⟨enters_of (by kernel_rfl),b7.h,rm.h,?_⟩;have htr:=D2 es h (fun t ht=>by have:=hb t ht;omega);have hln:=lC hb;have hte:(cz (aD h es)).2≠0->(cz (aD h es)).1=[]:=fun q=>by
  unfold cz at q ⊢;split
  ·rename_i q1;rw[if_pos q1]at q;unfold Uy at q ⊢;split
   ·rename_i q2;rw[q2]at q;exact absurd rfl q
   rfl
  rfl
 generalize cz (aD h es)=te at htr hln hte ⊢;obtain⟨l,e⟩:=te;simp only at htr hln hte ⊢;refine UQ Tryz.func21 Tryz.results21 (h:=?_);show ar _ _ 2 _ _ _;refine rs ?_;refine rs ?_;refine xP 3 [(0,some (.pointer (some ⟨0,0,none⟩))),(3,some (.pointer (some ⟨2,0,none⟩))),(4,some (.slice none 0 0)),(5,some (.pointer (some ⟨3,0,none⟩)))] [(0,some (aE es 1)),(1,some (bN es)),(2,some (hH h)),(3,some (zE 0))] 4 ?_;have hgo:=fun ev=>mg (w:=0) (b:=1) (n:=4) (nl:=0) (lg:=[]) (xs:=[bu h]) (es:=es) (e:=ev) (K:=[(0,some (aE es 1)),(1,some (bN es)),(2,some (hH h)),(3,some (zE 0))]) rfl rfl (by decide) (by decide) (by decide) (by decide)
 by_cases he:e=0
 ·subst he;have htr:Fg 47 [bu h] es (.ret (sl (eh true l))):=htr;have hg:=hgo (.ret (sl (eh true l)));have hel:=vc (r:=true) (l:=l);refine ai ?_;refine eO hg (bh (jH (w:=0) (b:=1) htr)) ?_;simp only[hel];refine fr (fun i:Nat=>⟨ao [(4,some (gs 4 aq ((l.take i).map (·.2)))),(5,some (.pointer (some ⟨3,0,none⟩))),(10,some (sl (eh true l))),(11,some (.int .i64 (l.length:Nat))),(12,some (.int .i64 (i:Nat)))],wd [(0,some (aE es 1)),(1,some (bN es)),(3,some (zE 0)),(4,some (ro 24 ((l.take i).map (·.2))))] 5 [] 0,dG 3⟩) (fun i=>i<=l.length) (fun i=>l.length-i) 0 (abW _) (fun i hv h=>?_) (fun i hv h=>?_)
  ·have he:=uW (r:=true) (l:=l) (i:=i) (by omega);have e2:(l.take (i+1)).map (·.2)=(l.take i).map (·.2)++[(l.getD i (0,hZ)).2]:=by
    rw[List.take_succ,acn,abV,abS (by omega)];rfl
   have hlm:((l.take i).map (·.2)).length=i:=by rw[ab1,abR];omega
   generalize(l.getD i (0,hZ))=x at he e2;obtain⟨k,hh⟩:=x;simp only at he e2;refine bs (ai (Al he ?_));refine Al hlm ?_;refine rl ?_;refine nx (i+1) (by omega) (by omega) ?_;rw[e2];exact Ir 3 3 [(0,0),(1,1),(3,3),(7,4)]
  rw[show i=l.length by omega,List.take_length];have hml:(l.map (·.2)).length=l.length:=ab1 _;show ar _ _ _ _ _ _;refine rs ?_;refine xP 3 [(4,some (sl (l.map (·.2)))),(5,some (.pointer (some ⟨3,0,none⟩)))] [(0,some (aE es 1)),(1,some (bN es)),(3,some (zE 0))] 5 ?_ (hl:=Va 3 4);refine fQ (rtD 3 Xs (e':=.ret (.tuple #[sl (l.map (·.2)),.int .i64 0])) ?_);exact⟨rfl,cu (by repeat (first|exact ab|refine Eq.trans (aa (by decide)) ?_)) (by repeat (first|exact ab|refine Eq.trans (aa (by decide)) ?_)) (by decide)⟩
 have hl0:=hte he;subst hl0;have htr:Fg 47 [bu h] es (.pan (fC e)):=by have:=htr;unfold Km at this;rwa [if_neg he]at this
 have hg:=hgo (.pan (fC e));refine xP 3 [(0,some (.pointer (some ⟨0,0,none⟩))),(3,some (.pointer (some ⟨2,0,none⟩))),(4,some (sl ([]:List HB))),(5,some (.pointer (some ⟨3,0,none⟩)))] [(0,some (aE es 1)),(1,some (bN es)),(2,some (hH h)),(3,some (zE 0))] 4 ?_;refine ai ?_;refine pq hg (bh (jH (w:=0) (b:=1) htr)) ?_;refine Xi 3 (ZF rfl (by decide) (by decide)) (e':=.ret (.tuple #[sl ([]:List HB),.int .i64 (e:Nat)])) ?_;exact⟨rfl,cu (by repeat (first|exact ab|refine Eq.trans (aa (by decide)) ?_)) (by repeat (first|exact ab|refine Eq.trans (aa (by decide)) ?_)) (by decide)⟩
theorem WT{P:Program}{N k n:Nat}{s s':XS}{v:Value}{ρ0:Ren}{W0:XW}{w0:World}{ex:Exit}{a:Act}{w:World}(hv:aX n v=true)(hl:bz P k s s')(h0:W0.next=k)(h1:∀n,k<=n->ρ0 n=none)(h:Ch P N ρ0 W0 w0 (.pan v) s ex a w):Ch P N ρ0 W0 w0 (.pan v) s' ex a w:=by
 have hx:∀ρ,tz ρ (.pan v) ex:=fun ρ=>by
  obtain⟨ρ1,_,_,g⟩:=h;cases ex with
  |panic ch=>
   obtain⟨v',g1,g2⟩:=g;rw[g1.of_flat n hv]at g2;exact⟨v,.flat n v hv,g2⟩
  |normal=>exact g.elim
  |exit j=>exact g.elim
  |ret=>exact g.elim
  |_=>exact g.elim
 exact(hl N ρ0 W0 w0 .norm .normal a w h0 h1 (fun v e=>by cases e) (h.exit fun _=>trivial)).exit hx
def aaF(P:Program)(R:List ResultVar)(E:aW->XW->Prop):XQ:=fun ex s=>yV P R E ex s\/∃e s',ex=.pan (fC e)/\bz P 2 s s'/\yV P R E ex s'
theorem QD{P:Program}{N:Nat}{c:Code}{s:XS}{R:List ResultVar}{E:aW->XW->Prop}(h:ar P N 2 c s (aaF P R E)):ar P N 2 c s (yV P R E):=fun m ρ0 W0 w0 a w h0 h1 hc=>
 wpIn_mono (h m ρ0 W0 w0 a w h0 h1 hc) fun ex a' w' ⟨e,s',q,hx⟩=>by
  rcases q with q|⟨e1,s2,rfl,q1,q2⟩
  ·exact⟨e,s',q,hx⟩
  exact⟨_,s2,q2,WT (n:=3) rfl q1 h0 h1 hx⟩
theorem Vq{L L':List (Nat×Option ah)}{n n' nl nl':Nat}{lg lg':List Nat}(hn2:n'<16383)(h:(L.all fun q=>Nat.blt q.1 n')=true)(g:∀q∈L,lk L' q.1=q.2):∀m o,(wd L n lg nl).get m=some o->(wd L' n' lg' nl').get m=some o:=fun m o hg=>by
 obtain⟨h1,h2⟩:=bY hg;have h3:=bK h2;have h4:m<n':=Nat.le_of_ble_eq_true (List.all_eq_true.1 h _ h3);rw[ae h4 (by omega)];exact g _ h3
section
variable {P:Program} [hM:kz P] {H:ci} {N k:Nat} {s s':XS} {Q:XQ} {id:Nat} {ops:Array Oper} {d:Code} {pv:Value} {rs:List bp}
theorem IL{p:Prop}(f:p)(b:dv P H)(q:Q .norm s')(h:p->aY P (bc P H 1) N none ops ops.toList s=some (rs,s'):=by intro hf;simp(disch:=first|decide|omega|(simp only[abP,List.length_cons,List.length_nil,abR,abT,abX]<;>omega)|(simp(disch:=decide) only[ae,ab,aa,b9.eq_1];done)) only[hf,jF,aJ,eF,dN,fZ,aY.eq_1,aY.eq_2,fV.eq_1,cW.eq_1,cW.eq_2,go_sem]<;>with_reducible rfl)(hk:jG P ops s.ds.length rs=true:=by
 refine fX (by kernel_rfl) (by kernel_rfl) ?_
 repeat (refine aQ (by first|(refine dj (by with_reducible rfl) (by kernel_rfl) (by kernel_rfl) ?_;simp(disch:=first|decide|omega|(simp only[abP,List.length_cons,List.length_nil,abR,abT,abX]<;>omega)|(simp(disch:=decide) only[ae,ab,aa,b9.eq_1];done)) only[fT.eq_1,cond_true,go_sem];done)|kernel_rfl) ?_)
 rfl):ar P N k (.region id ops true) s Q:=eM b (h f) hk q
theorem pdk{p:Prop}(f:p)(b:dv P H)(j:Nat)(dl:List Bool)(F:List (Nat×Option Value))(W:XW)(q:Q (.pan pv) ⟨ao F,W,s.ds⟩){oj:Oper}{sp:XS}{r:bp}(hms:(List.range' 0 ops.size).map (fq (bG ops) j)=dl:=by kernel_rfl)
 (h:p->kK P (bc P H 1) N none ops dl ops.toList s=some (rs,s'):=by intro hf;simp(disch:=first|decide|omega|(simp only[abP,List.length_cons,List.length_nil,abR,abT,abX]<;>omega)|(simp(disch:=decide) only[ae,ab,aa,b9.eq_1];done)) only[hf,jF,aJ,eF,dN,fZ,aY.eq_1,aY.eq_2,fV.eq_1,cW.eq_1,cW.eq_2,YH,zdt,zdf,BG.eq_1,BG.eq_2,go_sem]<;>with_reducible rfl)
 (hk:Gk P ops s.ds.length rs j=true:=by kernel_rfl) (ho:ops[j]?=some oj:=by simp only[List.getElem?_toArray,List.getElem?_cons_succ,List.getElem?_cons_zero]<;>with_reducible rfl) (hr:rs[j]?=some r:=by simp only[List.getElem?_cons_succ,List.getElem?_cons_zero]<;>with_reducible rfl)
 (hp:p->iu P (bc P H 1) N none ops r.s oj=some (.out pv sp):=by intro hf;simp(disch:=first|decide|omega|(simp only[abP,List.length_cons,List.length_nil,abR,abT,abX]<;>omega)|(simp(disch:=decide) only[ae,ab,aa,b9.eq_1];done)) only[hf,jF,aJ,eF,dN,fZ,go_sem]<;>with_reducible rfl)
 (hsf:sp.fr=r.s.fr:=by rfl) (hsd:sp.ds=r.s.ds:=by rfl) (hnx:sp.W.next=r.s.W.next:=by rfl) (hS:∀n o,W.get n=some o->sp.W.get n=some o:=by
  refine Vq (by decide) (by rfl) ?_;simp only[List.forall_mem_cons,ab6,false_imp_iff,implies_true,and_true]
  repeat (first|exact ab|refine And.intro ?_ ?_|refine Eq.trans (aa (by decide)) ?_))
 (hSn:s'.W.next<=W.next:=by exact Nat.le_of_ble_eq_true rfl)
 (hSf:∀q∈F,q.1<511/\q.1∉iS ops oj/\r.s.fr.get q.1=q.2:=by
  simp only[List.forall_mem_cons,ab6,false_imp_iff,implies_true,and_true]
  repeat (first|(refine⟨by decide,by decide +kernel,?_⟩;refine Eq.trans (e9 (by decide)) ?_;repeat (first|exact ab|refine Eq.trans (aa (by decide)) ?_))|refine And.intro ?_ ?_)):ar P N k (.region id ops true) s Q:=
 qQ b j dl (W':=sp.W) (S:=⟨ao F,W,s.ds⟩) hms (h f) hk ho hr (by rw[hp f,<-hsf,<-hsd]) hnx hS hSn (fun t v e=>by obtain⟨g1,g2,g3⟩:=hSf _ (bK (eQ e));exact⟨g2,g3⟩) rfl q
end
def rq(g:HB->Option (List UInt8)):mG->List Ce
 |[]=>[]
 |x::l=>if(dM x.1 (g x.2)).2=0 then(dM x.1 (g x.2)).1++rq g l else[]
theorem wH{g:HB->Option (List UInt8)}{x:Nat×HB}{l:mG}:rq g (x::l)=if(dM x.1 (g x.2)).2=0 then(dM x.1 (g x.2)).1++rq g l else[]:=rfl
theorem JA{g:HB->Option (List UInt8)}:∀{l:mG},(dX g l).2=0->rq g l=(dX g l).1
 |[],_=>rfl
 |x::l,h=>by
  rw[rJ]at h ⊢;rw[wH];by_cases h1:(dM x.1 (g x.2)).2=0
  ·rw[if_pos h1]at h ⊢;rw[if_pos h1];by_cases h2:(dX g l).2=0
   ·rw[if_pos h2,JA h2]
   rw[if_neg h2]at h;exact absurd h h2
  rw[if_neg h1]at h;exact absurd h h1
theorem Uw{n:Nat}{θ:Nat->Option Nat}{fr:Nat×Nat}:TO Tryz.prog (aP θ) (.cells [.slice none 0 0] 40 fr) (.cells [gs n aq ([]:List Ce)] 40 fr):=cm (av (fun ρ ρ' x _ hv=>by rw[hv.of_flat 1 rfl];exact .sliceN _ _) aR)
noncomputable def ma(g:HB->Option (List UInt8))(h:HB):List Ce×Nat:=if(cz (g h)).2=0 then(rq g (cz (g h)).1,(dX g (cz (g h)).1).2)else([],(cz (g h)).2)
set_option maxHeartbeats 1000000 in
theorem Fl(es:aV)(h:HB)(hb:∀x t,aD x es=some t->t.length<=1000000):Fg 42 [bu h] es (.ret (.tuple #[gw (ma (aD · es) h).1,.int .i64 ((ma (aD · es) h).2:Nat)])):=by
 refine⟨enters_of (by kernel_rfl),b7.h,rm.h,?_⟩;have htr:=D2 es h (fun t ht=>by have:=hb h t ht;omega);have hln:=lC (hb h);have hkk:=yN (g:=aD h es);unfold ma;generalize cz (aD h es)=te at htr hln hkk ⊢;obtain⟨l,e⟩:=te;simp only at htr hln hkk ⊢;refine UQ Tryz.func42 Tryz.results42 (h:=QD ?_);show ar _ _ 2 _ _ _;refine rs ?_;refine rs ?_;refine xP 4 [(0,some (.pointer (some ⟨0,0,none⟩))),(3,some (.pointer (some ⟨2,0,none⟩))),(4,some (.pointer (some ⟨3,0,none⟩))),(5,some (.pointer (some ⟨4,0,none⟩)))] [(0,some (aE es 1)),(1,some (bN es)),(2,some (hH h)),(3,some (.cells [.slice none 0 0] 40 (0,0))),(4,some (zE 0))] 5 ?_;by_cases he:e=0
 ·subst he;rw[if_pos rfl];have htr:Fg 47 [bu h] es (.ret (sl (eh true l))):=htr;have hg:=mg (w:=0) (b:=1) (n:=5) (nl:=0) (lg:=[]) (xs:=[bu h]) (es:=es) (e:=.ret (sl (eh true l))) (K:=[(0,some (aE es 1)),(1,some (bN es)),(2,some (hH h)),(3,some (.cells [.slice none 0 0] 40 (0,0))),(4,some (zE 0))]) rfl rfl (by decide) (by decide) (by decide) (by decide);have hel:=vc (r:=true) (l:=l);refine ai ?_;refine eO hg (bh (jH (w:=0) (b:=1) htr)) ?_;simp only[hel];refine xP 4 [(0,some (.pointer (some ⟨0,0,none⟩))),(4,some (.pointer (some ⟨3,0,none⟩))),(5,some (.pointer (some ⟨4,0,none⟩))),(10,some (sl (eh true l))),(11,some (.int .i64 (l.length:Nat))),(12,some (.int .i64 (0:Nat)))] [(0,some (aE es 1)),(1,some (bN es)),(3,some (.cells [.slice none 0 0] 40 (0,0))),(4,some (zE 0)),(5,some (ro 58 ([]:List Ce)))] 6 ?_;refine xP 4 [(0,some (.pointer (some ⟨0,0,none⟩))),(4,some (.pointer (some ⟨3,0,none⟩))),(5,some (.pointer (some ⟨4,0,none⟩))),(10,some (sl (eh true l))),(11,some (.int .i64 (l.length:Nat))),(12,some (.int .i64 (0:Nat)))] [(0,some (aE es 1)),(1,some (bN es)),(3,some (.cells [gs 5 aq ([]:List Ce)] 40 (0,0))),(4,some (zE 0)),(5,some (ro 58 ([]:List Ce)))] 6 ?_ (hl:=Ir 4 4 [(0,0),(1,1),(3,3),(4,4),(5,5)] (hL:=aN 0 (by repeat (first|exact ab|refine Eq.trans (aa (by decide)) ?_)) (by decide) (by decide) (by repeat (first|exact ab|refine Eq.trans (aa (by decide)) ?_)) (dy (fun _=>by decide)) (aN 1 (by repeat (first|exact ab|refine Eq.trans (aa (by decide)) ?_)) (by decide) (by decide) (by repeat (first|exact ab|refine Eq.trans (aa (by decide)) ?_)) (aT aj jO.h) (aN 3 (by repeat (first|exact ab|refine Eq.trans (aa (by decide)) ?_)) (by decide) (by decide) (by repeat (first|exact ab|refine Eq.trans (aa (by decide)) ?_)) (Uw) (aN 4 (by repeat (first|exact ab|refine Eq.trans (aa (by decide)) ?_)) (by decide) (by decide) (by repeat (first|exact ab|refine Eq.trans (aa (by decide)) ?_)) (aT aj (aB b7.h)) (aN 5 (by repeat (first|exact ab|refine Eq.trans (aa (by decide)) ?_)) (by decide) (by decide) (by repeat (first|exact ab|refine Eq.trans (aa (by decide)) ?_)) (aT aj (aB b7.h)) (dP)))))));refine fr (fun x:Nat×List Ce=>⟨ao [(0,some (.pointer (some ⟨0,0,none⟩))),(4,some (.pointer (some ⟨3,0,none⟩))),(5,some (.pointer (some ⟨4,0,none⟩))),(10,some (sl (eh true l))),(11,some (.int .i64 (l.length:Nat))),(12,some (.int .i64 (x.1:Nat)))],wd [(0,some (aE es 1)),(1,some (bN es)),(3,some (.cells [gs 5 aq x.2] 40 (0,0))),(4,some (zE 0)),(5,some (ro 58 x.2))] 6 [] 0,dG 4⟩)
   (fun x=>x.1<=l.length/\x.2.length<=16*x.1/\rq (aD · es) l=x.2++rq (aD · es) (l.drop x.1)/\(dX (aD · es) l).2=(dX (aD · es) (l.drop x.1)).2) (fun x=>l.length-x.1) (0,[]) ⟨abW _,abW _,rfl,rfl⟩ (fun x hv hc=>?_) (fun x hv hc=>?_)
  ·obtain⟨i,out⟩:=x;obtain⟨v1,v2,v3,v4⟩:=hv;simp only at hc v1 v2 v3 v4;have hi:i<l.length:=by omega
   rw[show l.drop i=l.getD i (0,hZ)::l.drop (i+1) by rw[acF hi,abV,abS hi];rfl]at v3 v4;rw[wH]at v3;rw[rJ]at v4;have hge:=uW (r:=true) hi;have hkx:=hkk (l.getD i (0,hZ)) (by rw[abV,abS hi];exact List.getElem_mem hi);generalize l.getD i (0,hZ)=y at v3 v4 hge hkx;obtain⟨k,hh⟩:=y;simp only at v3 v4 hge hkx;have hce:=Lh es k hh hkx (hb hh);obtain⟨hc16,_⟩:=ow (k:=k) (g:=aD hh es) (hb hh);generalize dM k (aD hh es)=ce at v3 v4 hce hc16;obtain⟨l2,e2⟩:=ce;simp only at v3 v4 hce hc16;refine bs (ai (Al hge ?_));refine xP 4 [(0,some (.pointer (some ⟨0,0,none⟩))),(4,some (.pointer (some ⟨3,0,none⟩))),(5,some (.pointer (some ⟨4,0,none⟩))),(7,some (.pointer (some ⟨6,0,none⟩))),(10,some (sl (eh true l))),(11,some (.int .i64 (l.length:Nat))),(12,some (.int .i64 (i:Nat)))] [(0,some (aE es 1)),(1,some (bN es)),(3,some (.cells [gs 5 aq out] 40 (0,0))),(4,some (zE 0)),(5,some (ro 58 out)),(6,some (.cells (Value.int .i64 (k:Nat)::an hh.1) 109 (0,0)))] 7 ?_;have hgo:=fun ev=>mg (w:=0) (b:=1) (n:=7) (nl:=0) (lg:=[]) (xs:=[Ks k hh]) (es:=es) (e:=ev) (K:=[(0,some (aE es 1)),(1,some (bN es)),(3,some (.cells [gs 5 aq out] 40 (0,0))),(4,some (zE 0)),(5,some (ro 58 out)),(6,some (.cells (Value.int .i64 (k:Nat)::an hh.1) 109 (0,0)))]) rfl rfl (by decide) (by decide) (by decide) (by decide)
   by_cases h2:e2=0
   ·subst h2;have hce:Fg 80 [Ks k hh] es (.ret (sl l2)):=hce;rw[if_pos rfl]at v3 v4;refine IL (hgo (.ret (sl l2))) (bh (jH (w:=0) (b:=1) hce)) ?_;show ar _ _ _ _ _ _;refine rl ?_;refine nx (i+1,out++l2) ⟨by show i+1<=_;omega,by show(out++l2).length<=16*(i+1);rw[abP];omega,?_,?_⟩ (by show l.length-(i+1)<l.length-i;omega) ?_
    ·show rq (aD · es) l=(out++l2)++rq (aD · es) (l.drop (i+1));rw[v3,acg]
    ·show(dX (aD · es) l).2=(dX (aD · es) (l.drop (i+1))).2;rw[v4];by_cases q:(dX (aD · es) (l.drop (i+1))).2=0
     ·rw[if_pos q,q]
     rw[if_neg q]
    exact Ir 4 4 [(0,0),(1,1),(3,3),(4,4),(7,5)]
   have hce:Fg 80 [Ks k hh] es (.pan (fC e2)):=by have:=hce;unfold PQ at this;rwa [if_neg h2]at this
   rw[if_neg h2]at v3 v4;refine pdk (pv:=fC e2) (hgo (.pan (fC e2))) (bh (jH (w:=0) (b:=1) hce)) 4 [false,false,false,false,true,true,true,true] [(4,some (.pointer (some ⟨3,0,none⟩))),(5,some (.pointer (some ⟨4,0,none⟩)))] (wd [(0,some (aE es 1)),(1,some (bN es)),(3,some (.cells [gs 5 aq out] 40 (0,0))),(4,some (zE 0)),(5,some (ro 58 out))] 8 [] 0) ?_;refine .inr ⟨e2,⟨ao [(4,some (.pointer (some ⟨3,0,none⟩))),(5,some (.pointer (some ⟨4,0,none⟩)))],wd [(0,some (aE es 1)),(1,some (bN es)),(3,some (.cells [sl out] 40 (0,0))),(4,some (zE 0))] 8 [] 0,dG 4⟩,rfl,Va 4 5,?_⟩;refine Xi 4 (Pb rfl (by decide) (by decide)) (e':=.ret (.tuple #[gw out,.int .i64 (e2:Nat)])) ?_;rw[v3,v4,List.append_nil];exact⟨rfl,cu (by repeat (first|exact ab|refine Eq.trans (aa (by decide)) ?_)) (by repeat (first|exact ab|refine Eq.trans (aa (by decide)) ?_)) (by decide)⟩
  obtain⟨i,out⟩:=x;obtain⟨v1,v2,v3,v4⟩:=hv;simp only at hc v1 v2 v3 v4;obtain rfl:i=l.length:=by omega
  rw[List.drop_length]at v3 v4;have v3:rq (aD · es) l=out++[]:=v3;have v4:(dX (aD · es) l).2=0:=v4;rw[v3,v4,List.append_nil];show ar _ _ _ _ _ _;refine xP 4 [(4,some (.pointer (some ⟨3,0,none⟩))),(5,some (.pointer (some ⟨4,0,none⟩)))] [(0,some (aE es 1)),(1,some (bN es)),(3,some (.cells [sl out] 40 (0,0))),(4,some (zE 0))] 6 ?_ (hl:=Va 4 5);refine rs ?_;refine fQ (.inl (rtD 4 Vp (e':=.ret (.tuple #[gw out,.int .i64 ((0:Nat):Int)])) ?_));exact⟨rfl,cu (by repeat (first|exact ab|refine Eq.trans (aa (by decide)) ?_)) (by repeat (first|exact ab|refine Eq.trans (aa (by decide)) ?_)) (by decide)⟩
 rw[if_neg he];have htr:Fg 47 [bu h] es (.pan (fC e)):=by have:=htr;unfold Km at this;rwa [if_neg he]at this
 have hg:=mg (w:=0) (b:=1) (n:=5) (nl:=0) (lg:=[]) (xs:=[bu h]) (es:=es) (e:=.pan (fC e)) (K:=[(0,some (aE es 1)),(1,some (bN es)),(2,some (hH h)),(3,some (.cells [sl ([]:List Ce)] 40 (0,0))),(4,some (zE 0))]) rfl rfl (by decide) (by decide) (by decide) (by decide);refine xP 4 [(0,some (.pointer (some ⟨0,0,none⟩))),(3,some (.pointer (some ⟨2,0,none⟩))),(4,some (.pointer (some ⟨3,0,none⟩))),(5,some (.pointer (some ⟨4,0,none⟩)))] [(0,some (aE es 1)),(1,some (bN es)),(2,some (hH h)),(3,some (.cells [sl ([]:List Ce)] 40 (0,0))),(4,some (zE 0))] 5 ?_ (hl:=Ir 4 4 [(0,0),(1,1),(2,2),(3,3),(4,4)] (hL:=aN 0 (by repeat (first|exact ab|refine Eq.trans (aa (by decide)) ?_)) (by decide) (by decide) (by repeat (first|exact ab|refine Eq.trans (aa (by decide)) ?_)) (dy (fun _=>by decide)) (aN 1 (by repeat (first|exact ab|refine Eq.trans (aa (by decide)) ?_)) (by decide) (by decide) (by repeat (first|exact ab|refine Eq.trans (aa (by decide)) ?_)) (aT aj jO.h) (aN 2 (by repeat (first|exact ab|refine Eq.trans (aa (by decide)) ?_)) (by decide) (by decide) (by repeat (first|exact ab|refine Eq.trans (aa (by decide)) ?_)) (aT aj (aB b7.h)) (aN 3 (by repeat (first|exact ab|refine Eq.trans (aa (by decide)) ?_)) (by decide) (by decide) (by repeat (first|exact ab|refine Eq.trans (aa (by decide)) ?_)) (qU) (aN 4 (by repeat (first|exact ab|refine Eq.trans (aa (by decide)) ?_)) (by decide) (by decide) (by repeat (first|exact ab|refine Eq.trans (aa (by decide)) ?_)) (aT aj (aB b7.h)) (dP)))))));refine ai ?_;refine pq hg (bh (jH (w:=0) (b:=1) htr)) ?_;refine .inl (Xi 4 (Pb rfl (by decide) (by decide)) (e':=.ret (.tuple #[gw ([]:List Ce),.int .i64 (e:Nat)])) ?_);exact⟨rfl,cu (by repeat (first|exact ab|refine Eq.trans (aa (by decide)) ?_)) (by repeat (first|exact ab|refine Eq.trans (aa (by decide)) ?_)) (by decide)⟩
theorem Lu{g:HB->Option (List UInt8)}{h:HB}:vH g h=if(ma g h).2=0 then(if(ei (ma g h).1).2=0 then(aM (ma g h).1,0)else([],(ei (ma g h).1).2))else([],((ma g h).2:Nat)):=by
 unfold vH ma;by_cases h1:(cz (g h)).2=0
 ·rw[if_pos h1,if_pos h1];by_cases h2:(dX g (cz (g h)).1).2=0
  ·rw[if_pos h2];show _=if(dX g (cz (g h)).1).2=0 then _ else _
   rw[if_pos h2,JA h2]
  rw[if_neg h2];show _=if(dX g (cz (g h)).1).2=0 then _ else _
  rw[if_neg h2]
 rw[if_neg h1,if_neg h1];show _=if(cz (g h)).2=0 then _ else _
 rw[if_neg h1]
theorem Gj{g:HB->Option (List UInt8)}(h:∀x t,g x=some t->t.length<=1000000):∀(l:mG),(∀x∈l,x.1<576460752303423488)->(rq g l).length<=16*l.length/\∀c∈rq g l,Xa c
 |[],_=>⟨abW _,fun c hc=>(by cases hc)⟩
 |x::l,hk=>by
  obtain⟨i1,i2⟩:=Gj h l fun y hy=>hk y (aca _ hy)
  obtain⟨a,b⟩:=ow (k:=x.1) (g:=g x.2) (h x.2);have hx:=hk x ab4;rw[wH];split
  ·refine⟨?_,fun c hc=>?_⟩
   ·rw[abP,List.length_cons];omega
   rcases List.mem_append.1 hc with q|q
   ·obtain⟨b1,y,b2,b3⟩:=b c q;exact⟨b1,by omega⟩
   exact i2 c q
  exact⟨abW _,fun c hc=>(by cases hc)⟩
theorem Hp{g:HB->Option (List UInt8)}{h:HB}(hb:∀x t,g x=some t->t.length<=1000000):(ma g h).1.length<=1000000/\∀c∈(ma g h).1,Xa c:=by
 have hln:=lC (hb h);unfold ma;split
 ·obtain⟨a,b⟩:=Gj hb (cz (g h)).1 yN;exact⟨by show(rq g (cz (g h)).1).length<=_;omega,b⟩
 exact⟨abW _,fun c hc=>(by cases hc)⟩
set_option maxHeartbeats 1000000 in
theorem Fm(es:aV)(h:HB)(hb:∀x t,aD x es=some t->t.length<=1000000):Fg 19 [bu h] es (.ret (.tuple #[gw (vH (aD · es) h).1,.int .i64 (vH (aD · es) h).2])):=by
 refine⟨enters_of (by kernel_rfl),b7.h,rm.h,?_⟩;have hsc:=Fl es h hb;obtain⟨hl,hce⟩:=Hp (g:=(aD · es)) (h:=h) hb;rw[Lu];generalize ma (aD · es) h=te at hsc hl hce ⊢;obtain⟨l,e⟩:=te;simp only at hsc hl hce ⊢;have hck:=Jr l (by omega) (fun c hc=>(hce c hc).sd);have hcn:=xy l (by omega) (fun c hc=>(hce c hc).sd);refine low Tryz.func19 Tryz.results19 (h:=?_);show ar _ _ 2 _ _ _;refine rs ?_;refine cv [(0,some (.pointer (some ⟨0,0,none⟩))),(3,some (.pointer (some ⟨2,0,none⟩))),(4,some (.pointer (some ⟨3,0,none⟩))),(5,some (.int .i64 0))] [(0,some (aE es 1)),(1,some (bN es)),(2,some (hH h)),(3,some (.cells [.slice none 0 0] 40 (0,0)))] 4 ?_;have hgo:=mg (w:=0) (b:=1) (n:=4) (nl:=0) (lg:=[]) (xs:=[bu h]) (es:=es) (e:=.ret (.tuple #[gw l,.int .i64 (e:Nat)])) (K:=[(0,some (aE es 1)),(1,some (bN es)),(2,some (hH h)),(3,some (.cells [.slice none 0 0] 40 (0,0)))]) rfl rfl (by decide) (by decide) (by decide) (by decide);refine eO hgo (bh (jH (w:=0) (b:=1) hsc)) ?_;refine rS ?_;by_cases he:e=0
 ·subst he;rw[if_pos rfl];refine cf ?_;refine sk ?_;refine ai (rc (b1 hck) ?_);refine rs ?_;by_cases h0:(ei l).2=0
  ·rw[if_pos h0];rw[h0]at *;refine cf ?_;refine sk ?_;refine rc (b1 hcn) ?_;refine rt ?_;exact⟨rfl,cu (by repeat (first|exact ab|refine Eq.trans (aa (by decide)) ?_)) (by repeat (first|exact ab|refine Eq.trans (aa (by decide)) ?_)) (by decide)⟩
  rw[if_neg h0];generalize(ei l).2=ce at h0 hck ⊢;refine ct ?_;refine rs ?_;refine cv [(4,some (.pointer (some ⟨3,0,none⟩))),(5,some (.int .i64 ce))] [(0,some (aE es 1)),(1,some (bN es)),(3,some (.cells [sl ([]:List Ce)] 40 (0,0)))] 5 ?_ (hl:=fb [(0,0),(1,1),(3,3)] (hL:=aN 0 (by repeat (first|exact ab|refine Eq.trans (aa (by decide)) ?_)) (by decide) (by decide) (by repeat (first|exact ab|refine Eq.trans (aa (by decide)) ?_)) (dy (fun _=>by decide)) (aN 1 (by repeat (first|exact ab|refine Eq.trans (aa (by decide)) ?_)) (by decide) (by decide) (by repeat (first|exact ab|refine Eq.trans (aa (by decide)) ?_)) (aT aj jO.h) (aN 3 (by repeat (first|exact ab|refine Eq.trans (aa (by decide)) ?_)) (by decide) (by decide) (by repeat (first|exact ab|refine Eq.trans (aa (by decide)) ?_)) (qU) (dP)))));refine rt ?_;exact⟨rfl,cu (by repeat (first|exact ab|refine Eq.trans (aa (by decide)) ?_)) (by repeat (first|exact ab|refine Eq.trans (aa (by decide)) ?_)) (by decide)⟩
 rw[if_neg he];refine ct ?_;refine rs ?_;refine cv [(4,some (.pointer (some ⟨3,0,none⟩))),(5,some (.int .i64 ((e:Nat):Int)))] [(0,some (aE es 1)),(1,some (bN es)),(3,some (.cells [sl ([]:List Ce)] 40 (0,0)))] 5 ?_ (hl:=fb [(0,0),(1,1),(3,3)] (hL:=aN 0 (by repeat (first|exact ab|refine Eq.trans (aa (by decide)) ?_)) (by decide) (by decide) (by repeat (first|exact ab|refine Eq.trans (aa (by decide)) ?_)) (dy (fun _=>by decide)) (aN 1 (by repeat (first|exact ab|refine Eq.trans (aa (by decide)) ?_)) (by decide) (by decide) (by repeat (first|exact ab|refine Eq.trans (aa (by decide)) ?_)) (aT aj jO.h) (aN 3 (by repeat (first|exact ab|refine Eq.trans (aa (by decide)) ?_)) (by decide) (by decide) (by repeat (first|exact ab|refine Eq.trans (aa (by decide)) ?_)) (qU) (dP)))));refine rt ?_;exact⟨rfl,cu (by repeat (first|exact ab|refine Eq.trans (aa (by decide)) ?_)) (by repeat (first|exact ab|refine Eq.trans (aa (by decide)) ?_)) (by decide)⟩
end Go.Proofs.YthlkgmdkabelpaaGreat.X
