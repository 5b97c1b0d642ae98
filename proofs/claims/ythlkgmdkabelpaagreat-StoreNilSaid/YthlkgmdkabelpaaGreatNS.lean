/-
  Packed by program (tools/pack.py) out of the texts F43 F44 F45. No condition.
-/
import Derived.Test.YthlkgmdkabelpaaGreatNF
set_option linter.all false
open Nat(reduceAdd reduceMul reduceSub)
namespace Go.Proofs.YthlkgmdkabelpaaGreat.X
open Go Go.RowKit
def ma(P:Program)(N k:Nat)(all:Array Oper)(l:List Oper)(s:XS)(Q:XQ):Prop:=
 ∀m ρ0 W0 w0 a w,W0.next=k->(∀n,k<=n->ρ0 n=none)->Ch P N ρ0 W0 w0 .norm s .normal a w->wpListIn Fence.wide m P all (fun ex a' w'=>∃e s',Q e s'/\Ch P N ρ0 W0 w0 e s' ex a' w') l a w
section
variable {P:Program} {H:dX} {N k:Nat} {all:Array Oper} {l:List Oper} {o:Oper} {s s1:XS} {Q:XQ}
theorem cI{id:Nat}{ops:Array Oper}(h:ma P N k ops ops.toList s Q):bA P N k (.region id ops false) s Q:=fun m ρ0 W0 w0 a w h0 h1 hc=>wpIn_region_list (h m ρ0 W0 w0 a w h0 h1 hc)
theorem cY(h:Q .norm s):ma P N k all [] s Q:=fun m ρ0 W0 w0 a w h0 h1 hc=>⟨.norm,s,h,hc⟩
theorem ec{s':XS}(hl:db P k s s')(h:ma P N k all l s' Q):ma P N k all l s Q:=fun m ρ0 W0 w0 a w h0 h1 hc=>h m ρ0 W0 w0 a w h0 h1 (hl N ρ0 W0 w0 _ _ a w h0 h1 (fun v e=>by cases e) hc)
theorem aP(hB:dv P H)(n:Nat)(h:pw P (eP P H n) N none all s o=some (.on s1))(q:ma P N k all l s1 Q):ma P N k all (o::l) s Q:=fun m ρ0 W0 w0 a w h0 h1 hc=>by
 obtain⟨ρ,⟨g1,g2,g3,g4⟩,g5,g6⟩:=hc;obtain⟨hC,hF,_⟩:=lv hB.mixed hB.sim (lF hB.mixed) n;refine wpListIn_step fun K hK=>?_
 refine yv (rd:=none) (rb:=none) (oy hB.sim.ext n) hC hF trivial h (fun n k1 _=>g5 n k1) g2 g3 g4 (fun s2 e2 ρ' a' w' _ ho=>?_) (fun v s2 e2=>by cases e2);cases e2;exact hK _ _ (q m ρ0 W0 w0 a' w' h0 h1 ⟨ρ',my.then' ⟨g1,g2,g3,g4⟩ ho,ni g5 ho.1,trivial⟩)
theorem fT{f:FuncId}{args:List Value}{S:cz->XW->Prop}(he:fi P f)(hw:kH all s.fr o=some true)(hx:dq P s.fr s.W o.type o.op=some (.enter f args))(hl:aN P f args s.W S)
 (q:∀e W',S e W'->∃v fr',e=.ret v/\d8 N s.fr o.dst (some v)=some fr'/\ma P N k all l ⟨fr',W',s.ds⟩ Q):ma P N k all (o::l) s Q:=fun m ρ0 W0 w0 a w h0 h1 hc=>by
 obtain⟨ρ,⟨g1,g2,g3,g4⟩,g5,g6⟩:=hc;refine wpListIn_step fun K hK=>?_
 rw[if_pos (nc g3 hw)];refine⟨fun _ _=>trivial,?_⟩;obtain⟨args',hr,ha⟩:=uZ g2 g3.ev hx;rw[show o.semAt Fence.wide.round a.eval=execOp a.eval o from rfl,hr,lC he,Oper.uponIn_enter];refine⟨fun h=>(by cases h),CallsIn.mono (hl ρ args' w (m-1) g5 g2 ha) fun en w' hq=>?_⟩;obtain⟨e,W',hS,ρ',hs,hh,hen⟩:=hq;obtain⟨v,fr',rfl,hp,hq⟩:=q _ _ hS;cases en<;>first|exact hen.elim|skip
 exact hK _ _ (hq m ρ0 W0 w0 _ _ h0 h1 ⟨ρ',⟨g1.trans hs,hh,FR.putT (g3.mono hs.le) (fun x e=>by cases e;exact hen) hp,by rw[dR];exact g4.mono hs.le⟩,ni g5 hs,trivial⟩)
theorem zM{x:Operand}{r mp since last c:Nat}{seen:List Nat}{es:List MapEntry}(hg:o.guard=none)(hop:o.op=.next x false)(hx:ev s.fr x=some (.pointer (some ⟨r,0,none⟩)))(hr:s.W.get r=some (.iter mp since seen last))(hm:s.W.get mp=some (.map es c))
 (hc:(!seen.isEmpty&&!es.isEmpty&&es.all (fun e=>Nat.ble last e.born))=false) (hold:∀e∈es.filter (ib seen),e.born<since)
 (h0:es.filter (ib seen)=[]->∃fr',d8 N s.fr o.dst (some (.tuple #[.bool false]))=some fr'/\ma P N k all l ⟨fr',s.W,s.ds⟩ Q)
 (h1:∀e∈es.filter (ib seen),∃fr',d8 N s.fr o.dst (some (.tuple #[.bool true,e.key,e.val]))=some fr'/\ma P N k all l ⟨fr',s.W.put r (some (.iter mp since (seen++[e.born]) c)),s.ds⟩ Q):ma P N k all (o::l) s Q:=fun m ρ0 W0 w0 a w k0 k1 hch=>by
 obtain⟨ρ,⟨g1,g2,g3,g4⟩,g5,g6⟩:=hch;refine wpListIn_step fun K hK=>?_
 have hwant:Region.wanted o (yielded all a.tmps)=true:=by unfold Region.wanted;rw[hg]
 rw[if_pos hwant];refine⟨fun _ _=>trivial,?_⟩;rw[show o.semAt Fence.wide.round a.eval=execOp a.eval o from rfl];obtain⟨i,hri,hxe⟩:=(g3.ev x _ hx).ptrInv;obtain⟨q,hq,hit,hs0⟩:=Cc g2 hri hr;obtain⟨es',e1,e2⟩:=nV g2 hq hm;rw[Nat.zero_add,hs0]at hxe;have hc':(!seen.toArray.isEmpty&&!es'.toArray.isEmpty&&es'.toArray.all (fun e=>decide (e.born>=last)))=false:=by
  rw[<-hc,ru e2,List.isEmpty_toArray,List.all_toArray];congr 1;have:(fun e:MapEntry=>decide (e.born>=last))=fun e=>Nat.ble last e.born:=by
   funext e;cases h1:Nat.ble last e.born with
   |true=>exact decide_eq_true (Nat.le_of_ble_eq_true h1)
   |false=>exact decide_eq_false fun h2=>by rw[Nat.ble_eq_true_of_le h2]at h1;cases h1
  rw[this];exact e2.all (p:=fun b=>Nat.ble last b)
 have hleft:es'.toArray.filter (fun e=>!seen.toArray.contains e.born)=(es'.filter (ib seen)).toArray:=by rw[BD,List.filter_toArray]
 have hfil:=e2.filter (p:=fun b=>!(seen.any fun n=>Nat.beq n b));have hfe:(es.filter fun e=>!(seen.any fun n=>Nat.beq n e.born))=es.filter (ib seen):=rfl;have hfe':(es'.filter fun e=>!(seen.any fun n=>Nat.beq n e.born))=es'.filter (ib seen):=rfl;rw[hfe,hfe']at hfil;generalize hF:es.filter (ib seen)=F at hold h0 h1 hfil;generalize hF':es'.filter (ib seen)=F' at hfil hleft;have hst:∀(w1:World) (ob:Obj),w1.heap=w.heap->(setObj i.b ob).run P w1=.ok () (ii w1 i.b ob):=fun w1 ob hh=>by
  have hit':w1.heap[i.b]?=some (.mapIter (some q.b) since seen.toArray last):=by rw[hh];exact hit
  simp only[setObj,Sem.run,hit',ii]
 cases hfil with
 |nil=>
  have hsem:(execOp a.eval o).run P w=.ok (.value (.tuple #[.bool false])) w:=by
   have:execOp a.eval o=(do pure (.value (<-Instr.next (a.eval x) false o.type))):=by unfold execOp;rw[hop]
   show(execOp a.eval o).run P w=_;rw[this,ZO];have hn:(Instr.next (a.eval x) false o.type).run P w=.ok (.tuple #[.bool false]) w:=by unfold Instr.next;rw[hxe];simp only[ZO,ZN,jD hit,eH e1];rw[if_neg (by rw[hc'];exact aag)];simp only[ZO,Z0,ZN,hleft];simp[choose,Sem.run,Question.forced]
   rw[hn];rfl
  rw[hsem,Oper.uponIn_value];obtain⟨fr',hp,hq2⟩:=h0 rfl;exact hK _ _ (hq2 m ρ0 W0 w0 _ _ k0 k1 ⟨ρ,⟨g1,g2,FR.putT g3 (fun x e=>by cases e;exact .flat 8 _ rfl) hp,by rw[dR];exact g4⟩,g5,trivial⟩)
 |cons en0 en0' L0 L0' b1 b2 b3 b4=>
  have hall:∀(L L':List MapEntry),fx ρ L L'->∀(j:Nat) (e':MapEntry),L'[j]?=some e'->∃e,L[j]?=some e/\VR ρ e.key e'.key/\VR ρ e.val e'.val/\e'.born=e.born:=by
   intro L L' h
   induction h with
   |nil=>intro j e' h;simp at h
   |cons en en' L L' b1 b2 b3 b4 ih=>
    intro j e' h;cases j with
    |zero=>simp at h;subst h;exact⟨en,rfl,b1,b2,b3⟩
    |succ j=>simpa using ih j e' (by simpa using h)
  have hER:fx ρ (en0::L0) (en0'::L0'):=.cons _ _ _ _ b1 b2 b3 b4;have hER':=hall _ _ hER;have hold':∀e'∈en0'::L0',e'.born<since:=fun e' he=>by
   obtain⟨j,hj⟩:=List.getElem?_of_mem he;obtain⟨e,q1,_,_,q4⟩:=hER' j e' hj;rw[q4];exact hold e (aaC q1)
  obtain⟨L',hL'⟩:∃L',L'=en0'::L0':=⟨_,rfl⟩;rw[<-hL']at hleft hold' hER';have hpos:0<L'.length:=by rw[hL'];simp
  have hO:(L'.toArray.filter fun e=>decide (e.born<since))=L'.toArray:=by rw[List.filter_toArray,List.filter_eq_self.2 fun e he=>decide_eq_true (hold' e he)]
  have hN:(L'.toArray.filter fun e=>decide (e.born>=since))=#[]:=by rw[List.filter_toArray,List.filter_eq_nil_iff.2 fun e he=>by have:=hold' e he;simp;omega]
  have hne:(L'.toArray:Array MapEntry).isEmpty=false:=by rw[List.isEmpty_toArray,hL'];rfl
  have hcand:((if(L'.toArray:Array MapEntry).isEmpty=true then #[none]else #[])++(L'.toArray++#[]:Array MapEntry).map some)=(L'.map some).toArray:=by rw[hne];simp
  obtain⟨j,w1,hj,hch,hw1⟩:∃j w1,j<L'.length/\(choose (.mapNext ((L'.map some).toArray).size)).run P w=.ok j w1/\(w1=w\/w1=w.drew):=by
   rw[run_choose_drew];have hsz:((L'.map some).toArray).size=L'.length:=by simp
   rw[hsz];by_cases hf:Question.forced (.mapNext L'.length)=true
   ·rw[if_pos hf];exact⟨0,w,hpos,rfl,.inl rfl⟩
   rw[if_neg hf];exact⟨_,w.drew,Nat.mod_lt _ hpos,rfl,.inr rfl⟩
  have hget:L'[j]?=some L'[j]:=ZP hj;obtain⟨e',he'⟩:∃e',e'=L'[j]:=⟨_,rfl⟩;rw[<-he']at hget;obtain⟨e,q1,q2,q3,q4⟩:=hER' j e' hget;have hH1:HR P ρ s.W.get w1:=by
   rcases hw1 with rfl|rfl
   ·exact g2
   exact g2.drew
  have hit1:w1.heap[i.b]?=some (.mapIter (some q.b) since seen.toArray last):=by rcases hw1 with rfl|rfl<;>exact hit
  have hheap:w1.heap=w.heap:=by rcases hw1 with rfl|rfl<;>rfl
  obtain⟨r1,r2⟩:=hH1.put hri (by rw[hr];simp) (.iter mp since (seen++[e.born]) c) (iB w1 i.b (.mapIter (some q.b) since (seen++[e.born]).toArray c)) (kL hit1) (.iter _ _ _ _ q hq hs0);have hsem:(execOp a.eval o).run P w=.ok (.value (.tuple #[.bool true,e'.key,e'.val])) (ii w1 i.b (.mapIter (some q.b) since (seen++[e.born]).toArray c)):=by
   have:execOp a.eval o=(do pure (.value (<-Instr.next (a.eval x) false o.type))):=by unfold execOp;rw[hop]
   rw[this,ZO];have hn:(Instr.next (a.eval x) false o.type).run P w=.ok (.tuple #[.bool true,e'.key,e'.val]) (ii w1 i.b (.mapIter (some q.b) since (seen++[e.born]).toArray c)):=by
    unfold Instr.next;rw[hxe];simp only[ZO,ZN,jD hit,eH e1];rw[if_neg (by rw[hc'];exact aag)];simp only[ZO,Z0,ZN,hleft,hO,hN,hcand,hch];have hcj:((L'.map some).toArray)[j]?=some (some e'):=by simp[hget]
    rw[hcj];simp only[];rw[ZO,hst w1 _ hheap,ZN,q4];rw[show seen.toArray.push e.born=(seen++[e.born]).toArray by simp];rfl
   rw[hn];rfl
  rw[hsem,Oper.uponIn_value];obtain⟨fr',hp,hq2⟩:=h1 e (aaC q1);have hstep:dy ρ s.W.get s.W.next w ρ (s.W.put r (some (.iter mp since (seen++[e.born]) c))).get (s.W.put r (some (.iter mp since (seen++[e.born]) c))).next (ii w1 i.b (.mapIter (some q.b) since (seen++[e.born]).toArray c)):=by
   rcases hw1 with rfl|rfl
   ·exact r2
   exact dy.drew r2
  exact hK _ _ (hq2 m ρ0 W0 w0 _ _ k0 k1 ⟨ρ,⟨g1.trans hstep,r1,FR.putT g3 (fun x e=>by cases e;exact .tuple [_,_,_] [_,_,_] (.cons _ _ _ _ (.flat 1 _ rfl) (.cons _ _ _ _ q2 (.cons _ _ _ _ q3 .nil)))) hp,by rw[dR];exact g4⟩,g5,trivial⟩)
end
section
variable {P:Program} {H:dX} {N k:Nat} {s:XS} {Q:XQ}
theorem sN{f:Operand}{ps:Array Tmp}{asg body:Code}{g:FuncId}{xs cap:Array Value}{S:cz->XW->Prop}(hv:ev s.fr f=some (.func (.func g) xs cap))(he:fi P g)
 (hl:aN P g (xs.toList++[Value.func (.yield (s.W.next+1)) #[] #[]]++cap.toList) ((s.W.push (.defd false)).push (.loop .ready none s.fr N ps.toList asg body s.W.next)) S)
 (q:∀e W2,S e W2->∃v st tm N2 ps2 asg2 body2 d2,e=.ret v/\s.W.next+2<=W2.next/\W2.get (s.W.next+1)=some (.loop st none tm N2 ps2 asg2 body2 d2)/\nj st=false/\Q .norm ⟨s.fr,W2.put (s.W.next+1) (some (.loop .exhausted none tm N2 ps2 asg2 body2 d2)),.mark s.W.next::s.ds⟩) :
 bA P N k (.rangeFunc f ps asg body) s Q:=fun m ρ0 W0 w0 a w k0 k1 hch=>by
 obtain⟨ρ,⟨g1,g2,g3,g4⟩,g5,g6⟩:=hch;obtain⟨xs',cs',hx,hv1,hv2⟩:=(g3.ev f _ hv).funcInv;refine wpIn_rangeFunc fun fn _=>?_
 obtain⟨l,mark,w1,ρ1,i1,e1,e2,e3,e4,e5,e6⟩:=zu (s:=s) (rd:=none) (rb:=none) (d:=s.W.next) (mk:=[dz.mark s.W.next]) (W1:=s.W.push (.defd false)) (ps:=ps.toList) (asg:=asg) (body:=body) (fn:=fn) trivial rfl (fun n k1 _=>g5 n k1) g2 g3;rw[aaK]at e1;have hres:(resolve a.eval (rangeCall f l) 0).run P w1=.ok ⟨.fn (.func g) cs'.toArray,xs'.toArray++#[Value.func (.yield l) #[] #[]]⟩ w1:=by show(Deferred.ofValue (a.eval f) (#[Operand.const (.func (.yield l) #[] #[])].map a.eval)).run P w1=_;rw[hx];simp only[List.map_toArray,aaG,List.map_nil,Act.eval];rfl
 refine⟨l,mark,w1,_,w1,g,xs'.toArray++#[Value.func (.yield l) #[] #[]]++cs'.toArray,w1,e1,hres,fun _ _=>trivial,lC he,fun h=>(by cases h),?_⟩;have hvr:cd ρ1 (xs.toList++[Value.func (.yield (s.W.next+1)) #[] #[]]++cap.toList) (xs'++[Value.func (.yield l) #[] #[]]++cs'):=by refine((hv1.mono e3.le).append (.cons _ _ _ _ ?_ .nil)).append (hv2.mono e3.le);rw[<-e5];exact .yield _ i1 e4
 have hfr1:∀n,((s.W.push (.defd false)).push (.loop .ready none s.fr N ps.toList asg body s.W.next)).next<=n->ρ1 n=none:=ni g5 e3;have hc:=hl ρ1 _ w1 (m-1) hfr1 e2 hvr;have ea:(xs'.toArray++#[Value.func (.yield l) #[] #[]]++cs'.toArray)=(xs'++[Value.func (.yield l) #[] #[]]++cs').toArray:=by apply Array.ext';simp
 rw[<-ea]at hc;refine CallsIn.mono (sO hc) fun en w2 hqf=>?_
 obtain⟨eL,W2,hS,ρ2,s2,h2,hen⟩:=hqf;obtain⟨v,st,tm,N2,ps2,asg2,body2,d2,rfl,hn2,hg,hbz,hq⟩:=q _ _ hS;cases en<;>first|exact hen.elim|skip
 have hi2:=s2.le _ _ e4;have hg:W2.get (s.W.push (.defd false)).next=some (.loop st none tm N2 ps2 asg2 body2 d2):=hg;obtain⟨ob,hb,hor⟩:=h2.obj _ i1 _ hi2 hg;cases hor with
 |loop _ _ _ _ _ _ _ _ qd fn2 tmps2 hd2 hFt2=>
  obtain⟨p1,p2⟩:=h2.put hi2 (by rw[hg];simp) (.loop .exhausted none tm N2 ps2 asg2 body2 d2) (iB w2 i1.b _) (kL hb) (.loop _ none tm N2 ps2 asg2 body2 d2 qd fn2 tmps2 hd2 hFt2);have hend:=vi (P:=P) hb (show(st==LoopState.busy)=false by cases st<;>first|rfl|cases hbz);rw[e5]at hend p1 p2;refine⟨_,_,hend,?_⟩;have hst:=(e3.trans s2).trans p2;exact⟨_,_,hq,ρ2,⟨g1.trans hst,p1,g3.mono hst.le,((e6.mono s2.le).append (g4.mono hst.le))⟩,ni g5 hst,trivial⟩
end
theorem kK{P:Program}{θ:Nat->Option Nat}{m m' since last:Nat}{seen:List Nat}(h:θ m=some m'):TO P (cM θ) (.iter m since seen last) (.iter m' since seen last):=fun ρ ρ' i ob ht ho=>by
 cases ho with
 |iter _ _ _ _ q hq hs=>exact .iter _ _ _ _ q (ht.2 _ _ _ h hq) hs
theorem Ey{P:Program}{T:RT}{b:Bool}:TO P T (.defd b) (.defd b):=fun ρ ρ' i ob ht ho=>by
 cases ho with
 |defd0=>exact .defd0
 |defd1=>exact .defd1
theorem FB{P:Program}{θ:Nat->Option Nat}{st:LoopState}{pend:Option Code}{F F':List (Nat×Option Value)}{N:Nat}{ps:List Tmp}{asg body:Code}{d d':Nat}(h:θ d=some d')(hF:jO (cM θ) F F') :
 TO P (cM θ) (.loop st pend (aI F) N ps asg body d) (.loop st pend (aI F') N ps asg body d'):=fun ρ ρ' i ob ht ho=>by
 cases ho with
 |loop _ _ _ _ _ _ _ _ q fn tmps hd hFr=>
  refine .loop _ _ _ _ _ _ _ _ q fn tmps (ht.2 _ _ _ h hd) ⟨hFr.size,fun t v' e=>?_⟩;obtain⟨h1,v,h2,h3⟩:=hF.mem t v' (bX (gS e));exact h3 _ _ _ ht (hFr.rep t v (by rw[iZ h1];exact h2))
theorem CN{θ:Nat->Option Nat}{n m:Nat}(h:θ n=some m):TV (cM θ) (.func (.yield n) #[] #[]) (.func (.yield m) #[] #[]):=fun ρ ρ' x ht hv=>by
 cases hv with
 |flat k v h=>cases k<;>simp[cb]at h
 |yield _ i hi=>exact .yield _ _ (ht.2 _ _ _ h hi)
section
variable {P:Program} {H:dX} {N k:Nat} {s s':XS} {e:ji} {Q:XQ}
theorem mT(hB:dv P H)(n:Nat){id:Nat}{ops:Array Oper}(h:lV P (eP P H n) N none ops ops.toList s=some (.code e s'))(q:Q e s'):bA P N k (.region id ops false) s Q:=
 yc (hB.simC (n+1)) (show eP P H (n+1) (.code N none (.region id ops false) s)=_ from h) q
theorem rC{n N:Nat}{rd:Option Nat}{c:Code}{s:XS}:eP P H (n+1) (.code N rd c s)=mn P (eP P H n) N rd s c:=rfl
end
end Go.Proofs.YthlkgmdkabelpaaGreat.X
