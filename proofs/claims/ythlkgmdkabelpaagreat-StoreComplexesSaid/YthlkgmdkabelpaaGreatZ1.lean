/-
  Packed by program (tools/pack.py) out of the texts F41 F42 F43 F44 F45. No condition.
-/
import Derived.Test.YthlkgmdkabelpaaGreatZD
set_option linter.all false
namespace Go.Proofs.YthlkgmdkabelpaaGreat.X
open Go Go.RowKit
def Z8(W:XW):Option Value->Option (aW×XW)
 |some v=>some (.ret v,W)
 |none=>none
def mo(p:List Value->Option Value):HF:=fun args W=>Z8 W (p args)
theorem NF{P:Program}{f:FuncId}{p:List Value->Option Value}(he:cS P f)(hb:∀xs v,p xs=some v->cZ xs/\d8 v)(hl:∀xs v,p xs=some v->bg P f xs (wd [] 0 [] 0) fun e W'=>e=.ret v):bS P f (mo p):=by
 have key:∀args W e W',mo p args W=some (e,W')->∃v,p args=some v/\e=.ret v/\W'=W:=fun args W e W' h=>by
  unfold mo at h;cases hp:p args with
  |none=>rw[hp]at h;cases h
  |some v=>rw[hp]at h;cases h;exact⟨v,rfl,rfl,rfl⟩
 refine⟨he,fun args W e W' h=>?_,fun args W e W' h=>?_⟩
 ·obtain⟨v,_,_,rfl⟩:=key _ _ _ _ h;exact .refl _
 obtain⟨v,hp,rfl,rfl⟩:=key _ _ _ _ h;exact uC (hb _ _ hp).1 (hl _ _ hp) (fun e' W' hS=>hS) (hb _ _ hp).2
theorem vz:∀l:List UInt8,eJ (an l)=some l
 |[]=>rfl
 |b::l=>by
  have hb:=b.toNat_lt;show pJ b.toNat (eJ (an l))=_;rw[vz l];show(bif Nat.blt b.toNat 256 then some (UInt8.ofNat b.toNat::l)else none)=_;rw[mj hb];simp
theorem Hx{P:Program}{f:FuncId}{p:List Value->Option Value}(he:cS P f)(hb:∀xs v,p xs=some v->(∀x∈xs,aX 8 x=true)/\aX 8 v=true)
 (hc:∀xs v,p xs=some v->∀w,Calls P f xs.toArray w fun e w'=>e=.returned v/\ak aO w w'):bS P f (mo p):=by
 have key:∀args W e W',mo p args W=some (e,W')->∃v,p args=some v/\e=.ret v/\W'=W:=fun args W e W' h=>by
  unfold mo at h;cases hp:p args with
  |none=>rw[hp]at h;cases h
  |some v=>rw[hp]at h;cases h;exact⟨v,rfl,rfl,rfl⟩
 refine⟨he,fun args W e W' h=>?_,fun args W e W' h ρ args' w m hfr hH hA=>?_⟩
 ·obtain⟨v,_,_,rfl⟩:=key _ _ _ _ h;exact .refl _
 obtain⟨v,hp,rfl,rfl⟩:=key _ _ _ _ h;have:=hA.of_flat 8 (hb _ _ hp).1;subst this;refine CallsIn.mono (callsIn_wide.2 (hc _ _ hp w)) fun en w' ⟨he,hk⟩=>?_
 subst he;exact⟨ρ,.keep hk,hH.keep hk,.flat 8 _ (hb _ _ hp).2⟩
theorem zB{P:Program}{W:XW}{t:TypeId}{c:List Value}:jB P W t (FP c)=gA P t c 0:=rfl
theorem Kw{α:Type}{g:α->List Value}{m:Nat}:∀{l:List α} (hl:∀x∈l,(g x).length=m) {i:Nat} (h:i<l.length),((l.flatMap g).drop (i*m)).take m=g l[i]
 |[],_,i,h=>absurd h (acm i)
 |a::l,hl,0,h=>by
  rw[ab7,acH,List.drop_zero,List.take_left' (hl a ab4)];rfl
 |a::l,hl,i+1,h=>by
  have ha:=hl a ab4;rw[ab7,acM,acy,<-acG,List.drop_left' ha];exact Kw (fun x hx=>hl x (aca _ hx)) (by rw[List.length_cons]at h;omega)
theorem Um{a b:List Value}{n m:Nat}(h:FZ a n=FZ b m):a=b/\n=m:=by
 unfold FZ at h;injection h with h1 h2 _;injection h1 with h1 _;exact⟨by have:=congrArg Array.toList h2;simpa using this,h1⟩
theorem Iz{P:Program}{kk:Nat}{F:List (Nat×Option Value)}{L L':List (Nat×Option ah)}{n nl:Nat}{lg:List Nat}(t x:Nat){c:List Value}{e:TypeId}{fr:Nat×Nat}{len:Nat}
 (hx:lk L x=some (.cells c e fr)) (hn:x<n) (hn2:n<16383) (ht:t<511) (hF:lk F t=some (.slice (some ⟨x,0,none⟩) len bf)) (hl:len<=bf) (hq:len=0->c=[]) (hL:de n ((x,none)::L) L') :
 bz P kk ⟨ao F,wd L n lg nl,[]⟩ ⟨ao [(t,some (FZ c len))],wd L' n lg nl,[]⟩:=by
 refine kI x (c:=c) (e:=e) (fr:=fr) (by show(wd L n lg nl).get x=_;rw[ae hn (by omega)];exact hx) ?_ (Nat.le_refl _) (fun u v' h=>?_) (fun m o' h=>?_) .nil
 ·show(wd L' n lg nl).get x=none;cases e:(wd L' n lg nl).get x with
  |none=>rfl
  |some o=>
   obtain⟨_,g2⟩:=bY e;obtain⟨_,g3⟩:=hL.mem _ _ (bK g2);rw[ab]at g3;cases g3
 ·have h1:=eQ h;by_cases hu:t=u
  ·subst hu;rw[ab]at h1;cases h1;refine⟨_,by show(ao F).get t=_;rw[e9 ht];exact hF,?_⟩;have:=uJ (n:=x) (o:=0) (c:=c) (q:=c.length) hl (fun e=>by rw[hq e];rfl);rwa [List.drop_zero,List.take_length]at this
  rw[aa hu]at h1;cases h1
 obtain⟨g1,g2⟩:=bY h;obtain⟨g3,g4⟩:=hL.mem _ _ (bK g2);by_cases hm:x=m
 ·subst hm;rw[ab]at g4;cases g4
 rw[aa hm]at g4;exact⟨o',by show(wd L n lg nl).get m=some o';rw[ae g1 (by omega)];exact g4,fun ρ ρ' i ob ht ho=>ho.mono ⟨ht.2.1,ht.1⟩⟩
def jm(P:Program)(N k:Nat)(all:Array Oper)(l:List Oper)(s:XS)(Q:XQ):Prop:=
 ∀m ρ0 W0 w0 a w,W0.next=k->(∀n,k<=n->ρ0 n=none)->Ch P N ρ0 W0 w0 .norm s .normal a w->wpListIn Fence.wide m P all (fun ex a' w'=>∃e s',Q e s'/\Ch P N ρ0 W0 w0 e s' ex a' w') l a w
section
variable {P:Program} {H:ci} {N k:Nat} {all:Array Oper} {l:List Oper} {o:Oper} {s s1:XS} {Q:XQ}
theorem cT{id:Nat}{ops:Array Oper}(h:jm P N k ops ops.toList s Q):ar P N k (.region id ops false) s Q:=fun m ρ0 W0 w0 a w h0 h1 hc=>wpIn_region_list (h m ρ0 W0 w0 a w h0 h1 hc)
theorem dn(h:Q .norm s):jm P N k all [] s Q:=fun m ρ0 W0 w0 a w h0 h1 hc=>⟨.norm,s,h,hc⟩
theorem jh{s':XS}(hl:bz P k s s')(h:jm P N k all l s' Q):jm P N k all l s Q:=fun m ρ0 W0 w0 a w h0 h1 hc=>h m ρ0 W0 w0 a w h0 h1 (hl N ρ0 W0 w0 _ _ a w h0 h1 (fun v e=>by cases e) hc)
theorem bF(hB:dv P H)(n:Nat)(h:iu P (bc P H n) N none all s o=some (.on s1))(q:jm P N k all l s1 Q):jm P N k all (o::l) s Q:=fun m ρ0 W0 w0 a w h0 h1 hc=>by
 obtain⟨ρ,⟨g1,g2,g3,g4⟩,g5,g6⟩:=hc;obtain⟨hC,hF,_⟩:=kS hB.mixed hB.sim (lu hB.mixed) n;refine wpListIn_step fun K hK=>?_
 refine zS (rd:=none) (rb:=none) (jV hB.sim.ext n) hC hF trivial h (fun n k1 _=>g5 n k1) g2 g3 g4 (fun s2 e2 ρ' a' w' _ ho=>?_) (fun v s2 e2=>by cases e2);cases e2;exact hK _ _ (q m ρ0 W0 w0 a' w' h0 h1 ⟨ρ',mF.then' ⟨g1,g2,g3,g4⟩ ho,nM g5 ho.1,trivial⟩)
theorem fD{f:FuncId}{args:List Value}{S:aW->XW->Prop}(he:cS P f)(hw:gQ all s.fr o=some true)(hx:cj P s.fr s.W o.type o.op=some (.enter f args))(hl:bg P f args s.W S)
 (q:∀e W',S e W'->∃v fr',e=.ret v/\cw N s.fr o.dst (some v)=some fr'/\jm P N k all l ⟨fr',W',s.ds⟩ Q):jm P N k all (o::l) s Q:=fun m ρ0 W0 w0 a w h0 h1 hc=>by
 obtain⟨ρ,⟨g1,g2,g3,g4⟩,g5,g6⟩:=hc;refine wpListIn_step fun K hK=>?_
 rw[if_pos (jJ g3 hw)];refine⟨fun _ _=>trivial,?_⟩;obtain⟨args',hr,ha⟩:=rj g2 g3.ev hx;rw[show o.semAt Fence.wide.round a.eval=execOp a.eval o from rfl,hr,lv he,Oper.uponIn_enter];refine⟨fun h=>(by cases h),CallsIn.mono (hl ρ args' w (m-1) g5 g2 ha) fun en w' hq=>?_⟩;obtain⟨e,W',hS,ρ',hs,hh,hen⟩:=hq;obtain⟨v,fr',rfl,hp,hq⟩:=q _ _ hS;cases en<;>first|exact hen.elim|skip
 exact hK _ _ (hq m ρ0 W0 w0 _ _ h0 h1 ⟨ρ',⟨g1.trans hs,hh,FR.putT (g3.mono hs.le) (fun x e=>by cases e;exact hen) hp,by rw[cE];exact g4.mono hs.le⟩,nM g5 hs,trivial⟩)
theorem A1{x:Operand}{r mp since last c:Nat}{seen:List Nat}{es:List MapEntry}(hg:o.guard=none)(hop:o.op=.next x false)(hx:ev s.fr x=some (.pointer (some ⟨r,0,none⟩)))(hr:s.W.get r=some (.iter mp since seen last))(hm:s.W.get mp=some (.map es c))
 (hc:(!seen.isEmpty&&!es.isEmpty&&es.all (fun e=>Nat.ble last e.born))=false) (hold:∀e∈es.filter (gC seen),e.born<since)
 (h0:es.filter (gC seen)=[]->∃fr',cw N s.fr o.dst (some (.tuple #[.bool false]))=some fr'/\jm P N k all l ⟨fr',s.W,s.ds⟩ Q)
 (h1:∀e∈es.filter (gC seen),∃fr',cw N s.fr o.dst (some (.tuple #[.bool true,e.key,e.val]))=some fr'/\jm P N k all l ⟨fr',s.W.put r (some (.iter mp since (seen++[e.born]) c)),s.ds⟩ Q):jm P N k all (o::l) s Q:=fun m ρ0 W0 w0 a w k0 k1 hch=>by
 obtain⟨ρ,⟨g1,g2,g3,g4⟩,g5,g6⟩:=hch;refine wpListIn_step fun K hK=>?_
 have hwant:Region.wanted o (yielded all a.tmps)=true:=by unfold Region.wanted;rw[hg]
 rw[if_pos hwant];refine⟨fun _ _=>trivial,?_⟩;rw[show o.semAt Fence.wide.round a.eval=execOp a.eval o from rfl];obtain⟨i,hri,hxe⟩:=(g3.ev x _ hx).ptrInv;obtain⟨q,hq,hit,hs0⟩:=CU g2 hri hr;obtain⟨es',e1,e2⟩:=oK g2 hq hm;rw[Nat.zero_add,hs0]at hxe;have hc':(!seen.toArray.isEmpty&&!es'.toArray.isEmpty&&es'.toArray.all (fun e=>decide (e.born>=last)))=false:=by
  rw[<-hc,sG e2,List.isEmpty_toArray,List.all_toArray];congr 1;have:(fun e:MapEntry=>decide (e.born>=last))=fun e=>Nat.ble last e.born:=by
   funext e;cases h1:Nat.ble last e.born with
   |true=>exact decide_eq_true (Nat.le_of_ble_eq_true h1)
   |false=>exact decide_eq_false fun h2=>by rw[acX h2]at h1;cases h1
  rw[this];exact e2.all (p:=fun b=>Nat.ble last b)
 have hleft:es'.toArray.filter (fun e=>!seen.toArray.contains e.born)=(es'.filter (gC seen)).toArray:=by rw[EE,List.filter_toArray]
 have hfil:=e2.filter (p:=fun b=>!(seen.any fun n=>Nat.beq n b));have hfe:(es.filter fun e=>!(seen.any fun n=>Nat.beq n e.born))=es.filter (gC seen):=rfl;have hfe':(es'.filter fun e=>!(seen.any fun n=>Nat.beq n e.born))=es'.filter (gC seen):=rfl;rw[hfe,hfe']at hfil;generalize hF:es.filter (gC seen)=F at hold h0 h1 hfil;generalize hF':es'.filter (gC seen)=F' at hfil hleft;have hst:∀(w1:World) (ob:Obj),w1.heap=w.heap->(setObj i.b ob).run P w1=.ok () (gH w1 i.b ob):=fun w1 ob hh=>by
  have hit':w1.heap[i.b]?=some (.mapIter (some q.b) since seen.toArray last):=by rw[hh];exact hit
  simp only[setObj,Sem.run,hit',gH]
 cases hfil with
 |nil=>
  have hsem:(execOp a.eval o).run P w=.ok (.value (.tuple #[.bool false])) w:=by
   have:execOp a.eval o=(do pure (.value (<-Instr.next (a.eval x) false o.type))):=by unfold execOp;rw[hop]
   show(execOp a.eval o).run P w=_;rw[this,abU];have hn:(Instr.next (a.eval x) false o.type).run P w=.ok (.tuple #[.bool false]) w:=by unfold Instr.next;rw[hxe];simp only[abU,abQ,je hit,dF e1];rw[if_neg (by rw[hc'];exact acf)];simp only[abU,ab0,abQ,hleft];simp[choose,Sem.run,Question.forced]
   rw[hn];rfl
  rw[hsem,Oper.uponIn_value];obtain⟨fr',hp,hq2⟩:=h0 rfl;exact hK _ _ (hq2 m ρ0 W0 w0 _ _ k0 k1 ⟨ρ,⟨g1,g2,FR.putT g3 (fun x e=>by cases e;exact .flat 8 _ rfl) hp,by rw[cE];exact g4⟩,g5,trivial⟩)
 |cons en0 en0' L0 L0' b1 b2 b3 b4=>
  have hall:∀(L L':List MapEntry),eK ρ L L'->∀(j:Nat) (e':MapEntry),L'[j]?=some e'->∃e,L[j]?=some e/\VR ρ e.key e'.key/\VR ρ e.val e'.val/\e'.born=e.born:=by
   intro L L' h
   induction h with
   |nil=>intro j e' h;simp at h
   |cons en en' L L' b1 b2 b3 b4 ih=>
    intro j e' h;cases j with
    |zero=>simp at h;subst h;exact⟨en,rfl,b1,b2,b3⟩
    |succ j=>simpa using ih j e' (by simpa using h)
  have hER:eK ρ (en0::L0) (en0'::L0'):=.cons _ _ _ _ b1 b2 b3 b4;have hER':=hall _ _ hER;have hold':∀e'∈en0'::L0',e'.born<since:=fun e' he=>by
   obtain⟨j,hj⟩:=List.getElem?_of_mem he;obtain⟨e,q1,_,_,q4⟩:=hER' j e' hj;rw[q4];exact hold e (acq q1)
  obtain⟨L',hL'⟩:∃L',L'=en0'::L0':=⟨_,rfl⟩;rw[<-hL']at hleft hold' hER';have hpos:0<L'.length:=by rw[hL'];simp
  have hO:(L'.toArray.filter fun e=>decide (e.born<since))=L'.toArray:=by rw[List.filter_toArray,List.filter_eq_self.2 fun e he=>decide_eq_true (hold' e he)]
  have hN:(L'.toArray.filter fun e=>decide (e.born>=since))=#[]:=by rw[List.filter_toArray,List.filter_eq_nil_iff.2 fun e he=>by have:=hold' e he;simp;omega]
  have hne:(L'.toArray:Array MapEntry).isEmpty=false:=by rw[List.isEmpty_toArray,hL'];rfl
  have hcand:((if(L'.toArray:Array MapEntry).isEmpty=true then #[none]else #[])++(L'.toArray++#[]:Array MapEntry).map some)=(L'.map some).toArray:=by rw[hne];simp
  obtain⟨j,w1,hj,hch,hw1⟩:∃j w1,j<L'.length/\(choose (.mapNext ((L'.map some).toArray).size)).run P w=.ok j w1/\(w1=w\/w1=w.drew):=by
   rw[run_choose_drew];have hsz:((L'.map some).toArray).size=L'.length:=by simp
   rw[hsz];by_cases hf:Question.forced (.mapNext L'.length)=true
   ·rw[if_pos hf];exact⟨0,w,hpos,rfl,.inl rfl⟩
   rw[if_neg hf];exact⟨_,w.drew,Nat.mod_lt _ hpos,rfl,.inr rfl⟩
  have hget:L'[j]?=some L'[j]:=abS hj;obtain⟨e',he'⟩:∃e',e'=L'[j]:=⟨_,rfl⟩;rw[<-he']at hget;obtain⟨e,q1,q2,q3,q4⟩:=hER' j e' hget;have hH1:HR P ρ s.W.get w1:=by rcases hw1 with rfl|rfl<;>first|exact g2|exact g2.drew
  have hit1:w1.heap[i.b]?=some (.mapIter (some q.b) since seen.toArray last):=by rcases hw1 with rfl|rfl<;>exact hit
  have hheap:w1.heap=w.heap:=by rcases hw1 with rfl|rfl<;>rfl
  obtain⟨r1,r2⟩:=hH1.put hri (by rw[hr];simp) (.iter mp since (seen++[e.born]) c) (gO w1 i.b (.mapIter (some q.b) since (seen++[e.born]).toArray c)) (ka hit1) (.iter _ _ _ _ q hq hs0);have hsem:(execOp a.eval o).run P w=.ok (.value (.tuple #[.bool true,e'.key,e'.val])) (gH w1 i.b (.mapIter (some q.b) since (seen++[e.born]).toArray c)):=by
   have:execOp a.eval o=(do pure (.value (<-Instr.next (a.eval x) false o.type))):=by unfold execOp;rw[hop]
   rw[this,abU];have hn:(Instr.next (a.eval x) false o.type).run P w=.ok (.tuple #[.bool true,e'.key,e'.val]) (gH w1 i.b (.mapIter (some q.b) since (seen++[e.born]).toArray c)):=by
    unfold Instr.next;rw[hxe];simp only[abU,abQ,je hit,dF e1];rw[if_neg (by rw[hc'];exact acf)];simp only[abU,ab0,abQ,hleft,hO,hN,hcand,hch];have hcj:((L'.map some).toArray)[j]?=some (some e'):=by simp[hget]
    rw[hcj];simp only[];rw[abU,hst w1 _ hheap,abQ,q4];rw[show seen.toArray.push e.born=(seen++[e.born]).toArray by simp];rfl
   rw[hn];rfl
  rw[hsem,Oper.uponIn_value];obtain⟨fr',hp,hq2⟩:=h1 e (acq q1);have hstep:ca ρ s.W.get s.W.next w ρ (s.W.put r (some (.iter mp since (seen++[e.born]) c))).get (s.W.put r (some (.iter mp since (seen++[e.born]) c))).next (gH w1 i.b (.mapIter (some q.b) since (seen++[e.born]).toArray c)):=by
   rcases hw1 with rfl|rfl
   ·exact r2
   exact ca.drew r2
  exact hK _ _ (hq2 m ρ0 W0 w0 _ _ k0 k1 ⟨ρ,⟨g1.trans hstep,r1,FR.putT g3 (fun x e=>by cases e;exact .tuple [_,_,_] [_,_,_] (.cons _ _ _ _ (.flat 1 _ rfl) (.cons _ _ _ _ q2 (.cons _ _ _ _ q3 .nil)))) hp,by rw[cE];exact g4⟩,g5,trivial⟩)
end
section
variable {P:Program} {H:ci} {N k:Nat} {s:XS} {Q:XQ}
theorem tt{f:Operand}{ps:Array Tmp}{asg body:Code}{g:FuncId}{xs cap:Array Value}{S:aW->XW->Prop}(hv:ev s.fr f=some (.func (.func g) xs cap))(he:cS P g)
 (hl:bg P g (xs.toList++[Value.func (.yield (s.W.next+1)) #[] #[]]++cap.toList) ((s.W.push (.defd false)).push (.loop .ready none s.fr N ps.toList asg body s.W.next)) S)
 (q:∀e W2,S e W2->∃v st tm N2 ps2 asg2 body2 d2,e=.ret v/\s.W.next+2<=W2.next/\W2.get (s.W.next+1)=some (.loop st none tm N2 ps2 asg2 body2 d2)/\nG st=false/\Q .norm ⟨s.fr,W2.put (s.W.next+1) (some (.loop .exhausted none tm N2 ps2 asg2 body2 d2)),.mark s.W.next::s.ds⟩) :
 ar P N k (.rangeFunc f ps asg body) s Q:=fun m ρ0 W0 w0 a w k0 k1 hch=>by
 obtain⟨ρ,⟨g1,g2,g3,g4⟩,g5,g6⟩:=hch;obtain⟨xs',cs',hx,hv1,hv2⟩:=(g3.ev f _ hv).funcInv;refine wpIn_rangeFunc fun fn _=>?_
 obtain⟨l,mark,w1,ρ1,i1,e1,e2,e3,e4,e5,e6⟩:=Bg (s:=s) (rd:=none) (rb:=none) (d:=s.W.next) (mk:=[cq.mark s.W.next]) (W1:=s.W.push (.defd false)) (ps:=ps.toList) (asg:=asg) (body:=body) (fn:=fn) trivial rfl (fun n k1 _=>g5 n k1) g2 g3;rw[acR]at e1;have hres:(resolve a.eval (rangeCall f l) 0).run P w1=.ok ⟨.fn (.func g) cs'.toArray,xs'.toArray++#[Value.func (.yield l) #[] #[]]⟩ w1:=by show(Deferred.ofValue (a.eval f) (#[Operand.const (.func (.yield l) #[] #[])].map a.eval)).run P w1=_;rw[hx];simp only[List.map_toArray,ack,acI,Act.eval];rfl
 refine⟨l,mark,w1,_,w1,g,xs'.toArray++#[Value.func (.yield l) #[] #[]]++cs'.toArray,w1,e1,hres,fun _ _=>trivial,lv he,fun h=>(by cases h),?_⟩;have hvr:aU ρ1 (xs.toList++[Value.func (.yield (s.W.next+1)) #[] #[]]++cap.toList) (xs'++[Value.func (.yield l) #[] #[]]++cs'):=by refine((hv1.mono e3.le).append (.cons _ _ _ _ ?_ .nil)).append (hv2.mono e3.le);rw[<-e5];exact .yield _ i1 e4
 have hfr1:∀n,((s.W.push (.defd false)).push (.loop .ready none s.fr N ps.toList asg body s.W.next)).next<=n->ρ1 n=none:=nM g5 e3;have hc:=hl ρ1 _ w1 (m-1) hfr1 e2 hvr;have ea:(xs'.toArray++#[Value.func (.yield l) #[] #[]]++cs'.toArray)=(xs'++[Value.func (.yield l) #[] #[]]++cs').toArray:=by apply Array.ext';simp
 rw[<-ea]at hc;refine CallsIn.mono (tB hc) fun en w2 hqf=>?_
 obtain⟨eL,W2,hS,ρ2,s2,h2,hen⟩:=hqf;obtain⟨v,st,tm,N2,ps2,asg2,body2,d2,rfl,hn2,hg,hbz,hq⟩:=q _ _ hS;cases en<;>first|exact hen.elim|skip
 have hi2:=s2.le _ _ e4;have hg:W2.get (s.W.push (.defd false)).next=some (.loop st none tm N2 ps2 asg2 body2 d2):=hg;obtain⟨ob,hb,hor⟩:=h2.obj _ i1 _ hi2 hg;cases hor with
 |loop _ _ _ _ _ _ _ _ qd fn2 tmps2 hd2 hFt2=>
  obtain⟨p1,p2⟩:=h2.put hi2 (by rw[hg];simp) (.loop .exhausted none tm N2 ps2 asg2 body2 d2) (gO w2 i1.b _) (ka hb) (.loop _ none tm N2 ps2 asg2 body2 d2 qd fn2 tmps2 hd2 hFt2);have hend:=v8 (P:=P) hb (show(st==LoopState.busy)=false by cases st<;>first|rfl|cases hbz);rw[e5]at hend p1 p2;refine⟨_,_,hend,?_⟩;have hst:=(e3.trans s2).trans p2;exact⟨_,_,hq,ρ2,⟨g1.trans hst,p1,g3.mono hst.le,((e6.mono s2.le).append (g4.mono hst.le))⟩,nM g5 hst,trivial⟩
end
theorem jf{P:Program}{θ:Nat->Option Nat}{m m' since last:Nat}{seen:List Nat}(h:θ m=some m'):TO P (aP θ) (.iter m since seen last) (.iter m' since seen last):=fun ρ ρ' i ob ht ho=>by
 cases ho with
 |iter _ _ _ _ q hq hs=>exact .iter _ _ _ _ q (ht.2 _ _ _ h hq) hs
theorem Gi{P:Program}{T:RT}{b:Bool}:TO P T (.defd b) (.defd b):=fun ρ ρ' i ob ht ho=>by
 cases ho with
 |defd0=>exact .defd0
 |defd1=>exact .defd1
theorem Gy{P:Program}{θ:Nat->Option Nat}{st:LoopState}{pend:Option Code}{F F':List (Nat×Option Value)}{N:Nat}{ps:List Tmp}{asg body:Code}{d d':Nat}(h:θ d=some d')(hF:cY (aP θ) F F') :
 TO P (aP θ) (.loop st pend (ao F) N ps asg body d) (.loop st pend (ao F') N ps asg body d'):=fun ρ ρ' i ob ht ho=>by
 cases ho with
 |loop _ _ _ _ _ _ _ _ q fn tmps hd hFr=>
  refine .loop _ _ _ _ _ _ _ _ q fn tmps (ht.2 _ _ _ h hd) ⟨hFr.size,fun t v' e=>?_⟩;obtain⟨h1,v,h2,h3⟩:=hF.mem t v' (bK (eQ e));exact h3 _ _ _ ht (hFr.rep t v (by rw[e9 h1];exact h2))
theorem Cd{θ:Nat->Option Nat}{n m:Nat}(h:θ n=some m):TV (aP θ) (.func (.yield n) #[] #[]) (.func (.yield m) #[] #[]):=fun ρ ρ' x ht hv=>by
 cases hv with
 |flat k v h=>cases k<;>simp[aX]at h
 |yield _ i hi=>exact .yield _ _ (ht.2 _ _ _ h hi)
section
variable {P:Program} {H:ci} {N k:Nat} {s s':XS} {e:gV} {Q:XQ}
theorem ni(hB:dv P H)(n:Nat){id:Nat}{ops:Array Oper}(h:fR P (bc P H n) N none ops ops.toList s=some (.code e s'))(q:Q e s'):ar P N k (.region id ops false) s Q:=
 z6 (hB.simC (n+1)) (show bc P H (n+1) (.code N none (.region id ops false) s)=_ from h) q
theorem rR{n N:Nat}{rd:Option Nat}{c:Code}{s:XS}:bc P H (n+1) (.code N rd c s)=cD P (bc P H n) N rd s c:=rfl
end
end Go.Proofs.YthlkgmdkabelpaaGreat.X
