/-
  Packed by program (tools/pack.py) out of the texts UF26 F27 F28 F29 F30 F31 F32 F33 F34 F35 F36 F37 F40 F39. No condition.
-/
import Derived.Test.YthlkgmdkabelpaaGreatNL
import Derived.Lib.Builder
import Derived.WalkSpells
import Derived.Shelf.Strings.Builder1
import Derived.Test.YthlkgmdkabelpaaGreatNC
set_option linter.all false
open Nat(reduceAdd reduceMul reduceSub)
namespace Go.Proofs.YthlkgmdkabelpaaGreat.X
open Go Go.RowKit
theorem vy:(Tryz.prog.info? 82).map (·.size)=some 2:=by kernel_rfl
set_option maxRecDepth 100000 in
theorem TP(b q:Nat)(w:World)(h0:w.cell? ⟨b,q,none⟩=some (.pointer (some ⟨b,q,none⟩))) :
 Calls Tryz.prog 73 #[.pointer (some ⟨b,q,none⟩)] w fun e w'=>e=.returned (.tuple #[])/\w'=w:=by
 obtain⟨j,hj,_⟩:=Option.map_eq_some_iff.1 vy
 go_enter Tryz.func73,Tryz.ntmps73
 go_wp2
 rw[Lib.run_neq_ptr_same w _ Tryz.underlying79 hj]
 go_wp2
 go_end0
 exact⟨rfl,rfl⟩
set_option maxRecDepth 100000 in
theorem Q1(b q z:Nat)(e:TypeId)(w:World)(h0:w.cell? ⟨b,q,none⟩=some (.pointer none))(hsh:w.shape? b=some (e,z))(hq:q<z)
 (hl:liesAt Tryz.prog Tryz.prog.depth e (z/Tryz.prog.cellsOf e) q 82 1=true) (hfz:w.frozen? ⟨b,q,none⟩=false) :
 Calls Tryz.prog 73 #[.pointer (some ⟨b,q,none⟩)] w fun e w'=>e=.returned (.tuple #[])/\w'=w.setCell ⟨b,q,none⟩ (.pointer (some ⟨b,q,none⟩)):=by
 obtain⟨j,hj,hjs⟩:=Option.map_eq_some_iff.1 vy
 go_enter Tryz.func73,Tryz.ntmps73
 go_wp2
 rw[Lib.run_to_unsafe w ⟨b,q,none⟩ Tryz.underlying79 Tryz.underlying191 hj (by rw[hjs];decide) hsh hq];simp only[Result.andThen];rw[Oper.upon_value]
 go_wp2
 rw[run_callFunc_extern Tryz.func110 (by kernel_rfl) (by kernel_rfl) (by kernel_rfl) (e:=Extern.AbiNoEscape.same) (by kernel_rfl),Lib.run_noEscape];simp only[Result.andThen];rw[Oper.upon_value]
 go_wp2
 rw[Lib.run_from_unsafe w ⟨b,q,none⟩ Tryz.underlying191 Tryz.underlying79 hj hsh hl];simp only[Result.andThen];rw[Oper.upon_value]
 go_wp2
 go_end0
 exact⟨rfl,rfl⟩
abbrev HF:=List Value->XW->Option (cz×XW)
abbrev HD:=List Value->Option Value->XW->Option (Option Value×XW)
def lH(P:Program)(f:FuncId)(args:List Value)(W:XW)(e:cz)(W':XW):Prop:=
 ∀ρ args' w m,dL ρ W.next W'.next->HR P ρ W.get w->cd ρ args args'->CallsIn Fence.wide m P f args'.toArray w (QF P ρ W w e W')
structure bD(P:Program)(f:FuncId)(h:HF):Prop where
 enters:fi P f
 ext:∀args W e W',h args W=some (e,W')->cK W W'
 sim:∀args W e W',h args W=some (e,W')->lH P f args W e W'
structure Ce(P:Program)(f:FuncId)(h:HD):Prop where
 enters:fi P f
 ext:∀args p W p' W',h args p W=some (p',W')->cK W W'
 sim:∀args p W p' W',h args p W=some (p',W')->∀ρ args' w m u,dL ρ W.next W'.next->HR P ρ W.get w->cd ρ args args'->iY ρ p u ->
  CallsDIn Fence.wide m P f args'.toArray u w fun en u' w'=>(∃v,en=.returned v)/\∃ρ',dy ρ W.get W.next w ρ' W'.get W'.next w'/\HR P ρ' W'.get w'/\iY ρ' p' (settle u')
def kY{α:Type}:List (FuncId×α)->FuncId->Option α
 |[],_=>none
 |(g,h)::l,f=>bif Nat.beq f g then some h else kY l f
theorem je{α:Type}{f:FuncId}{h:α}:∀{l:List (FuncId×α)},kY l f=some h->(f,h)∈l
 |[],e=>by cases e
 |(g,k)::l,e=>by
  unfold kY at e;cases hb:Nat.beq f g with
  |true=>rw[hb]at e;cases e;rw[ZT hb];exact aaf
  |false=>rw[hb]at e;exact aal _ (je e)
inductive qN(P:Program):List (FuncId×HF)->Prop
 |nil:qN P []
 |cons (f:FuncId) (h:HF) (l:List (FuncId×HF)) (hk:bD P f h) (hs:qN P l):qN P ((f,h)::l)
inductive oP(P:Program):List (FuncId×HD)->Prop
 |nil:oP P []
 |cons (f:FuncId) (h:HD) (l:List (FuncId×HD)) (hk:Ce P f h) (hs:oP P l):oP P ((f,h)::l)
theorem qN.mem{P:Program}{f:FuncId}{h:HF}:∀{l:List (FuncId×HF)},qN P l->(f,h)∈l->bD P f h
 |_,.cons _ _ l hk hs,e=>by
  rcases List.mem_cons.1 e with e|e
  ·cases e;exact hk
  exact hs.mem e
theorem oP.mem{P:Program}{f:FuncId}{h:HD}:∀{l:List (FuncId×HD)},oP P l->(f,h)∈l->Ce P f h
 |_,.cons _ _ l hk hs,e=>by
  rcases List.mem_cons.1 e with e|e
  ·cases e;exact hk
  exact hs.mem e
def cE(t:List (FuncId×HF))(d:List (FuncId×HD)):dX:=⟨kY t,kY d⟩
theorem bU{P:Program}{t:List (FuncId×HF)}{d:List (FuncId×HD)}(ht:qN P t)(hd:oP P d):wv P (cE t d):=
 ⟨⟨fun f h args W v W' hf hh=>(ht.mem (je hf)).ext args W v W' hh,fun f h args p W p' W' hf hh=>(hd.mem (je hf)).ext args p W p' W' hh⟩,
  fun f h hf=>(ht.mem (je hf)).enters,fun f h args W v W' hf hh=>(ht.mem (je hf)).sim args W v W' hh,
  fun f h hf=>(hd.mem (je hf)).enters,fun f h args p W p' W' hf hh=>(hd.mem (je hf)).sim args p W p' W' hh⟩
def yL(h:List Value->XW->Option (Value×XW)):HF:=fun args W=>match h args W with
 |some (v,W')=>some (.ret v,W')
 |none=>none
theorem lP{h:List Value->XW->Option (Value×XW)}{args:List Value}{W W':XW}{e:cz}(k:yL h args W=some (e,W')):∃v,e=.ret v/\h args W=some (v,W'):=by
 unfold yL at k;split at k
 ·rename_i v W1 hq;cases k;exact⟨v,rfl,hq⟩
 cases k
def FI(P:Program)(f:FuncId):Bool:=match P.funcs[f]? with
 |some fn=>m5 fn&&fn.body.isSome
 |none=>false
theorem enters_of{P:Program}{f:FuncId}(h:FI P f=true):fi P f:=by
 unfold FI at h;split at h
 ·rename_i fn hf;simp only[ZX]at h;exact⟨fn,hf,h.1,h.2⟩
 cases h
theorem Qh{P:Program}{R:XK}{f:FuncId}(he:fi P f)(hR:ie R)(hC:ku P R):Ce P f (Gr P R f):=
 ⟨he,fun args p W p' W' h=>(A2 hR hC h).2.1,fun args p W p' W' h=>(A2 hR hC h).2.2⟩
def Ch(P:Program)(N:Nat)(ρ0:Ren)(W0:XW)(w0:World)(e:ji)(s:XS)(ex:Exit)(a:Act)(w:World):Prop:=
 ∃ρ,my P ρ0 W0 w0 N s ρ a w/\(∀n,s.W.next<=n->ρ n=none)/\vI ρ e ex
def db(P:Program)(k:Nat)(s s':XS):Prop:=∀N ρ0 W0 w0 e ex a w,W0.next=k->(∀n,k<=n->ρ0 n=none)->(∀v,e≠.pan v)->Ch P N ρ0 W0 w0 e s ex a w->Ch P N ρ0 W0 w0 e s' ex a w
abbrev XQ:=ji->XS->Prop
def bA(P:Program)(N k:Nat)(c:Code)(s:XS)(Q:XQ):Prop:=
 ∀m ρ0 W0 w0 a w,W0.next=k->(∀n,k<=n->ρ0 n=none)->Ch P N ρ0 W0 w0 .norm s .normal a w->c.wpIn Fence.wide m P (fun ex a' w'=>∃e s',Q e s'/\Ch P N ρ0 W0 w0 e s' ex a' w') a w
def NH(P:Program)(N k:Nat)(d:Code)(Q:XQ):XQ
 |.norm,s=>bA P N k d s Q
 |e,s=>Q e s
def Id(id:Nat)(Q:XQ):XQ
 |.exit i,s=>if i=id then Q .norm s else Q (.exit i) s
 |e,s=>Q e s
section
variable {P:Program} {N k:Nat} {R:XK} {c d:Code} {s s':XS} {Q Q':XQ}
theorem my.then'{ρ0 ρ ρ':Ren}{W0:XW}{w0 w w':World}{a a':Act}(h:my P ρ0 W0 w0 N s ρ a w)(k:my P ρ s.W w N s' ρ' a' w'):my P ρ0 W0 w0 N s' ρ' a' w':=
 ⟨h.1.trans k.1,k.2⟩
theorem ni{ρ ρ':Ren}{G G':GH}{nx nx':Nat}{w w':World}(hn:∀n,nx<=n->ρ n=none)(h:dy ρ G nx w ρ' G' nx' w'):∀n,nx'<=n->ρ' n=none:=fun n hn'=>by
 cases e:ρ' n with
 |none=>rfl
 |some q=>
  rcases h.dom n (by rw[e];simp)with q|⟨q1,q2⟩
  ·exact absurd (hn n (Nat.le_trans h.next hn')) q
  omega
theorem yc{e:ji}(hC:ku P R)(h:R (.code N none c s)=some (.code e s'))(hq:Q e s'):bA P N k c s Q:=fun m ρ0 W0 w0 a w h0 h1 hc=>by
 obtain⟨ρ,⟨g1,g2,g3,g4⟩,g5,g6⟩:=hc;refine wpIn_mono (hC _ _ _ _ _ _ h ρ none a w m trivial (fun n k1 _=>g5 n k1) g2 g3 g4) fun ex a' w' hx=>?_
 obtain⟨ρ',ho,hx⟩:=hx;exact⟨e,s',hq,ρ',my.then' ⟨g1,g2,g3,g4⟩ ho,ni g5 ho.1,hx⟩
theorem jb(hq:∀e s,Q e s->Q' e s)(h:bA P N k c s Q):bA P N k c s Q':=fun m ρ0 W0 w0 a w h0 h1 hc=>
 wpIn_mono (h m ρ0 W0 w0 a w h0 h1 hc) fun ex a' w' ⟨e,s',q,hx⟩=>⟨e,s',hq e s' q,hx⟩
theorem aU(hl:db P k s s')(h:bA P N k c s' Q):bA P N k c s Q:=fun m ρ0 W0 w0 a w h0 h1 hc=>h m ρ0 W0 w0 a w h0 h1 (hl N ρ0 W0 w0 _ _ a w h0 h1 (fun v e=>by cases e) hc)
theorem db.refl:db P k s s:=fun _ _ _ _ _ _ _ _ _ _ _ h=>h
theorem db.trans{s1 s2 s3:XS}(h:db P k s1 s2)(g:db P k s2 s3):db P k s1 s3:=fun N ρ0 W0 w0 e ex a w h0 h1 h2 hc=>g N ρ0 W0 w0 e ex a w h0 h1 h2 (h N ρ0 W0 w0 e ex a w h0 h1 h2 hc)
theorem aH(h:Q .norm s):bA P N k .skip s Q:=fun m ρ0 W0 w0 a w h0 h1 hc=>wpIn_skip ⟨.norm,s,h,hc⟩
theorem Ch.exit{ρ0:Ren}{W0:XW}{w0:World}{a:Act}{w:World}{e e':ji}{ex ex':Exit}(h:Ch P N ρ0 W0 w0 e s ex a w)(hx:∀ρ,vI ρ e' ex'):Ch P N ρ0 W0 w0 e' s ex' a w:=by
 obtain⟨ρ,h1,h2,_⟩:=h;exact⟨ρ,h1,h2,hx ρ⟩
theorem bh(h:Q .ret s):bA P N k .ret s Q:=fun m ρ0 W0 w0 a w h0 h1 hc=>wpIn_ret ⟨.ret,s,h,hc.exit fun _=>trivial⟩
theorem bp{id:Nat}(h:Q (.exit id) s):bA P N k (.exit id) s Q:=fun m ρ0 W0 w0 a w h0 h1 hc=>wpIn_exit ⟨.exit id,s,h,hc.exit fun _=>rfl⟩
theorem ae(h:bA P N k c s (NH P N k d Q)):bA P N k (.seq c d) s Q:=fun m ρ0 W0 w0 a w h0 h1 hc=>by
 refine wpIn_seq (wpIn_mono (h m ρ0 W0 w0 a w h0 h1 hc) fun ex a' w' hx=>?_);obtain⟨e,s',q,hx⟩:=hx;have hx':=hx;obtain⟨ρ,_,_,hr⟩:=hx';cases e with
 |norm=>
  cases ex<;>first|exact hr.elim|skip
  exact q m ρ0 W0 w0 a' w' h0 h1 hx
 |_=>cases ex<;>first|exact hr.elim|exact⟨_,s',q,hx⟩
theorem Cb{x:Operand}{t:Bool}(hx:ev s.fr x=some (.bool t))(h:bA P N k (if t then c else d) s Q):bA P N k (.cond x c d) s Q:=fun m ρ0 W0 w0 a w h0 h1 hc=>by
 have hc':=hc;obtain⟨ρ,⟨g1,g2,g3,g4⟩,_⟩:=hc';exact wpIn_cond ((g3.ev x _ hx).of_flat 1 rfl) (h m ρ0 W0 w0 a w h0 h1 hc)
theorem aD{id:Nat}(h:bA P N k c s (Id id Q)):bA P N k (.block id c) s Q:=fun m ρ0 W0 w0 a w h0 h1 hc=>by
 refine wpIn_block (wpIn_mono (h m ρ0 W0 w0 a w h0 h1 hc) fun ex a' w' hx=>?_);obtain⟨e,s',q,hx⟩:=hx;have hx':=hx;obtain⟨ρ,_,_,hr⟩:=hx';cases ex with
 |exit j=>
  cases e<;>first|exact hr.elim|skip
  rename_i i;have hij:i=j:=hr;subst hij;unfold Id at q;show Exit.inBlock id _ (.exit i) a' w';unfold Exit.inBlock;simp only at q ⊢;by_cases hid:i=id
  ·rw[if_pos hid]at q ⊢;exact⟨.norm,s',q,hx.exit fun _=>trivial⟩
  rw[if_neg hid]at q ⊢;exact⟨.exit i,s',q,hx⟩
 |_=>cases e<;>first|exact hr.elim|exact⟨_,s',q,hx⟩
theorem bw{α:Type}(I:α->XS)(μ:α->Nat)(h:∀x,bA P N k c (I x) fun e s'=>match e with
 |.norm=>∃y,μ y<μ x/\db P k s' (I y)
 |e=>Q e s') (x:α):bA P N k (.loop c) (I x) Q:=fun m ρ0 W0 w0 a w h0 h1 hc=>by
 refine DI ?_
 induction hn:μ x using Nat.strongRecOn generalizing x a w with
 |_ n ih=>
  refine xh (wpIn_mono (h x m ρ0 W0 w0 a w h0 h1 hc) fun ex a' w' hx=>?_);obtain⟨e,s',q,hx⟩:=hx;have hx':=hx;obtain⟨ρ,_,_,hr⟩:=hx';cases e with
  |norm=>
   cases ex<;>first|exact hr.elim|skip
   obtain⟨y,hy,hl⟩:=q;exact ih (μ y) (by omega) y a' w' (hl N ρ0 W0 w0 _ _ a' w' h0 h1 (fun v e=>by cases e) hx) rfl
  |_=>cases ex<;>first|exact hr.elim|exact⟨_,s',q,hx⟩
end
theorem Xx{P:Program}{H:dX}(hS:wv P H){f:FuncId}{fn:Func}{c:Code}{args:List Value}{W:XW}{Q:cz->XW->Prop}(hf:P.funcs[f]?=some fn)(hc:fn.body=some c)(hN:args.length<=fn.ntmps)
 (h:bA P fn.ntmps W.next c ⟨yg args,W,[]⟩ fun e s=>∃p e' W',sK e=some p/\qX P fn s.fr (fM H s.ds p s.W)=some (.fin e' W')/\Q e' W') :
 ∀ρ args' w m,(∀n,W.next<=n->ρ n=none)->HR P ρ W.get w->cd ρ args args'->CallsIn Fence.wide m P f args'.toArray w fun en w'=>∃e' W',Q e' W'/\QF P ρ W w e' W' en w':=fun ρ args' w m hfr hH hA=>by
 refine callsIn_of_wp_marks hf hc trivial (wpIn_mono (h m ρ W w { tmps:=_,defers:=[] } w rfl hfr ⟨ρ,⟨.refl _ _ _ _,hH,wa hA hN,.nil⟩,hfr,trivial⟩) fun x a1 w1 hx=>?_) rfl;obtain⟨ex,s,⟨p,e',W',hp,hk,hq⟩,ρ1,⟨g1,g2,g3,g4⟩,g5,hx⟩:=hx;have key:∀W2 p2,fM H s.ds p s.W=some (p2,W2)->(∀ρ' u' w',dy ρ W.get W.next w ρ' W2.get W2.next w'->HR P ρ' W2.get w'->iY ρ' p2 u'->∀tm,FR ρ' fn.ntmps s.fr tm->LeavesIn Fence.wide m P fn tm (fun en w'=>∃e' W',Q e' W'/\QF P ρ W w e' W' en w') [] u' w') ->
  ∀u,iY ρ1 p u->LeavesInM Fence.wide m P fn a1.tmps (fun en w'=>∃e' W',Q e' W'/\QF P ρ W w e' W' en w') a1.defers u w1:=fun W2 p2 hs hk u hu=>
  oe hS _ _ _ hs ρ1 _ w1 u (fun n k1 _=>g5 n k1) g2 g4 hu fun ρ' u' w' k1 k2 k3=>hk ρ' u' w' (g1.trans k1) k2 k3 _ (g3.mono k1.le)
 have go:∀u,iY ρ1 p u->LeavesInM Fence.wide m P fn a1.tmps (fun en w'=>∃e' W',Q e' W'/\QF P ρ W w e' W' en w') a1.defers u w1:=by
  unfold qX at hk;split at hk
  ·rename_i v W1 hs;cases hk;refine key _ _ hs fun ρ' u' w' g1 g2 g3 tm hF=>?_
   cases u'<;>first|exact g3.elim|skip
   exact⟨_,_,hq,ρ',g1,g2,g3⟩
  ·rename_i W1 hs;unfold yr at hk;split at hk
   ·rename_i vs hr;cases hk;refine key _ _ hs fun ρ' u' w' g1 g2 g3 tm hF=>?_
    cases u'<;>first|exact g3.elim|skip
    obtain⟨u,q1,q2⟩:=pO g2 hF hr;exact⟨u,q1,_,_,hq,ρ',g1,g2,q2⟩
   cases hk
  cases hk
 cases ex<;>cases x<;>first|exact hx.elim|skip
 ·cases hp;exact go .returning trivial
 ·cases hp
 ·cases hp;exact go .returning trivial
 cases hp;obtain⟨v',h1,rfl⟩:=hx;exact go (.panicking _) ⟨v',h1,rfl⟩
abbrev RT:=Ren->Ren->Prop
def ow(T:RT):Prop:=∀ρ ρ',T ρ ρ'->∀b o,ρ.fz b=some o->ρ'.fz b=some o
def TV(T:RT)(v v':Value):Prop:=∀ρ ρ' x,T ρ ρ'->VR ρ v x->VR ρ' v' x
def iP(T:RT)(l l':List Value):Prop:=∀ρ ρ' x,T ρ ρ'->cd ρ l x->cd ρ' l' x
def TO(P:Program)(T:RT)(o o':bb):Prop:=∀ρ ρ' i ob,T ρ ρ'->OR P ρ i o ob->OR P ρ' i o' ob
def dG(v:Value):Prop:=∀T,ow T->TV T v v
def dt(l:List Value):Prop:=∀T,ow T->iP T l l
section
variable {T:RT} {P:Program}
theorem ar(n:Nat){v:Value}(h:cb n v=true):TV T v v:=fun ρ ρ' x _ hv=>by
 rw[hv.of_flat n h];exact .flat n v h
theorem aX:iP T [] []:=fun ρ ρ' x _ h=>by cases h;exact .nil
theorem ax{v v':Value}{l l':List Value}(h:TV T v v')(hs:iP T l l'):iP T (v::l) (v'::l'):=fun ρ ρ' x ht hv=>by
 cases hv with
 |cons _ u _ us a b=>exact .cons _ _ _ _ (h _ _ _ ht a) (hs _ _ _ ht b)
theorem cd.split{ρ:Ren}:∀{a b x:List Value},cd ρ (a++b) x->∃y z,x=y++z/\cd ρ a y/\cd ρ b z
 |[],b,x,h=>⟨[],x,rfl,.nil,h⟩
 |v::a,b,x,h=>by
  cases h with
  |cons _ u _ us q r=>
   obtain⟨y,z,rfl,h1,h2⟩:=cd.split r;exact⟨u::y,z,rfl,.cons _ _ _ _ q h1,h2⟩
theorem GV{a a' b b':List Value}(h:iP T a a')(hs:iP T b b'):iP T (a++b) (a'++b'):=fun ρ ρ' x ht hv=>by
 obtain⟨y,z,rfl,h1,h2⟩:=hv.split;exact(h _ _ _ ht h1).append (hs _ _ _ ht h2)
theorem Ex{l l':List Value}(h:iP T l l'){ρ ρ':Ren}{x:List Value}(ht:T ρ ρ')(hx:cd ρ l x):l'.length=l.length:=by
 rw[<-hx.length,(h _ _ _ ht hx).length]
theorem Tr{cs cs':List Value}(h:iP T cs cs'):TV T (.agg cs.toArray) (.agg cs'.toArray):=fun ρ ρ' x ht hv=>by
 obtain⟨us,rfl,hu⟩:=hv.aggInv;exact .agg _ _ (h _ _ _ ht (by simpa using hu))
theorem M4{cs cs':List Value}(h:iP T cs cs'):TV T (.tuple cs.toArray) (.tuple cs'.toArray):=fun ρ ρ' x ht hv=>by
 obtain⟨us,rfl,hu⟩:=hv.tupleInv;exact .tuple _ _ (h _ _ _ ht (by simpa using hu))
theorem lJ{f:FuncId}{xs xs' cs cs':List Value}(h:iP T xs xs')(h2:iP T cs cs'):TV T (.func (.func f) xs.toArray cs.toArray) (.func (.func f) xs'.toArray cs'.toArray):=fun ρ ρ' x ht hv=>by
 obtain⟨us,ws,rfl,h3,h4⟩:=hv.funcInv;exact .func _ _ _ _ _ (h _ _ _ ht (by simpa using h3)) (h2 _ _ _ ht (by simpa using h4))
theorem Wp(hT:ow T){cs cs':List Value}{n:Nat}(h:iP T cs cs'):TV T (FZ cs n) (FZ cs' n):=fun ρ ρ' x ht hv=>by
 obtain⟨_,_,⟨b,off,cap,c',e,fr,hB,hl,rfl,hr⟩|⟨h1,h2,a,cap,rfl⟩⟩:=VR.fzInv (cs:=cs.toArray) hv
 ·have hr:cd ρ cs ((c'.toList.drop off).take cs.length):=by simpa using hr
  have hn:=Ex h ht hr;exact .frz _ _ n b off cap c' e fr (hT _ _ ht _ _ hB) hl rfl (by rw[hn];exact h _ _ _ ht hr)
 have h1:cs=[]:=by simpa using h1
 subst h1;subst h2;have:=(h _ _ _ ht .nil);cases this;exact .frzE _ _
theorem Hi(hT:ow T){cs cs':List Value}(h:iP T cs cs'):TV T (FP cs) (FP cs'):=fun ρ ρ' x ht hv=>by
 obtain⟨_,_,b,off,c',e,fr,hB,rfl,hr⟩:=VR.fpInv (cs:=cs.toArray) hv;have hr:cd ρ cs ((c'.toList.drop off).take cs.length):=by simpa using hr
 have hn:=Ex h ht hr;exact .frp _ _ b off c' e fr (hT _ _ ht _ _ hB) rfl (by rw[hn];exact h _ _ _ ht hr)
theorem aG(n:Nat){v:Value}(h:cb n v=true):dG v:=fun _ _=>ar n h
theorem aQ:dt []:=fun _ _=>aX
theorem aw{v:Value}{l:List Value}(h:dG v)(hs:dt l):dt (v::l):=fun T hT=>ax (h T hT) (hs T hT)
theorem C6{a b:List Value}(h:dt a)(hs:dt b):dt (a++b):=fun T hT=>GV (h T hT) (hs T hT)
theorem JL{l:List Value}(h:∀v∈l,dG v):dt l:=by
 induction l with
 |nil=>exact aQ
 |cons v l ih=>exact aw (h v aaf) (ih fun u hu=>h u (aal _ hu))
theorem br{α:Type}{f:α->List Value}(h:∀x,dt (f x)):∀l:List α,dt (l.flatMap f)
 |[]=>aQ
 |x::l=>by rw[Z8];exact C6 (h x) (br h l)
theorem fK{cs:List Value}(h:dt cs):dG (.agg cs.toArray):=fun T hT=>Tr (h T hT)
theorem fp{cs:List Value}(h:dt cs):dG (.tuple cs.toArray):=fun T hT=>M4 (h T hT)
theorem Ft{cs:List Value}{n:Nat}(h:dt cs):dG (FZ cs n):=fun T hT=>Wp hT (h T hT)
theorem EF{cs:List Value}(h:dt cs):dG (FP cs):=fun T hT=>Hi hT (h T hT)
theorem MZ{c c':List Value}{e:TypeId}{fr:Nat×Nat}(hl:c'.length=c.length)(h:∀(j:Nat) (v':Value),c'[j]?=some v'->∃v,c[j]?=some v/\TV T v v'):TO P T (.cells c e fr) (.cells c' e fr):=fun ρ ρ' i ob ht ho=>by
 cases ho with
 |cells _ _ _ d fr' hz hr hk hll hv hf hq hm=>
  refine .cells _ _ _ _ _ hz (by rw[hl];exact hr) hk hll (fun j v' hj=>?_) hf hq hm;obtain⟨v,h1,h2⟩:=h j v' hj;obtain⟨u,q1,q2⟩:=hv j v h1;exact⟨u,q1,h2 _ _ _ ht q2⟩
inductive kZ(T:RT):List MapEntry->List MapEntry->Prop
 |nil:kZ T [] []
 |cons (e e':MapEntry) (l l':List MapEntry) (hk:TV T e.key e'.key) (hv:TV T e.val e'.val) (hb:e'.born=e.born) (hs:kZ T l l'):kZ T (e::l) (e'::l')
theorem kZ.out{ρ ρ':Ren}(ht:T ρ ρ'):∀{l l':List MapEntry} {x:List MapEntry},kZ T l l'->fx ρ l x->fx ρ' l' x
 |_,_,_,.nil,.nil=>.nil
 |_,_,_,.cons e e' l l' hk hv hb hs,.cons _ u _ us k1 k2 k3 k4=>.cons _ _ _ _ (hk _ _ _ ht k1) (hv _ _ _ ht k2) (by rw[k3,hb]) (hs.out ht k4)
theorem kZ.bare(hT:ow T):∀{l:List MapEntry},(∀e∈l,dG e.key/\dG e.val)->kZ T l l
 |[],_=>.nil
 |e::l,h=>.cons _ _ _ _ ((h e aaf).1 T hT) ((h e aaf).2 T hT) rfl (kZ.bare hT fun u hu=>h u (aal _ hu))
theorem jY{es es':List MapEntry}{c:Nat}(h:kZ T es es'):TO P T (.map es c) (.map es' c):=fun ρ ρ' i ob ht ho=>by
 cases ho with
 |map _ xs _ hx=>exact .map _ _ _ (h.out ht hx)
def GX(T:RT):cz->cz->Prop
 |.ret v,.ret v'=>TV T v v'
 |.pan v,.pan v'=>TV T v v'
 |_,_=>False
theorem GX.out{ρ ρ':Ren}(ht:T ρ ρ'){e e':cz}{en:Ending}(h:GX T e e')(k:Nf ρ e en):Nf ρ' e' en:=by
 cases e<;>cases e'<;>first|exact h.elim|skip
 ·cases en<;>first|exact k.elim|exact h _ _ _ ht k
 cases en<;>first|exact k.elim|skip
 obtain⟨v',k1,k2⟩:=k;exact⟨v',h _ _ _ ht k1,k2⟩
inductive uo(T:RT):List dz->List dz->Prop
 |nil:uo T [] []
 |call (f:FuncId) (a c a' c':List Value) (l l':List dz) (h1:iP T a a') (h2:iP T c c') (h:uo T l l'):uo T (.call f a c::l) (.call f a' c'::l')
theorem uo.out{ρ ρ':Ren}(ht:T ρ ρ'):∀{l l':List dz} {x:List Deferred},uo T l l'->iw ρ l x->iw ρ' l' x
 |_,_,_,.nil,.nil=>.nil
 |_,_,_,.call f a c a' c' l l' h1 h2 h,.call _ _ _ xs cs _ _ k1 k2 k3=>.call _ _ _ _ _ _ _ (h1 _ _ _ ht k1) (h2 _ _ _ ht k2) (h.out ht k3)
def cM(θ:Nat->Option Nat):RT:=fun ρ ρ'=>(∀b o,ρ.fz b=some o->ρ'.fz b=some o)/\∀n m i,θ n=some m->ρ n=some i->ρ' m=some i
theorem ah{θ:Nat->Option Nat}:ow (cM θ):=fun ρ ρ' h=>h.1
variable {θ:Nat->Option Nat}
theorem ay{n o m:Nat}(h:θ n=some m):TV (cM θ) (.pointer (some ⟨n,o,none⟩)) (.pointer (some ⟨m,o,none⟩)):=fun ρ ρ' x ht hv=>by
 obtain⟨i,hr,rfl⟩:=hv.ptrInv;exact .ptr _ _ _ (ht.2 _ _ _ h hr)
theorem cq{n m:Nat}(h:θ n=some m):TV (cM θ) (.map (some n)) (.map (some m)):=fun ρ ρ' x ht hv=>by
 obtain⟨i,hr,rfl⟩:=hv.mapInv;exact .map _ _ (ht.2 _ _ _ h hr)
theorem bI{n o m l c:Nat}(h:θ n=some m):TV (cM θ) (.slice (some ⟨n,o,none⟩) l c) (.slice (some ⟨m,o,none⟩) l c):=fun ρ ρ' x ht hv=>by
 cases hv with
 |flat k v h=>cases k<;>simp[cb]at h
 |slice _ _ _ _ i hr hc=>exact .slice _ _ _ _ i (ht.2 _ _ _ h hr) hc
 |sliceO _ _ _ _ c' i hr hc hl h1 h2=>exact .sliceO _ _ _ _ _ i (ht.2 _ _ _ h hr) hc hl h1 h2
 |sliceE _ _ _ a i hr hc h1=>exact .sliceE _ _ _ _ i (ht.2 _ _ _ h hr) hc h1
 |sliceZ _ _ a i hr=>exact .sliceZ _ _ _ i (ht.2 _ _ _ h hr)
end
section
variable {P:Program} {k:Nat} {s s':XS}
theorem j7(hf:∀t v,s'.fr.get t=some v->s.fr.get t=some v)(hw:∀n o,s'.W.get n=some o->s.W.get n=some o)(hn:s.W.next<=s'.W.next)(hd:s'.ds=s.ds):db P k s s':=fun N ρ0 W0 w0 e ex a w h0 h1 h2 hc=>by
 obtain⟨ρ,⟨g1,g2,g3,g4⟩,g5,g6⟩:=hc;refine⟨ρ,⟨⟨g1.le,g1.keeps,fun b hb=>g1.img b (gX.sub hw hb),fun n hn'=>(g1.dom n hn').imp id fun⟨q1,q2⟩=>⟨q1,aaY q2 hn⟩,Nat.le_trans g1.next hn,g1.fzn⟩,g2.sub hw,⟨g3.size,fun t v e=>g3.rep t v (hf t v e)⟩,by rw[hd];exact g4⟩,fun n hn'=>g5 n (Nat.le_trans hn hn'),g6⟩
theorem qR(θ inv:Nat->Option Nat)(hθ:∀n m,θ n=some m->(m<k/\n=m)\/(k<=m/\inv m=some n))(hi:∀m n,inv m=some n->m<s'.W.next)(hkn:k<=s'.W.next)
 (hf:∀t v',s'.fr.get t=some v'->∃v,s.fr.get t=some v/\TV (cM θ) v v') (hw:∀m o',s'.W.get m=some o'->∃n o,θ n=some m/\s.W.get n=some o/\TO P (cM θ) o o') (hd:uo (cM θ) s.ds s'.ds):db P k s s':=
 fun N ρ0 W0 w0 e ex a w h0 h1 h2 hc=>by
 obtain⟨ρ,⟨g1,g2,g3,g4⟩,g5,g6⟩:=hc;let ρ':Ren:=⟨fun m=>if m<k then ρ m else(inv m).bind ρ.nm,ρ.fz⟩
 have hlo:∀m,m<k->ρ' m=ρ m:=fun m h=>if_pos h
 have hhi:∀m,k<=m->ρ' m=(inv m).bind ρ.nm:=fun m h=>if_neg (by omega)
 have hat:∀n m,θ n=some m->ρ' m=ρ n:=fun n m h=>by
  rcases hθ n m h with⟨q1,rfl⟩|⟨q1,q2⟩
  ·exact hlo _ q1
  rw[hhi _ q1,q2];rfl
 have hT:cM θ ρ ρ':=⟨fun _ _ e=>e,fun n m i h hr=>by rw[hat n m h];exact hr⟩;have himg:∀b,gX ρ' s'.W.get b->gX ρ s.W.get b:=fun b ⟨m,i,q1,q2,q3⟩=>by
  cases e:s'.W.get m with
  |none=>exact absurd e q2
  |some o'=>
   obtain⟨n,o,r1,r2,_⟩:=hw m o' e;exact⟨n,i,by rw[<-hat n m r1];exact q1,by rw[r2];simp,q3⟩
 refine⟨ρ',⟨⟨⟨fun n i h=>?_,g1.le.fz⟩,g1.keeps,fun b hb=>g1.img b (himg b hb),fun m hm=>?_,by rw[h0];exact hkn,g1.fzn⟩,⟨fun m i o' q1 q2=>?_,fun m1 m2 i j q1 q2 q3 q4 q5=>?_,fun b o hb=>⟨(g2.frz b o hb).1,fun q=>(g2.frz b o hb).2 (himg b q)⟩⟩,⟨g3.size,fun t v' hv=>?_⟩,hd.out hT g4⟩,fun m hm=>?_,?_⟩
 ·have:n<k:=Nat.lt_of_not_le fun q=>by rw[h1 n q]at h;cases h
  rw[hlo n this];exact g1.le _ _ h
 ·rcases aaa m k with q|q
  ·rw[hlo m q]at hm;rcases g1.dom m hm with r|⟨r,_⟩
   ·exact .inl r
   rw[h0]at r;omega
  rw[hhi m q]at hm;cases e:inv m with
  |none=>rw[e]at hm;exact absurd rfl hm
  |some n=>exact .inr ⟨by rw[h0];exact q,hi m n e⟩
 ·obtain⟨n,o,r1,r2,r3⟩:=hw m o' q2;rw[hat n m r1]at q1;obtain⟨ob,p1,p2⟩:=g2.obj n i o q1 r2;exact⟨ob,p1,r3 _ _ _ _ hT p2⟩
 ·cases e1:s'.W.get m1 with
  |none=>exact absurd e1 q3
  |some o1=>
   cases e2:s'.W.get m2 with
   |none=>exact absurd e2 q4
   |some o2=>
    obtain⟨n1,p1,r1,r2,_⟩:=hw m1 o1 e1;obtain⟨n2,p2,t1,t2,_⟩:=hw m2 o2 e2;rw[hat n1 m1 r1]at q1;rw[hat n2 m2 t1]at q2;have:=g2.inj n1 n2 i j q1 q2 (by rw[r2];simp) (by rw[t2];simp) q5;subst this;rw[r1]at t1;exact Option.some.inj t1
 ·obtain⟨v,r1,r2⟩:=hf t v' hv;exact r2 _ _ _ hT (g3.rep t v r1)
 ·rw[hhi m (by omega)];cases e:inv m with
  |none=>rfl
  |some n=>have:=hi m n e;omega
 cases e<;>cases ex<;>first|exact g6|exact absurd rfl (h2 _)
def fl(n:Nat)(c:List Value):RT:=fun ρ ρ'=>(∀b o,ρ.fz b=some o->ρ'.fz b=some o)/\(∀m i,ρ m=some i->ρ' m=some i)/\∀i,ρ n=some i->∃c' e fr,ρ'.fz i.b=some (.cells c' e fr)/\vA ρ' i.s c c'
theorem bP{n:Nat}{c:List Value}{v:Value}:TV (fl n c) v v:=fun ρ ρ' x ht hv=>hv.mono ⟨ht.2.1,ht.1⟩
theorem vA.vrs{ρ:Ren}{s:Nat}{c:List Value}{c':Array Value}(h:vA ρ s c c')(o q:Nat):cd ρ ((c.drop o).take q) ((c'.toList.drop (o+s)).take ((c.drop o).take q).length):=by
 obtain⟨us,h1,h2,h3⟩:=h.part o ((c.drop o).take q).length (by
  rw[ZR,ZV,ZR,ZV];omega)
 have e1:(c.drop o).take ((c.drop o).take q).length=(c.drop o).take q:=by
  rw[ZR];rcases Nat.le_total q (c.drop o).length with r|r
  ·rw[aai r]
  rw[Nat.min_eq_right r,List.take_length,List.take_of_length_le r]
 rw[e1]at h2;have e2:us=(c'.toList.drop (o+s)).take ((c.drop o).take q).length:=by
  refine aao fun j=>?_
  rcases aaa j us.length with r|r
  ·have:=h3 j us[j] (ZP r);rw[<-aar]at this;rw[aaj,if_pos (by omega),aas,aau o s,this];exact ZP r
  rw[aae r,aaj,if_neg (by omega)]
 rw[<-e2];exact h2
theorem gz{n o len cap q:Nat}{c:List Value}(hq:len<=cap)(hq0:len=0->q=0):TV (fl n c) (.slice (some ⟨n,o,none⟩) len cap) (FZ ((c.drop o).take q) len):=fun ρ ρ' x ht hv=>by
 obtain⟨i,hr,hcase⟩:=hv.sliceInv;obtain⟨c',e,fr,hB,hrow⟩:=ht.2.2 i hr;have main:∀cap',len<=cap'->VR ρ' (FZ ((c.drop o).take q) len) (.slice (some ⟨i.b,o+i.s,none⟩) len cap'):=fun cap' hl=>
  .frz _ _ _ _ _ _ c' e fr hB hl rfl (hrow.vrs o q)
 rcases hcase with⟨_,rfl⟩|⟨_,c2,rfl,h1,_⟩|⟨_,h1,h2,a,rfl⟩|⟨h0,h1,a,rfl⟩
 ·exact main _ hq
 ·exact main _ h1
 ·subst h1;rw[hq0 rfl,List.take_zero];exact .frzE _ _
 subst h1;rw[hq0 rfl,List.take_zero];exact .frzE _ _
theorem wF{n o q:Nat}{c:List Value}:TV (fl n c) (.pointer (some ⟨n,o,none⟩)) (FP ((c.drop o).take q)):=fun ρ ρ' x ht hv=>by
 obtain⟨i,hr,rfl⟩:=hv.ptrInv;obtain⟨c',e,fr,hB,hrow⟩:=ht.2.2 i hr;exact .frp _ _ _ _ c' e fr hB rfl (hrow.vrs o q)
theorem mS(n:Nat){c:List Value}{e:TypeId}{fr:Nat×Nat}(hg:s.W.get n=some (.cells c e fr))(hn:s'.W.get n=none)(hnx:s.W.next<=s'.W.next)
 (hf:∀t v',s'.fr.get t=some v'->∃v,s.fr.get t=some v/\TV (fl n c) v v') (hw:∀m o',s'.W.get m=some o'->∃o,s.W.get m=some o/\TO P (fl n c) o o') (hd:uo (fl n c) s.ds s'.ds):db P k s s':=
 fun N ρ0 W0 w0 ex0 ex a w h0 h1 h2 hc=>by
 obtain⟨ρ,⟨g1,g2,g3,g4⟩,g5,g6⟩:=hc;cases hr:ρ n with
 |none=>
  have hT:fl n c ρ ρ:=⟨fun _ _ e=>e,fun _ _ e=>e,fun i e=>by rw[hr]at e;cases e⟩;have himg:∀b,gX ρ s'.W.get b->gX ρ s.W.get b:=fun b ⟨m,i,q1,q2,q3⟩=>by
   cases e:s'.W.get m with
   |none=>exact absurd e q2
   |some o'=>
    obtain⟨o,r1,_⟩:=hw m o' e;exact⟨m,i,q1,by rw[r1];simp,q3⟩
  have hup:∀m,s'.W.get m≠none->s.W.get m≠none:=fun m q=>by
   cases e:s'.W.get m with
   |none=>exact absurd e q
   |some o'=>obtain⟨o,r1,_⟩:=hw m o' e;rw[r1];simp
  refine⟨ρ,⟨⟨g1.le,g1.keeps,fun b hb=>g1.img b (himg b hb),fun m hm=>(g1.dom m hm).imp id fun⟨q1,q2⟩=>⟨q1,by omega⟩,Nat.le_trans g1.next hnx,g1.fzn⟩,⟨fun m i o' q1 q2=>?_,fun m1 m2 i j q1 q2 q3 q4 q5=>g2.inj m1 m2 i j q1 q2 (hup _ q3) (hup _ q4) q5,fun b o hb=>⟨(g2.frz b o hb).1,fun q=>(g2.frz b o hb).2 (himg b q)⟩⟩,⟨g3.size,fun t v' hv=>?_⟩,hd.out hT g4⟩,fun m hm=>g5 m (by omega),?_⟩
  ·obtain⟨o,r1,r2⟩:=hw m o' q2;obtain⟨ob,p1,p2⟩:=g2.obj m i o q1 r1;exact⟨ob,p1,r2 _ _ _ _ hT p2⟩
  ·obtain⟨v,r1,r2⟩:=hf t v' hv;exact r2 _ _ _ hT (g3.rep t v r1)
  cases ex0<;>cases ex<;>first|exact g6|exact absurd rfl (h2 _)
 |some i0=>
  obtain⟨ob,hb,ho⟩:=g2.obj n i0 _ hr hg;cases ho with
  |cells _ _ _ d fr' hz hrr hk hll hv hfz hq hm=>
   let ρ':Ren:=⟨ρ.nm,fun b=>if b=i0.b then some (.cells d e fr')else ρ.fz b⟩
   have hnot:∀o,ρ.fz i0.b=some o->False:=fun o e=>(g2.frz _ _ e).2 ⟨n,i0,hr,by rw[hg];simp,rfl⟩
   have hle:∀b o,ρ.fz b=some o->ρ'.fz b=some o:=fun b o e=>by
    show(if b=i0.b then _ else ρ.fz b)=_;rw[if_neg (fun q=>by subst q;exact hnot _ e)];exact e
   have hmono:∀{v x:Value},VR ρ v x->VR ρ' v x:=fun h=>h.mono (ρ:=ρ) (ρ':=ρ') ⟨fun _ _ e=>e,hle⟩
   have hT:fl n c ρ ρ':=⟨hle,fun _ _ e=>e,fun i e2=>by
    rw[hr]at e2;cases e2;refine⟨d,e,fr',if_pos rfl,fun j v hj=>?_⟩;obtain⟨v',r1,r2⟩:=hv j v hj;exact⟨v',r1,hmono r2⟩⟩
   have hup:∀m,s'.W.get m≠none->s.W.get m≠none:=fun m q=>by
    cases e:s'.W.get m with
    |none=>exact absurd e q
    |some o'=>obtain⟨o,r1,_⟩:=hw m o' e;rw[r1];simp
   have himg:∀b,gX ρ' s'.W.get b->gX ρ s.W.get b:=fun b ⟨m,i,q1,q2,q3⟩=>⟨m,i,q1,hup m q2,q3⟩
   refine⟨ρ',⟨⟨⟨g1.le.nm,fun b o q=>hle _ _ (g1.le.fz _ _ q)⟩,g1.keeps,fun b hb=>g1.img b (himg b hb),fun m hm=>(g1.dom m hm).imp id fun⟨q1,q2⟩=>⟨q1,by omega⟩,Nat.le_trans g1.next hnx,fun b o q=>?_⟩,⟨fun m i o' q1 q2=>?_,fun m1 m2 i j q1 q2 q3 q4 q5=>g2.inj m1 m2 i j q1 q2 (hup _ q3) (hup _ q4) q5,fun b o q=>?_⟩,⟨g3.size,fun t v' hv=>?_⟩,hd.out hT g4⟩,fun m hm=>g5 m (by omega),?_⟩
   ·by_cases hb2:b=i0.b
    ·subst hb2;exact .inr (g1.img _ ⟨n,i0,hr,by rw[hg];simp,rfl⟩)
    have q:(if b=i0.b then _ else ρ.fz b)=some o:=q;rw[if_neg hb2]at q;exact g1.fzn b o q
   ·obtain⟨o,r1,r2⟩:=hw m o' q2;obtain⟨ob,p1,p2⟩:=g2.obj m i o q1 r1;exact⟨ob,p1,r2 _ _ _ _ hT p2⟩
   ·by_cases hb2:b=i0.b
    ·subst hb2;have q:(if i0.b=i0.b then _ else ρ.fz i0.b)=some o:=q;rw[if_pos rfl]at q;cases q;refine⟨hb,fun⟨m,i,q1,q2,q3⟩=>?_⟩;have:=g2.inj m n i i0 q1 hr (hup m q2) (by rw[hg];simp) q3;subst this;exact q2 hn
    have q:(if b=i0.b then _ else ρ.fz b)=some o:=q;rw[if_neg hb2]at q;exact⟨(g2.frz b o q).1,fun q2=>(g2.frz b o q).2 (himg b q2)⟩
   ·obtain⟨v,r1,r2⟩:=hf t v' hv;exact r2 _ _ _ hT (g3.rep t v r1)
   cases ex0<;>cases ex<;>first|exact g6|exact absurd rfl (h2 _)
end
def aN(P:Program)(f:FuncId)(args:List Value)(W:XW)(S:cz->XW->Prop):Prop:=
 ∀ρ args' w m,(∀n,W.next<=n->ρ n=none)->HR P ρ W.get w->cd ρ args args'->CallsIn Fence.wide m P f args'.toArray w fun en w'=>∃e W',S e W'/\QF P ρ W w e W' en w'
structure YL(P:Program)(ν:Nat->Nat)(k:Nat)(W:XW)(θ:Nat->Option Nat)(eL:cz)(WL:XW)(e:cz)(W':XW):Prop where
 name:∀m x,θ m=some x->(m<k/\x=ν m)\/(k<=m/\W.next<=x/\x<W'.next)
 inj:∀m m' x,θ m=some x->θ m'=some x->m=m'
 obj:∀x o',W'.get x=some o'->(∃m o,θ m=some x/\WL.get m=some o/\TO P (cM θ) o o')\/(W.get x=some o'/\x<W.next/\∀m,m<k->ν m≠x)
 res:GX (cM θ) eL e
 next:W.next<=W'.next
theorem mj{P:Program}{f:FuncId}{args argsL:List Value}{W W' WL:XW}{e:cz}{S:cz->XW->Prop}{k:Nat}(ν:Nat->Nat)(θc:Nat->Option Nat)(hk:WL.next=k)
 (hν:∀m m',m<k->m'<k->ν m=ν m'->m=m') (hlt:∀m,m<k->ν m<W.next) (hθ:∀n m,θc n=some m->m<k/\ν m=n)
 (hin:∀m oL,WL.get m=some oL->m<k/\∃o,W.get (ν m)=some o/\TO P (cM θc) o oL) (hargs:iP (cM θc) args argsL)
 (hcall:aN P f argsL WL S) (hout:∀eL WL',S eL WL'->∃θ,YL P ν k W θ eL WL' e W'):lH P f args W e W':=fun ρ args' w m hfr hH hA=>by
 let ρL:Ren:=⟨fun m=>if m<k then ρ (ν m)else none,ρ.fz⟩
 have hlo:∀m,m<k->ρL m=ρ (ν m):=fun m h=>if_pos h
 have hhi:∀m,k<=m->ρL m=none:=fun m h=>if_neg (by omega)
 have hT:cM θc ρ ρL:=⟨fun _ _ e=>e,fun n m i h hr=>by
  obtain⟨q1,q2⟩:=hθ n m h;rw[hlo m q1,q2];exact hr⟩
 have himgL:∀b,gX ρL WL.get b->gX ρ W.get b:=fun b ⟨m,i,q1,q2,q3⟩=>by
  cases e:WL.get m with
  |none=>exact absurd e q2
  |some oL=>
   obtain⟨r1,o,r2,_⟩:=hin m oL e;exact⟨ν m,i,by rw[<-hlo m r1];exact q1,by rw[r2];simp,q3⟩
 have hHL:HR P ρL WL.get w:=⟨fun m i oL q1 q2=>by
  obtain⟨r1,o,r2,r3⟩:=hin m oL q2;rw[hlo m r1]at q1;obtain⟨ob,p1,p2⟩:=hH.obj _ i o q1 r2;exact⟨ob,p1,r3 _ _ _ _ hT p2⟩,fun m1 m2 i j q1 q2 q3 q4 q5=>by
  cases e1:WL.get m1 with
  |none=>exact absurd e1 q3
  |some o1=>
   cases e2:WL.get m2 with
   |none=>exact absurd e2 q4
   |some o2=>
    obtain⟨r1,p1,r2,_⟩:=hin m1 o1 e1;obtain⟨t1,p2,t2,_⟩:=hin m2 o2 e2;rw[hlo m1 r1]at q1;rw[hlo m2 t1]at q2;exact hν _ _ r1 t1 (hH.inj _ _ i j q1 q2 (by rw[r2];simp) (by rw[t2];simp) q5),fun b o q=>⟨(hH.frz b o q).1,fun q2=>(hH.frz b o q).2 (himgL b q2)⟩⟩
 refine CallsIn.mono (hcall ρL args' w m (fun n hn=>hhi n (by omega)) hHL (hargs _ _ _ hT hA)) fun en w' ⟨eL,WL',hS,ρL',g1,g2,g3⟩=>?_
 obtain⟨θ,hs⟩:=hout eL WL' hS;let inv:Nat->Option Nat:=fun x=>open Classical in if h:∃m,θ m=some x then some h.choose else none
 have hinv:∀m x,θ m=some x->inv x=some m:=fun m x h=>by
  have hex:∃m,θ m=some x:=⟨m,h⟩;show(open Classical in if h:∃m,θ m=some x then some h.choose else none)=some m;rw[dif_pos hex];exact congrArg some (hs.inj _ _ _ hex.choose_spec h)
 let ρ':Ren:=⟨fun x=>if W.next<=x/\x<W'.next then(inv x).bind ρL'.nm else ρ x,ρL'.fz⟩
 have hold:∀x,x<W.next->ρ' x=ρ x:=fun x h=>if_neg (by omega)
 have hnew:∀x,W.next<=x->x<W'.next->ρ' x=(inv x).bind ρL'.nm:=fun x h1 h2=>if_pos ⟨h1,h2⟩
 have hat:∀m x i,θ m=some x->ρL' m=some i->ρ' x=some i\/(m<k/\ρ x=none/\ρL m=none):=fun m x i h hr=>by
  rcases hs.name m x h with⟨q1,rfl⟩|⟨q1,q2,q3⟩
  ·cases hx:ρ (ν m)with
   |none=>exact .inr ⟨q1,rfl,by rw[hlo m q1];exact hx⟩
   |some j=>
    have:=g1.le m j (by rw[hlo m q1];exact hx);rw[hr]at this;cases this;left;rw[hold _ (hlt m q1)];exact hx
  left;rw[hnew x q2 q3,hinv m x h];exact hr
 have hat':∀m x i,θ m=some x->ρL' m=some i->ρ' x=some i:=fun m x i h hr=>by
  rcases hat m x i h hr with q|⟨q1,q2,q3⟩
  ·exact q
  exfalso;rcases g1.dom m (by rw[hr];simp)with r|⟨r,_⟩
  ·exact r q3
  omega
 have hT':cM θ ρL' ρ':=⟨fun _ _ e=>e,fun n m i h hr=>hat' n m i h hr⟩;have back:∀x i,ρ' x=some i->W'.get x≠none->(∃m o o',θ m=some x/\ρL' m=some i/\WL'.get m=some o/\W'.get x=some o'/\TO P (cM θ) o o')\/(ρ x=some i/\W.get x=W'.get x/\x<W.next/\∀m,m<k->ν m≠x):=fun x i q1 q2=>by
  cases e:W'.get x with
  |none=>exact absurd e q2
  |some o'=>
   rcases hs.obj x o' e with⟨m,o,r1,r2,r3⟩|⟨r1,r2,r3⟩
   ·left;refine⟨m,o,o',r1,?_,r2,rfl,r3⟩;rcases hs.name m x r1 with⟨p1,rfl⟩|⟨p1,p2,p3⟩
    ·rw[hold _ (hlt m p1)]at q1;exact g1.le m i (by rw[hlo m p1];exact q1)
    rw[hnew x p2 p3,hinv m x r1]at q1;exact q1
   exact .inr ⟨by rw[<-hold x r2];exact q1,r1,r2,r3⟩
 have apart:∀x i,ρ x=some i->W.get x≠none->(∀m,m<k->ν m≠x)->¬gX ρL WL.get i.b:=fun x i q1 q2 q3 ⟨m,j,r1,r2,r3⟩=>by
  cases e:WL.get m with
  |none=>exact absurd e r2
  |some oL=>
   obtain⟨t1,o,t2,_⟩:=hin m oL e;rw[hlo m t1]at r1;exact q3 m t1 (hH.inj _ _ j i r1 q1 (by rw[t2];simp) q2 r3)
 have apart':∀x i,ρ x=some i->W.get x≠none->(∀m,m<k->ν m≠x)->¬gX ρL' WL'.get i.b:=fun x i q1 q2 q3 q=>by
  rcases g1.img _ q with r|r
  ·exact apart x i q1 q2 q3 r
  have:=hH.live q1 q2;omega
 have himg:∀b,gX ρ' W'.get b->gX ρL' WL'.get b\/gX ρ W.get b:=fun b ⟨x,i,q1,q2,q3⟩=>by
  rcases back x i q1 q2 with⟨m,o,o',r1,r2,r3,_,_⟩|⟨r1,r2,_,_⟩
  ·exact .inl ⟨m,i,r2,by rw[r3];simp,q3⟩
  exact .inr ⟨x,i,r1,by rw[r2];exact q2,q3⟩
 refine⟨ρ',⟨⟨fun x i q=>?_,g1.le.fz⟩,g1.keeps.mono fun b _ hb=>himgL b hb,fun b hb=>?_,fun x hx=>?_,hs.next,fun b o q=>?_⟩,⟨fun x i o' q1 q2=>?_,fun x y i j q1 q2 q3 q4 q5=>?_,fun b o q=>⟨(g2.frz b o q).1,fun q2=>?_⟩⟩,hs.res.out hT' g3⟩
 ·show(if W.next<=x/\x<W'.next then _ else ρ x)=some i;by_cases hx:W.next<=x/\x<W'.next
  ·rw[hfr x hx.1 hx.2]at q;cases q
  rw[if_neg hx];exact q
 ·rcases himg b hb with q|q
  ·rcases g1.img b q with r|r
   ·exact .inl (himgL b r)
   exact .inr r
  exact .inl q
 ·by_cases hq:W.next<=x/\x<W'.next
  ·exact .inr hq
  have hx:(if W.next<=x/\x<W'.next then _ else ρ x)≠none:=hx;rw[if_neg hq]at hx;exact .inl hx
 ·exact(g1.fzn b o q).imp id (Or.imp (himgL b) id)
 ·rcases back x i q1 (by rw[q2];simp)with⟨m,o,o2,r1,r2,r3,r4,r5⟩|⟨r1,r2,r3,r4⟩
  ·rw[q2]at r4;cases r4;obtain⟨ob,p1,p2⟩:=g2.obj m i o r2 r3;exact⟨ob,p1,r5 _ _ _ _ hT' p2⟩
  rw[q2]at r2;obtain⟨ob,p1,p2⟩:=hH.obj x i o' r1 r2;refine⟨ob,g1.keeps.heap p1 (apart x i r1 (by rw[r2];simp) r4),?_⟩;have hle:ρ.le ρ':=⟨fun x i q=>by
   show(if W.next<=x/\x<W'.next then _ else ρ x)=some i;by_cases hx:W.next<=x/\x<W'.next
   ·rw[hfr x hx.1 hx.2]at q;cases q
   rw[if_neg hx];exact q,fun b o q=>g1.le.fz b o q⟩
  exact p2.mono hle
 ·rcases back x i q1 q3 with⟨m,o,o2,r1,r2,r3,r4,_⟩|⟨r1,r2,r3,r4⟩
  ·rcases back y j q2 q4 with⟨m',p,p2,t1,t2,t3,t4,_⟩|⟨t1,t2,t3,t4⟩
   ·have:=g2.inj m m' i j r2 t2 (by rw[r3];simp) (by rw[t3];simp) q5;subst this;rw[r1]at t1;exact Option.some.inj t1
   exact absurd ⟨m,i,r2,by rw[r3];simp,q5⟩ (apart' y j t1 (by rw[t2];exact q4) t4)
  rcases back y j q2 q4 with⟨m',p,p2,t1,t2,t3,t4,_⟩|⟨t1,t2,t3,t4⟩
  ·exact absurd ⟨m',j,t2,by rw[t3];simp,q5.symm⟩ (apart' x i r1 (by rw[r2];exact q3) r4)
  exact hH.inj x y i j r1 t1 (by rw[r2];exact q3) (by rw[t2];exact q4) q5
 obtain⟨x,i,p1,p2,p3⟩:=q2;rcases back x i p1 p2 with⟨m,o1,o2,r1,r2,r3,_,_⟩|⟨r1,r2,r3,r4⟩
 ·exact(g2.frz b o q).2 ⟨m,i,r2,by rw[r3];simp,p3⟩
 rcases g1.fzn b o q with t|t|t
 ·exact(hH.frz b o t).2 ⟨x,i,r1,by rw[r2];exact p2,p3⟩
 ·exact apart x i r1 (by rw[r2];exact p2) r4 (by rw[p3];exact t)
 have:=hH.live r1 (by rw[r2];exact p2);omega
def pm{α:Type}(t:PT α):List (Nat×Option α)->PT α
 |[]=>t
 |(n,x)::l=>(pm t l).set n x
def lk{α:Type}:List (Nat×Option α)->Nat->Option α
 |[],_=>none
 |(n,x)::l,m=>if n=m then x else lk l m
theorem tY{α:Type}:∀(k n:Nat),n+1<2^k->(PT.full k:PT α).room n=true
 |0,n,h=>by simp at h
 |k+1,n,h=>by
  have h2:2^(k+1)=2*2^k:=by rw[Nat.pow_succ];omega
  unfold PT.full PT.room;by_cases h0:n=0
  ·subst h0;rfl
  rw[gk h0,cond_false];by_cases h1:n%2=1
  ·rw[show Nat.beq (n%2) 1=true by rw[h1];rfl,cond_true];exact tY k _ (by omega)
  rw[gk h1,cond_false];exact tY k _ (by omega)
theorem Fo{α:Type}{t:PT α}{n:Nat}:∀l:List (Nat×Option α),(pm t l).room n=t.room n
 |[]=>rfl
 |(m,x)::l=>by rw[pm,PT.room_set,Fo l]
theorem BH{α:Type}{k n:Nat}(h:n+1<2^k):∀l:List (Nat×Option α),(pm (PT.full k) l).get n=lk l n
 |[]=>PT.get_full k n
 |(m,x)::l=>by
  unfold pm lk;by_cases e:m=n
  ·subst e;rw[if_pos rfl,PT.get_set_room,Fo,tY k m h,if_pos rfl]
  rw[if_neg e,PT.get_set_ne _ _ _ _ (fun q=>e q.symm)];exact BH h l
def aI(F:List (Nat×Option Value)):XF:=pm (PT.full 9) F
def wd(L:List (Nat×Option bb))(n:Nat)(lg:List Nat)(nl:Nat):XW:=⟨pm (PT.full 14) L,n,lg,nl⟩
theorem iZ{F:List (Nat×Option Value)}{t:Nat}(h:t<511):(aI F).get t=lk F t:=BH (by omega) F
theorem bO{L:List (Nat×Option bb)}{n nl m:Nat}{lg:List Nat}(h:m<n)(h2:m<16383):(wd L n lg nl).get m=lk L m:=by
 rw[XW.get_lt (show m<(wd L n lg nl).next from h)];exact BH (by omega) L
theorem di{L:List (Nat×Option bb)}{n nl m:Nat}{lg:List Nat}{o:Option bb}:(wd L n lg nl).put m o=wd ((m,o)::L) n (m::lg) (nl+1):=rfl
theorem gR{L:List (Nat×Option bb)}{n nl:Nat}{lg:List Nat}{o:bb}:(wd L n lg nl).push o=wd ((n,some o)::L) (n+1) lg nl:=rfl
theorem bf{L:List (Nat×Option bb)}{n nl:Nat}{lg:List Nat}:(wd L n lg nl).next=n:=rfl
theorem ab{α:Type}{n:Nat}{x:Option α}{l:List (Nat×Option α)}:lk ((n,x)::l) n=x:=if_pos rfl
theorem aa{α:Type}{n m:Nat}{x:Option α}{l:List (Nat×Option α)}(h:n≠m):lk ((n,x)::l) m=lk l m:=if_neg h
theorem ag{α:Type}{m:Nat}:lk ([]:List (Nat×Option α)) m=none:=rfl
def aY:Nat->List Value->List (Nat×Option Value)->List (Nat×Option Value)
 |_,[],F=>F
 |n,v::l,F=>aY (n+1) l ((n,some v)::F)
theorem xa:∀(l:List Value) (n:Nat) (F:List (Nat×Option Value)),wN (aI F) n l=aI (aY n l F)
 |[],n,F=>rfl
 |v::l,n,F=>xa l (n+1) ((n,some v)::F)
theorem Lv(l:List Value):yg l=aI (aY 0 l []):=xa l 0 []
theorem SS{F:List (Nat×Option Value)}{t:Nat}(h:t<511):ev (aI F) (.tmp t)=lk F t:=iZ h
theorem dQ{N:Nat}{F:List (Nat×Option Value)}{t:Nat}{v:Option Value}(h:t<N):d8 N (aI F) (some t) v=some (aI ((t,v)::F)):=by
 show(bif Nat.blt t N then some ((aI F).set t v)else none)=_;rw[jQ h];rfl
theorem Kz{N:Nat}{fr:XF}{v:Option Value}:d8 N fr none v=some fr:=rfl
section
variable {P:Program} {t:TypeId} {x y:Operand} {k:IntKind} {a b:Int}
theorem Qt:eJ P .add t x y (some (.int k a)) (some (.int k b))=some (.val (some (.int k (k.wrap (a+b))))):=by cases k<;>rfl
theorem OB:eJ P .sub t x y (some (.int k a)) (some (.int k b))=some (.val (some (.int k (k.wrap (a-b))))):=by cases k<;>rfl
theorem QW:eJ P .mul t x y (some (.int k a)) (some (.int k b))=some (.val (some (.int k (k.wrap (a*b))))):=by cases k<;>rfl
theorem QT:eJ P .lss t x y (some (.int k a)) (some (.int k b))=some (.val (some (.bool (decide (a<b))))):=by cases k<;>rfl
theorem PR:eJ P .leq t x y (some (.int k a)) (some (.int k b))=some (.val (some (.bool (decide (a<=b))))):=by cases k<;>rfl
theorem P1:eJ P .gtr t x y (some (.int k a)) (some (.int k b))=some (.val (some (.bool (decide (b<a))))):=by cases k<;>rfl
theorem Pm:eJ P .geq t x y (some (.int k a)) (some (.int k b))=some (.val (some (.bool (decide (b<=a))))):=by cases k<;>rfl
theorem O7:eJ P .eql t x y (some (.int k a)) (some (.int k b))=some (.val (some (.bool (a==b)))):=by cases k<;>rfl
theorem Qy:eJ P .neq t x y (some (.int k a)) (some (.int k b))=some (.val (some (.bool (a !=b)))):=by cases k<;>rfl
def mU(op:BinOp)(k:IntKind)(a b:Int):Int:=match op with
 |.and=>k.wrap (BitVec.ofInt k.bits a &&& BitVec.ofInt k.bits b).toNat
 |.or=>k.wrap (BitVec.ofInt k.bits a ||| BitVec.ofInt k.bits b).toNat
 |_=>k.wrap (BitVec.ofInt k.bits a ^^^ BitVec.ofInt k.bits b).toNat
theorem QH:eJ P .and t x y (some (.int k a)) (some (.int k b))=some (.val (some (.int k (mU .and k a b)))):=by cases k<;>rfl
theorem SY:eJ P .or t x y (some (.int k a)) (some (.int k b))=some (.val (some (.int k (mU .or k a b)))):=by cases k<;>rfl
theorem QC:eJ P .xor t x y (some (.int k a)) (some (.int k b))=some (.val (some (.int k (mU .xor k a b)))):=by cases k<;>rfl
theorem pD{op:BinOp}{u v:Value}(hu:dw u=true)(hv:dw v=true):eJ P op t x y (some u) (some v)=l8 (bQ P (qf op t x y u v)):=by
 unfold eJ;simp only[hu,hv,Bool.and_true,cond_true]
theorem Pz(hb:b≠0):eJ P .rem t x y (some (.int k a)) (some (.int k b))=some (.val (some (.int k (a.tmod b)))):=by
 have:bQ P (qf .rem t x y (.int k a) (.int k b))=bQ P (Op.intDiv .rem k a b):=by cases k<;>rfl
 rw[pD rfl rfl,this];unfold Op.intDiv;rw[if_neg hb];rfl
theorem PJ(hb:b≠0):eJ P .quo t x y (some (.int k a)) (some (.int k b))=some (.val (some (.int k (k.wrap (a.tdiv b))))):=by
 have:bQ P (qf .quo t x y (.int k a) (.int k b))=bQ P (Op.intDiv .quo k a b):=by cases k<;>rfl
 rw[pD rfl rfl,this];unfold Op.intDiv;rw[if_neg hb];rfl
theorem Pr{k':IntKind}(hb:0<=b):eJ P .shl t x y (some (.int k a)) (some (.int k' b))=some (.val (some (.int k (k.wrap (a*2^(min b.toNat k.bits)))))):=by
 have:bQ P (qf .shl t x y (.int k a) (.int k' b))=bQ P (Op.shift .shl k a k' b):=by cases k<;>cases k'<;>rfl
 rw[pD rfl rfl,this];unfold Op.shift;rw[if_neg (by omega)];rfl
theorem Ps{k':IntKind}(hb:0<=b):eJ P .shr t x y (some (.int k a)) (some (.int k' b))=some (.val (some (.int k (a.fdiv (2^(min b.toNat k.bits)))))):=by
 have:bQ P (qf .shr t x y (.int k a) (.int k' b))=bQ P (Op.shift .shr k a k' b):=by cases k<;>cases k'<;>rfl
 rw[pD rfl rfl,this];unfold Op.shift;rw[if_neg (by omega)];rfl
theorem SG{b:Bool}:Aj P .not (some (.bool b))=some (.val (some (.bool (!b)))):=rfl
theorem R8:Aj P .neg (some (.int k a))=some (.val (some (.int k (k.wrap (0-a))))):=rfl
theorem RO:Aj P .xor (some (.int k a))=some (.val (some (.int k (mU .xor k (if k.signed then -1 else k.max) a)))):=by cases k<;>rfl
theorem xD(l m:List UInt8):((str l).toList==(str m).toList)=decide (l=m):=by
 rw[xM,xM];by_cases h:l=m
 ·subst h;simp
 simp[h]
theorem PG{l m:List UInt8}:eJ P .eql t x y (some (.string (str l))) (some (.string (str m)))=some (.val (some (.bool (decide (l=m))))):=by
 rw[<-xD];rfl
theorem P7{l m:List UInt8}:eJ P .neq t x y (some (.string (str l))) (some (.string (str m)))=some (.val (some (.bool (!decide (l=m))))):=by
 rw[<-xD];rfl
theorem kG(l m:List UInt8):str l++str m=str (l++m):=by
 apply ByteArray.ext;simp[str]
theorem gm{u:TypeId}{d:TypeDesc}(h:P.underlying u=some d):bQ P (Go.underlying u)=some d:=by
 show bQ P (match P.underlying u with|some d=>pure d|none=>stuck "no such type")=_;rw[h];rfl
theorem mJ{s d:TypeId}{k1 k':IntKind}{W:XW}(hs:P.underlying s=some (.int k1))(hd:P.underlying d=some (.int k)):jT P W s d (some (.int k' a)) (some (.int k1)) (some (.int k))=some (.val (some (.int k (k.wrap a)))):=by
 have:bQ P (Go.convert s d (.int k' a))=some (.int k (k.wrap a)):=by unfold Go.convert;show bQ P (Sem.bind _ _)=_;rw[kI,gm hs,Option.bind_some];show bQ P (Sem.bind _ _)=_;rw[kI,gm hd,Option.bind_some];rfl
 show rY P s d (some (.int k' a))=_;unfold rY;simp only[show dw (Value.int k' a)=true from rfl,cond_true,this];rfl
theorem wrap_i64{n:Int}(h1:-9223372036854775808<=n)(h2:n<9223372036854775808):IntKind.i64.wrap n=n:=by rw[IntKind.wrap_i64];omega
theorem wrap_u64{n:Int}(h1:0<=n)(h2:n<18446744073709551616):IntKind.u64.wrap n=n:=by rw[IntKind.wrap_u64];omega
theorem wrap_u8{n:Int}(h1:0<=n)(h2:n<256):IntKind.u8.wrap n=n:=by rw[IntKind.wrap_u8];omega
end
theorem LV{k:IntKind}{n:Int}:cb 8 (.int k n)=true:=rfl
theorem Jz{b:Bool}:cb 8 (.bool b)=true:=rfl
theorem Nt{b:ByteArray}:cb 8 (.string b)=true:=rfl
theorem JR:cb 8 .nilIface=true:=rfl
theorem Hx:cb 8 .nilFunc=true:=rfl
theorem Il{l c:Nat}:cb 8 (.slice none l c)=true:=rfl
theorem JW:cb 8 (.pointer none)=true:=rfl
theorem IZ:cb 8 (.map none)=true:=rfl
theorem HQ{n:Nat}:goInt (n:Int)=.int .i64 (n:Int):=rfl
theorem Eb(l:List UInt8)(a b:Nat):(str l).extract a b=str ((l.take b).drop a):=by
 apply ByteArray.ext;rw[ByteArray.data_extract];show l.toArray.extract a b=((l.take b).drop a).toArray;rw[List.extract_toArray,List.extract_eq_take_drop,List.drop_take]
theorem wR{a b:Nat}(h:a<=b):Nat.ble a b=true:=Nat.ble_eq_true_of_le h
theorem Ob{a b:Nat}(h:b<a):Nat.ble a b=false:=by
 cases e:Nat.ble a b with
 |false=>rfl
 |true=>have:=Nat.le_of_ble_eq_true e;omega
theorem NU{a b:Nat}(h:a=b):Nat.beq a b=true:=by subst h;exact ZY a
theorem V6{p:Prop}[Decidable p](h:p):decide p=true:=decide_eq_true h
theorem V8{p:Prop}[Decidable p](h:¬p):decide p=false:=decide_eq_false h
theorem AL{a b:Int}(h:a=b):(a==b)=true:=by subst h;simp
theorem AR{a b:Int}(h:a≠b):(a==b)=false:=by simpa using h
theorem jK{a b:Int}(h:a≠b):(a !=b)=true:=by simpa using h
theorem li{a b:Int}(h:a=b):(a !=b)=false:=by subst h;simp
theorem Pn{k:IntKind}{n:Int}:bk (.int k n)=true:=rfl
theorem LS{b:Bool}:bk (.bool b)=true:=rfl
theorem zb{b:ByteArray}:bk (.string b)=true:=rfl
theorem Ot{a:Option Addr}:bk (.pointer a)=true:=rfl
theorem HW{a:Option Addr}{l c:Nat}:bk (.slice a l c)=true:=rfl
theorem Qc{r:Option Nat}:bk (.map r)=true:=rfl
theorem Le{f:Fn}{a c:Array Value}:bk (.func f a c)=true:=rfl
theorem Mb:bk .nilFunc=true:=rfl
theorem Kh{t:TypeId}{v:Value}:bk (.iface t v)=true:=rfl
theorem Ns:bk .nilIface=true:=rfl
theorem TB{cs:List Value}{n:Nat}:bk (FZ cs n)=true:=rfl
theorem Uu{cs:List Value}:bk (FP cs)=true:=rfl
theorem KJ:uI []=.tuple #[]:=rfl
theorem Jd{a b:Value}{l:List Value}:uI (a::b::l)=.tuple (a::b::l).toArray:=rfl
theorem wE{l:List UInt8}:(str l).data.toList=l:=rfl
theorem Xa{α:Type}{x:α}{l:List α}:(x::l).take 1=[x]:=rfl
theorem VH{α:Type}{x:α}{l:List α}:(x::l).drop 1=l:=rfl
theorem Vs{fr:XF}{k:IntKind}:ev fr (.const (.int k 0))=some (.int k ((0:Nat):Int)):=rfl
theorem Vf{fr:XF}{k:IntKind}:ev fr (.const (.int k 1))=some (.int k ((1:Nat):Int)):=rfl
theorem Vg{fr:XF}{k:IntKind}:ev fr (.const (.int k 2))=some (.int k ((2:Nat):Int)):=rfl
theorem Wi{fr:XF}{k:IntKind}:ev fr (.const (.int k 3))=some (.int k ((3:Nat):Int)):=rfl
theorem V9{fr:XF}{k:IntKind}:ev fr (.const (.int k 4))=some (.int k ((4:Nat):Int)):=rfl
theorem Wm{fr:XF}{k:IntKind}:ev fr (.const (.int k 5))=some (.int k ((5:Nat):Int)):=rfl
theorem Wv{fr:XF}{k:IntKind}:ev fr (.const (.int k 6))=some (.int k ((6:Nat):Int)):=rfl
theorem VM{fr:XF}{k:IntKind}:ev fr (.const (.int k 7))=some (.int k ((7:Nat):Int)):=rfl
theorem Wt{fr:XF}{k:IntKind}:ev fr (.const (.int k 8))=some (.int k ((8:Nat):Int)):=rfl
theorem WR{fr:XF}{k:IntKind}:ev fr (.const (.int k 9))=some (.int k ((9:Nat):Int)):=rfl
theorem SP{fr:XF}{k:IntKind}:ev fr (.const (.int k 10))=some (.int k ((10:Nat):Int)):=rfl
theorem UO{fr:XF}{k:IntKind}:ev fr (.const (.int k 11))=some (.int k ((11:Nat):Int)):=rfl
theorem Ug{fr:XF}{k:IntKind}:ev fr (.const (.int k 12))=some (.int k ((12:Nat):Int)):=rfl
theorem Sr{fr:XF}{k:IntKind}:ev fr (.const (.int k 13))=some (.int k ((13:Nat):Int)):=rfl
theorem Sn{fr:XF}{k:IntKind}:ev fr (.const (.int k 14))=some (.int k ((14:Nat):Int)):=rfl
theorem SC{fr:XF}{k:IntKind}:ev fr (.const (.int k 15))=some (.int k ((15:Nat):Int)):=rfl
theorem Td{fr:XF}{k:IntKind}:ev fr (.const (.int k 16))=some (.int k ((16:Nat):Int)):=rfl
theorem UR{fr:XF}{k:IntKind}:ev fr (.const (.int k 20))=some (.int k ((20:Nat):Int)):=rfl
theorem Sq{fr:XF}{k:IntKind}:ev fr (.const (.int k 26))=some (.int k ((26:Nat):Int)):=rfl
theorem Ut{fr:XF}{k:IntKind}:ev fr (.const (.int k 30))=some (.int k ((30:Nat):Int)):=rfl
theorem Ub{fr:XF}{k:IntKind}:ev fr (.const (.int k 31))=some (.int k ((31:Nat):Int)):=rfl
theorem Uq{fr:XF}{k:IntKind}:ev fr (.const (.int k 32))=some (.int k ((32:Nat):Int)):=rfl
theorem SI{fr:XF}{k:IntKind}:ev fr (.const (.int k 33))=some (.int k ((33:Nat):Int)):=rfl
theorem T5{fr:XF}{k:IntKind}:ev fr (.const (.int k 48))=some (.int k ((48:Nat):Int)):=rfl
theorem Tl{fr:XF}{k:IntKind}:ev fr (.const (.int k 63))=some (.int k ((63:Nat):Int)):=rfl
theorem TF{fr:XF}{k:IntKind}:ev fr (.const (.int k 64))=some (.int k ((64:Nat):Int)):=rfl
theorem SM{fr:XF}{k:IntKind}:ev fr (.const (.int k 65))=some (.int k ((65:Nat):Int)):=rfl
theorem S0{fr:XF}{k:IntKind}:ev fr (.const (.int k 97))=some (.int k ((97:Nat):Int)):=rfl
theorem Qm{fr:XF}{k:IntKind}:ev fr (.const (.int k 126))=some (.int k ((126:Nat):Int)):=rfl
theorem QG{fr:XF}{k:IntKind}:ev fr (.const (.int k 127))=some (.int k ((127:Nat):Int)):=rfl
theorem P3{fr:XF}{k:IntKind}:ev fr (.const (.int k 128))=some (.int k ((128:Nat):Int)):=rfl
theorem Q2{fr:XF}{k:IntKind}:ev fr (.const (.int k 129))=some (.int k ((129:Nat):Int)):=rfl
theorem Pu{fr:XF}{k:IntKind}:ev fr (.const (.int k 250))=some (.int k ((250:Nat):Int)):=rfl
theorem PC{fr:XF}{k:IntKind}:ev fr (.const (.int k 255))=some (.int k ((255:Nat):Int)):=rfl
theorem QA{fr:XF}{k:IntKind}:ev fr (.const (.int k 256))=some (.int k ((256:Nat):Int)):=rfl
theorem Pk{fr:XF}{k:IntKind}:ev fr (.const (.int k 300))=some (.int k ((300:Nat):Int)):=rfl
theorem OF{fr:XF}{k:IntKind}:ev fr (.const (.int k 500))=some (.int k ((500:Nat):Int)):=rfl
theorem Nv{fr:XF}{k:IntKind}:ev fr (.const (.int k 1000))=some (.int k ((1000:Nat):Int)):=rfl
theorem Ly{fr:XF}{k:IntKind}:ev fr (.const (.int k 4000))=some (.int k ((4000:Nat):Int)):=rfl
theorem I6{fr:XF}{k:IntKind}:ev fr (.const (.int k 65535))=some (.int k ((65535:Nat):Int)):=rfl
theorem QO{fr:XF}{k:IntKind}{n:Nat}:ev fr (.const (.int k (Int.negSucc n)))=some (.int k (Int.negSucc n)):=rfl
theorem LQ{fr:XF}{k:IntKind}{n:Int}:ev fr (.const (.int k (-n)))=some (.int k (-n)):=rfl
theorem Np{fr:XF}{b:Bool}:ev fr (.const (.bool b))=some (.bool b):=rfl
theorem Oy{fr:XF}{b:ByteArray}:ev fr (.const (.string b))=some (.string (str b.data.toList)):=by
 have:str b.data.toList=b:=by apply ByteArray.ext;show b.data.toList.toArray=b.data;simp
 rw[this];rfl
theorem MH{fr:XF}:ev fr (.const .nilIface)=some .nilIface:=rfl
theorem MN{fr:XF}:ev fr (.const .nilFunc)=some .nilFunc:=rfl
theorem Lo{fr:XF}:ev fr (.const (.pointer none))=some (.pointer none):=rfl
theorem LD{fr:XF}:ev fr (.const (.map none))=some (.map none):=rfl
theorem Na{fr:XF}{a b:Nat}:ev fr (.const (.slice none a b))=some (.slice none a b):=rfl
theorem Ur{fr:XF}{f:FuncId}:ev fr (.const (.func (.func f) #[] #[]))=some (.func (.func f) #[] #[]):=rfl
theorem Q3{P:Program}{l:List UInt8}{k:IntKind}{i:Nat}(h:i<l.length):vX P (some .string) (some (.string (str l))) (some (.int k (i:Int)))=some (.val (some (.int .u8 ((l[i]).toNat:Int)))):=by
 show wV (str l).data.toList[i]?=_;rw[wE,ZP h];rfl
theorem IQ(a b:Nat):(a:Int)+(b:Int)=((a+b:Nat):Int):=(Int.natCast_add a b).symm
theorem Jq(a b:Nat):(a:Int)*(b:Int)=((a*b:Nat):Int):=(Int.natCast_mul a b).symm
theorem Kg(n:Nat):(2:Int)^n=((2^n:Nat):Int):=by simp
theorem Gw(a b:Nat):(a:Int).tmod (b:Int)=((a%b:Nat):Int):=by rw[Int.tmod_eq_emod_of_nonneg (by omega)];rfl
theorem GF(a b:Nat):(a:Int).tdiv (b:Int)=((a/b:Nat):Int):=by rw[aa0 (by omega)];rfl
theorem G6(a b:Nat):(a:Int).fdiv (b:Int)=((a/b:Nat):Int):=by rw[Int.fdiv_eq_ediv_of_nonneg _ (by omega)];rfl
theorem DS(a:Nat):(a:Int).toNat=a:=aaF a
theorem Lz:IntKind.u64.bits=64:=rfl
theorem ML:IntKind.i64.bits=64:=rfl
theorem Q5:IntKind.u8.bits=8:=rfl
theorem Wg{a b:Nat}(h:a<=b):min a b=a:=aai h
theorem BE{e:TypeId}:mt (some (.slice e))=true:=rfl
theorem As:mt (some .string)=true:=rfl
theorem El:bm aM=true:=by decide
structure dv(P:Program)(H:dX):Prop where
 mixed:P.follows .mixedOrders=true
 sim:wv P H
section
variable {P:Program} {H:dX} {N k:Nat} {s s':XS} {e:ji} {Q:XQ}
theorem dv.simC(h:dv P H)(n:Nat):ku P (eP P H n):=(lv h.mixed h.sim (lF h.mixed) n).1
theorem ac(hB:dv P H){id:Nat}{ops:Array Oper}(h:lV P (eP P H 1) N none ops ops.toList s=some (.code e s'))(q:Q e s'):bA P N k (.region id ops false) s Q:=
 yc (hB.simC 2) (show eP P H 2 (.code N none (.region id ops false) s)=_ from h) q
theorem cP(hB:dv P H){id:Nat}{ops:Array Oper}{d:Code}(S:XS)(h:∃s',lV P (eP P H 1) N none ops ops.toList s=some (.code .norm s')/\db P k s' S)(q:bA P N k d S Q):bA P N k (.seq (.region id ops false) d) s Q:=by
 obtain⟨s',h1,h2⟩:=h;exact ae (ac hB h1 (aU h2 q))
theorem fX(hB:dv P H){id:Nat}{ops:Array Oper}{rs:List dI}(h:aE P (eP P H 1) N none ops ops.toList s=some (rs,s'))(hk:o7 P ops s.ds.length rs=true)(q:Q .norm s'):bA P N k (.region id ops true) s Q:=
 yc (hB.simC 2) (show AS P ops s.ds.length (aE P (eP P H 1) N none ops ops.toList s)=some (.code .norm s') by rw[h];show(bif o7 P ops s.ds.length rs then _ else none)=_;rw[hk];rfl) q
theorem aZ{c d:Code}{x:Operand}(hx:ev s.fr x=some (.bool true))(h:bA P N k c s Q):bA P N k (.cond x c d) s Q:=Cb hx h
theorem aO{c d:Code}{x:Operand}(hx:ev s.fr x=some (.bool false))(h:bA P N k d s Q):bA P N k (.cond x c d) s Q:=Cb (t:=false) hx h
theorem Yp{f:FuncId}{args:List Value}{W:XW}:eP P H 1 (.call f args W)=ry P H (eP P H 0) f args W (H.call f):=rfl
theorem OY{α:Type}{f:FuncId}{h:α}{l:List (FuncId×α)}:kY ((f,h)::l) f=some h:=by unfold kY;rw[ZY];rfl
theorem Mx{α:Type}{f g:FuncId}{h:α}{l:List (FuncId×α)}(hn:f≠g):kY ((g,h)::l) f=kY l f:=by rw[kY,gk hn];rfl
theorem dv.funk(hB:dv P H){f:FuncId}{args:List Value}{W W':XW}{e:cz}(n:Nat)(h:eP P H n (.call f args W)=some (.fin e W')):lH P f args W e W':=fun ρ args' w m hfr hH hA=>
 ((lv hB.mixed hB.sim (lF hB.mixed) n).2.1 f args W e W' h).2 ρ args' w m hfr hH hA
theorem be{f:FuncId}{fn:Func}{c:Code}{args:List Value}{W:XW}{Q:cz->XW->Prop}(hB:dv P H)(hf:P.funcs[f]?=some fn)(hc:fn.body=some c)(hN:args.length<=fn.ntmps)
 (h:bA P fn.ntmps W.next c ⟨aI (aY 0 args []),W,[]⟩ fun e s=>∃p e' W',sK e=some p/\qX P fn s.fr (fM H s.ds p s.W)=some (.fin e' W')/\Q e' W'):aN P f args W Q:=
 Xx hB.sim hf hc hN (by rw[Lv];exact h)
end
def fY(P:Program)(o:bb):Prop:=∀T,ow T->TO P T o o
def AU:cz->Prop
 |.ret v=>dG v
 |.pan v=>dG v
theorem AU.end{T:RT}(hT:ow T){e:cz}(h:AU e):GX T e e:=by
 cases e<;>exact h T hT
theorem bc{P:Program}{c:List Value}{e:TypeId}{fr:Nat×Nat}(h:dt c):fY P (.cells c e fr):=fun T hT ρ ρ' i ob ht ho=>by
 cases ho with
 |cells _ _ _ d fr' hz hr hk hll hv hf hq hm=>
  have hrow:vA ρ i.s c d:=hv;obtain⟨us,h1,h2,h3⟩:=hrow.part 0 c.length (by simp);rw[List.drop_zero,List.take_length]at h2;have h4:=h T hT _ _ _ ht h2;refine .cells _ _ _ _ _ hz hr hk hll (fun j v hj=>?_) hf hq hm;obtain⟨u,q1,q2⟩:=h4.get j v hj;exact⟨u,by have:=h3 j u q1;rwa [Nat.add_zero]at this,q2⟩
def only(n:Nat):Nat->Option Nat:=fun x=>if x=n then some 0 else none
theorem ip{n:Nat}:only n n=some 0:=if_pos rfl
section
variable {P:Program} {f:FuncId} {args argsL:List Value} {W W':XW} {e:cz} {S:cz->XW->Prop}
theorem zZ(hargs:dt args)(hcall:aN P f args (wd [] 0 [] 0) S)(hout:∀e' W',S e' W'->e'=e)(he:AU e):lH P f args W e W:=
 mj (k:=0) (fun _=>0) (fun _=>none) rfl (fun m _ h=>by omega) (fun m h=>by omega) (fun n m h=>by cases h) (fun m oL h=>by rw[XW.get_ge (Z3 _)]at h;cases h) (hargs _ ah) hcall
  fun eL WL' hS=>by
   refine⟨fun _=>none,fun m x h=>(by cases h),fun m m' x h h'=>(by cases h),fun x o' h=>.inr ⟨h,cw h,fun m hm=>by omega⟩,?_,Nat.le_refl _⟩;rw[hout _ _ hS];exact he.end ah
theorem Mv{n:Nat}{o o':bb}(hg:W.get n=some o)(ho:fY P o)(hargs:iP (cM (only n)) args argsL)(hcall:aN P f argsL (wd [(0,some o)] 1 [] 0) S)
 (hout:∀e' W',S e' W'->e'=e/\W'.get 0=some o') (ho':fY P o') (he:AU e):lH P f args W e (W.put n (some o')):=
 mj (k:=1) (fun _=>n) (only n) rfl (fun m m' h h' _=>by omega) (fun m h=>cw hg) (fun x m h=>by
  unfold only at h;split at h
  ·rename_i q;cases h;exact⟨by omega,q.symm⟩
  ·cases h) (fun m oL h=>by
  have hm:m<1:=cw h;have:m=0:=by omega
  subst this;rw[bO (by omega) (by omega),ab]at h;cases h;exact⟨by omega,o,hg,ho _ ah⟩) hargs hcall
  fun eL WL' hS=>by
   refine⟨fun m=>if m=0 then some n else none,fun m x h=>?_,fun m m' x h h'=>?_,fun x o2 h=>?_,?_,Nat.le_refl _⟩
   ·by_cases hm:m=0
    ·rw[if_pos hm]at h;cases h;exact .inl ⟨by omega,rfl⟩
    rw[if_neg hm]at h;cases h
   ·by_cases hm:m=0
    ·by_cases hm':m'=0
     ·omega
     rw[if_neg hm']at h';cases h'
    rw[if_neg hm]at h;cases h
   ·rcases XW.get_put h with⟨rfl,q⟩|⟨q1,q2⟩
    ·cases q;exact .inl ⟨0,o',if_pos rfl,(hout _ _ hS).2,ho' _ ah⟩
    exact .inr ⟨q2,cw q2,fun m hm=>fun q=>q1 q.symm⟩
   rw[(hout _ _ hS).1];exact he.end ah
end
def ai{α:Type}(b:Nat)(F:List (Nat×Option α)):List (Nat×Option α)->Prop
 |[]=>True
 |(t,some v)::F'=>(t<b/\lk F t=some v)/\ai b F F'
 |(t,none)::F'=>ai b F F'
theorem ai.mem{α:Type}{b:Nat}{F:List (Nat×Option α)}:∀{F':List (Nat×Option α)},ai b F F'->∀t v,(t,some v)∈F'->t<b/\lk F t=some v
 |[],_,t,v,h=>by cases h
 |(t',some v')::F',h,t,v,hp=>by
  rcases List.mem_cons.1 hp with e|hp
  ·cases e;exact h.1
  exact ai.mem h.2 t v hp
 |(t',none)::F',h,t,v,hp=>by
  rcases List.mem_cons.1 hp with e|hp
  ·cases e
  exact ai.mem (F':=F') h t v hp
theorem bX{α:Type}{n:Nat}{v:α}:∀{l:List (Nat×Option α)},lk l n=some v->(n,some v)∈l
 |[],h=>by cases h
 |(m,x)::l,h=>by
  by_cases e:m=n
  ·subst e;rw[ab]at h;subst h;exact aaf
  rw[aa e]at h;exact aal _ (bX h)
theorem yO{α:Type}{k n:Nat}{v:α}:∀{l:List (Nat×Option α)},(pm (PT.full k) l).get n=some v->lk l n=some v
 |[],h=>by rw[pm,PT.get_full]at h;cases h
 |(m,x)::l,h=>by
  rcases PT.set_some h with⟨rfl,q⟩|⟨q1,q2⟩
  ·rw[ab];exact q
  rw[aa (fun e=>q1 e.symm)];exact yO q2
theorem gS{F:List (Nat×Option Value)}{t:Nat}{v:Value}(h:(aI F).get t=some v):lk F t=some v:=yO h
theorem dV{L:List (Nat×Option bb)}{n nl m:Nat}{lg:List Nat}{o:bb}(h:(wd L n lg nl).get m=some o):m<n/\lk L m=some o:=by
 have hn:m<n:=cw h;rw[XW.get_lt (show m<(wd L n lg nl).next from hn)]at h;exact⟨hn,yO h⟩
theorem ak{P:Program}{k:Nat}{F F':List (Nat×Option Value)}{L L':List (Nat×Option bb)}{n n' nl nl':Nat}{lg lg':List Nat}{ds:List dz}(hF:ai 511 F F')(hL:ai (Nat.min n 16383) L L')(hn:n<=n') :
 db P k ⟨aI F,wd L n lg nl,ds⟩ ⟨aI F',wd L' n' lg' nl',ds⟩:=by
 refine j7 (fun t v h=>?_) (fun m o h=>?_) hn rfl
 ·obtain⟨h1,h2⟩:=hF.mem _ _ (bX (gS h));show(aI F).get t=some v;rw[iZ h1];exact h2
 obtain⟨h1,h2⟩:=hL.mem _ _ (bX (dV h).2);have h3:m<n:=aaY h1 (Nat.min_le_left _ _);have h4:m<16383:=aaY h1 (Nat.min_le_right _ _);show(wd L n lg nl).get m=some o;rw[bO h3 h4];exact h2
theorem zB(w n:Nat):BitVec.ofInt w (n:Int)=BitVec.ofNat w n:=by
 apply BitVec.eq_of_toNat_eq;rw[BitVec.toNat_ofInt,aaQ];omega
theorem Ir{a y i:Nat}(h:a<2^i):a ||| (y*2^i)=a+y*2^i:=by
 have:=Nat.shiftLeft_add_eq_or_of_lt h y;rw[Nat.shiftLeft_eq]at this;rw[Nat.or_comm,<-this,aau]
theorem Dy{e:TypeId}{l:List UInt8}:sG e (some (.string (str l))) (some (.int .u8)) (some 1)=y6 (.cells (aF l) e (1,1)) l.length aM:=by
 show y6 (.cells (aF (str l).data.toList) e (1,1)) (str l).size aM=_;rw[wE,fu]
theorem u6{l:List UInt8}:(aF l).all bk=true:=by
 rw[aa3];intro v hv;obtain⟨b,_,rfl⟩:=List.mem_map.1 hv;rfl
theorem dn(l:List UInt8):dt (aF l):=JL fun v hv=>by
 obtain⟨b,_,rfl⟩:=List.mem_map.1 hv;exact aG 1 rfl
def jO(T:RT)(F:List (Nat×Option Value)):List (Nat×Option Value)->Prop
 |[]=>True
 |(t,v')::F'=>(∀w,v'=some w->t<511/\∃v,lk F t=some v/\TV T v w)/\jO T F F'
theorem jO.mem{T:RT}{F:List (Nat×Option Value)}:∀{F':List (Nat×Option Value)},jO T F F'->∀t w,(t,some w)∈F'->t<511/\∃v,lk F t=some v/\TV T v w
 |[],_,t,w,h=>by cases h
 |(t',v')::F',h,t,w,hp=>by
  rcases List.mem_cons.1 hp with e|hp
  ·cases e;exact h.1 w rfl
  exact h.2.mem t w hp
def kx(P:Program)(T:RT)(R:List (Nat×Option Nat))(n:Nat)(L:List (Nat×Option bb)):List (Nat×Option bb)->Prop
 |[]=>True
 |(m,o')::L'=>(∀w,o'=some w->∃x o,lk R x=some m/\x<n/\x<16383/\lk L x=some o/\TO P T o w)/\kx P T R n L L'
theorem kx.mem{P:Program}{T:RT}{R:List (Nat×Option Nat)}{n:Nat}{L:List (Nat×Option bb)}:∀{L':List (Nat×Option bb)},kx P T R n L L'->∀m w,(m,some w)∈L'->∃x o,lk R x=some m/\x<n/\x<16383/\lk L x=some o/\TO P T o w
 |[],_,t,w,h=>by cases h
 |(t',v')::F',h,t,w,hp=>by
  rcases List.mem_cons.1 hp with e|hp
  ·cases e;exact h.1 w rfl
  exact h.2.mem t w hp
def rZ(k n':Nat)(Ri:List (Nat×Option Nat)):List (Nat×Option Nat)->Bool
 |[]=>true
 |(n,some m)::R=>((decide (m<k)&&decide (n=m))||(decide (k<=m)&&decide (lk Ri m=some n)))&&rZ k n' Ri R
 |(n,none)::R=>false
theorem rZ.mem{k n':Nat}{Ri:List (Nat×Option Nat)}:∀{R:List (Nat×Option Nat)},rZ k n' Ri R=true->∀n m,(n,some m)∈R->(m<k/\n=m)\/(k<=m/\lk Ri m=some n)
 |[],_,n,m,h=>by cases h
 |(n0,some m0)::R,h,n,m,hp=>by
  unfold rZ at h;simp only[ZX,aat,decide_eq_true_eq]at h;rcases List.mem_cons.1 hp with e|hp
  ·cases e;exact h.1
  exact rZ.mem h.2 n m hp
 |(n0,none)::R,h,n,m,hp=>by cases h
theorem aV{P:Program}{k:Nat}{F F':List (Nat×Option Value)}{L L':List (Nat×Option bb)}{n n' nl nl':Nat}{lg lg':List Nat}{ds ds':List dz}(R Ri:List (Nat×Option Nat))(hR:rZ k n' Ri R=true)(hRi:∀p∈Ri,p.1<n')(hk:k<=n')
 (hF:jO (cM (lk R)) F F') (hL:kx P (cM (lk R)) R n L L') (hd:uo (cM (lk R)) ds ds'):db P k ⟨aI F,wd L n lg nl,ds⟩ ⟨aI F',wd L' n' lg' nl',ds'⟩:=by
 refine qR (lk R) (lk Ri) (fun x m h=>rZ.mem hR x m (bX h)) (fun m x h=>hRi _ (bX h)) hk (fun t v' h=>?_) (fun m o' h=>?_) hd
 ·obtain⟨h1,v,h2,h3⟩:=hF.mem t v' (bX (gS h));exact⟨v,by show(aI F).get t=some v;rw[iZ h1];exact h2,h3⟩
 obtain⟨x,o,h1,h2,h3,h4,h5⟩:=hL.mem m o' (bX (dV h).2);exact⟨x,o,h1,by show(wd L n lg nl).get x=some o;rw[bO h2 h3];exact h4,h5⟩
theorem dH{P:Program}{k:Nat}{F F':List (Nat×Option Value)}{L:List (Nat×Option bb)}{n nl:Nat}{lg:List Nat}{ds ds':List dz}(x:Nat){c:List Value}{e:TypeId}{fr:Nat×Nat}(hx:lk L x=some (.cells c e fr))(hn:x<n)(hn2:n<16383)
 (hF:jO (fl x c) F F') (L':List (Nat×Option bb)) (hL:∀m o',lk ((x,none)::L') m=some o'->m<n->∃o,lk L m=some o/\TO P (fl x c) o o') (hd:uo (fl x c) ds ds') :
 db P k ⟨aI F,wd L n lg nl,ds⟩ ⟨aI F',wd ((x,none)::L') n lg nl,ds'⟩:=by
 refine mS x (c:=c) (e:=e) (fr:=fr) (by show(wd L n lg nl).get x=_;rw[bO hn (by omega)];exact hx) ?_ (Nat.le_refl _) (fun t v' h=>?_) (fun m o' h=>?_) hd
 ·show(wd ((x,none)::L') n lg nl).get x=none;rw[bO hn (by omega),ab]
 ·obtain⟨h1,v,h2,h3⟩:=hF.mem t v' (bX (gS h));exact⟨v,by show(aI F).get t=some v;rw[iZ h1];exact h2,h3⟩
 obtain⟨h1,h2⟩:=dV h;obtain⟨o,h3,h4⟩:=hL m o' h2 h1;exact⟨o,by show(wd L n lg nl).get m=some o;rw[bO h1 (by omega)];exact h3,h4⟩
theorem nX{P:Program}{k:Nat}{F:List (Nat×Option Value)}{L:List (Nat×Option bb)}{n nl:Nat}{lg:List Nat}(x m i:Nat){c d:List Value}{e e2:TypeId}{fr fr2:Nat×Nat}{len cap:Nat}{ds:List dz}(q:Nat)(hx:lk L x=some (.cells c e fr))(hm:lk L m=some (.cells d e2 fr2))
 (hi:d[i]?=some (.slice (some ⟨x,0,none⟩) len cap)) (hxm:x≠m) (hn:x<n) (hn2:n<16383) (hl:len<=cap) (hq:len=0->q=0) (hds:uo (fl x c) ds ds) :
 db P k ⟨aI F,wd L n lg nl,ds⟩ ⟨aI F,wd ((x,none)::(m,some (.cells (d.set i (FZ (c.take q) len)) e2 fr2))::L) n lg nl,ds⟩:=by
 have key:∀m' o',lk ((x,none)::(m,some (bb.cells (d.set i (FZ (c.take q) len)) e2 fr2))::L) m'=some o'->∃o,lk L m'=some o/\TO P (fl x c) o o':=fun m' o' h=>?_
 ·refine mS x (c:=c) (e:=e) (fr:=fr) (by show(wd L n lg nl).get x=_;rw[bO hn (by omega)];exact hx) ?_ (Nat.le_refl _) (fun t v' h=>⟨v',h,bP⟩) (fun m' o' h=>?_) hds
  ·show(wd ((x,none)::_) n lg nl).get x=none;rw[bO hn (by omega),ab]
  obtain⟨h1,h2⟩:=dV h;obtain⟨o,h3,h4⟩:=key m' o' h2;exact⟨o,by show(wd L n lg nl).get m'=some o;rw[bO h1 (by omega)];exact h3,h4⟩
 by_cases e1:x=m'
 ·subst e1;rw[ab]at h;cases h
 rw[aa e1]at h;by_cases e2:m=m'
 ·subst e2;rw[ab]at h;cases h;refine⟨_,hm,MZ (by simp) fun j v' hj=>?_⟩;by_cases hij:i=j
  ·subst hij;have hlt:i<d.length:=(List.getElem?_eq_some_iff.1 hi).1;rw[List.getElem?_set_self hlt]at hj;cases hj;refine⟨_,hi,?_⟩;have:=gz (n:=x) (o:=0) (c:=c) (q:=q) hl hq;rwa [List.drop_zero]at this
  rw[List.getElem?_set_ne hij]at hj;exact⟨v',hj,bP⟩
 rw[aa e2]at h;exact⟨o',h,fun ρ ρ' i ob ht ho=>ho.mono ⟨ht.2.1,ht.1⟩⟩
theorem Ab{P:Program}{k:Nat}{F:List (Nat×Option Value)}{L:List (Nat×Option bb)}{n nl:Nat}{lg:List Nat}(x m i:Nat){c d:List Value}{e e2:TypeId}{fr fr2:Nat×Nat}{len cap:Nat}(q:Nat)(hx:lk L x=some (.cells c e fr))(hm:lk L m=some (.cells d e2 fr2))
 (hi:d[i]?=some (.slice (some ⟨x,0,none⟩) len cap)) (hxm:x≠m) (hn:x<n) (hn2:n<16383) (hl:len<=cap) (hq:len=0->q=0) :
 db P k ⟨aI F,wd L n lg nl,[]⟩ ⟨aI F,wd ((x,none)::(m,some (.cells (d.set i (FZ (c.take q) len)) e2 fr2))::L) n lg nl,[]⟩:=nX x m i q hx hm hi hxm hn hn2 hl hq .nil
theorem aR{T:RT}{F:List (Nat×Option Value)}:jO T F []:=trivial
theorem af{T:RT}{F F':List (Nat×Option Value)}{t:Nat}{v w:Value}(ht:t<511)(hl:lk F t=some v)(hv:TV T v w)(hs:jO T F F'):jO T F ((t,some w)::F'):=
 ⟨fun u e=>by cases e;exact⟨ht,v,hl,hv⟩,hs⟩
theorem bj{P:Program}{T:RT}{R:List (Nat×Option Nat)}{n:Nat}{L:List (Nat×Option bb)}:kx P T R n L []:=trivial
theorem aj{P:Program}{T:RT}{R:List (Nat×Option Nat)}{n m:Nat}{L L':List (Nat×Option bb)}{o w:bb}(x:Nat)(hR:lk R x=some m)(h1:x<n)(h2:x<16383)(hl:lk L x=some o)(ho:TO P T o w)(hs:kx P T R n L L'):kx P T R n L ((m,some w)::L'):=
 ⟨fun u e=>by cases e;exact⟨x,o,hR,h1,h2,hl,ho⟩,hs⟩
theorem xp{P:Program}{T:RT}{R:List (Nat×Option Nat)}{n m:Nat}{L L':List (Nat×Option bb)}(hs:kx P T R n L L'):kx P T R n L ((m,none)::L'):=
 ⟨fun u e=>(by cases e),hs⟩
theorem bJ{P:Program}{T:RT}{c c':List Value}{e:TypeId}{fr:Nat×Nat}(h:iP T c c'):TO P T (.cells c e fr) (.cells c' e fr):=fun ρ ρ' i ob ht ho=>by
 cases ho with
 |cells _ _ _ d fr' hz hr hk hll hv hf hq hm=>
  have hrow:vA ρ i.s c d:=hv;obtain⟨us,h1,h2,h3⟩:=hrow.part 0 c.length (by simp);rw[List.drop_zero,List.take_length]at h2;have h4:=h _ _ _ ht h2;have hl:c'.length=c.length:=by rw[<-h4.length,h2.length]
  refine .cells _ _ _ _ _ hz (by rw[hl];exact hr) hk hll (fun j v hj=>?_) hf hq hm;obtain⟨u,q1,q2⟩:=h4.get j v hj;exact⟨u,by have:=h3 j u q1;rwa [Nat.add_zero]at this,q2⟩
theorem aq{P:Program}{T:RT}{o:bb}(hT:ow T)(h:fY P o):TO P T o o:=h T hT
theorem fU{P:Program}{H:dX}{N k:Nat}{s:XS}{Q:XQ}(hB:dv P H){id i:Nat}{ops:Array Oper}{d:Code}(S:XS)(h:∃rs s',aE P (eP P H 1) N none ops ops.toList s=some (rs,s')/\o7 P ops s.ds.length rs=true/\db P k s' S)(q:bA P N k d S Q) :
 bA P N k (.seq (.block i (.region id ops true)) d) s Q:=by
 obtain⟨rs,s',h1,h2,h3⟩:=h;exact ae (aD (fX hB h1 h2 (aU h3 q)))
theorem bl{P:Program}{H:dX}{N k:Nat}{s:XS}{Q:XQ}(hB:dv P H){id:Nat}{ops:Array Oper}{d:Code}(S:XS)(h:∃rs s',aE P (eP P H 1) N none ops ops.toList s=some (rs,s')/\o7 P ops s.ds.length rs=true/\db P k s' S)(q:bA P N k d S Q) :
 bA P N k (.seq (.region id ops true) d) s Q:=by
 obtain⟨rs,s',h1,h2,h3⟩:=h;exact ae (fX hB h1 h2 (aU h3 q))
def cA(n:Nat):Nat->Value
 |0=>.slice none 0 0
 |k+1=>.slice (some ⟨n,0,none⟩) (k+1) aM
def bN(e:TypeId)(c:List Value):Nat->Option bb
 |0=>none
 |_+1=>some (.cells c e (0,0))
def jd(c:List Value):Nat->Value
 |0=>.slice none 0 0
 |k+1=>FZ c (k+1)
theorem io{c:List Value}(h:dt c):∀k,dG (jd c k)
 |0=>aG 1 rfl
 |_+1=>Ft h
theorem qQ{c:List Value}:∀k,bk (jd c k)=true
 |0=>rfl
 |_+1=>rfl
theorem GW{P:Program}{kk:Nat}{F:List (Nat×Option Value)}{L L':List (Nat×Option bb)}{nn nl:Nat}{lg:List Nat}{ds:List dz}(x m i:Nat){c d:List Value}{e e2:TypeId}{fr2:Nat×Nat}{k:Nat}
 (hx:lk L x=bN e c k) (hm:lk L m=some (.cells d e2 fr2)) (hi:d[i]?=some (cA x k)) (hxm:x≠m) (hn:x<nn) (hmn:m<nn) (hn2:nn<16383) (hb:k<=aM) (hds:uo (fl x c) ds ds)
 (hL:ai nn ((x,none)::(m,some (.cells (d.set i (jd c k)) e2 fr2))::L) L') :
 db P kk ⟨aI F,wd L nn lg nl,ds⟩ ⟨aI F,wd L' nn lg nl,ds⟩:=by
 have sub:∀L1:List (Nat×Option bb),(∀m' o,lk ((x,none)::(m,some (.cells (d.set i (jd c k)) e2 fr2))::L) m'=some o->lk L1 m'=some o)->db P kk ⟨aI F,wd L1 nn lg nl,ds⟩ ⟨aI F,wd L' nn lg nl,ds⟩:=fun L1 h1=>
  j7 (fun t v h=>h) (fun m' o ho=>by
   obtain⟨g1,g2⟩:=dV ho;show(wd L1 nn lg nl).get m'=some o;rw[bO g1 (by omega)];exact h1 m' o (hL.mem _ _ (bX g2)).2) (Nat.le_refl _) rfl
 cases k with
 |zero=>
  have hd:d.set i (jd c 0)=d:=by
   refine aao fun j=>?_
   by_cases hij:i=j
   ·subst hij;rw[List.getElem?_set_self (List.getElem?_eq_some_iff.1 hi).1,hi];rfl
   rw[List.getElem?_set_ne hij]
  refine sub L fun m' o h=>?_
  by_cases e1:x=m'
  ·subst e1;rw[ab]at h;cases h
  rw[aa e1]at h;by_cases e2:m=m'
  ·subst e2;rw[ab,hd]at h;rw[hm];exact h
  rw[aa e2]at h;exact h
 |succ k=>
  refine db.trans (nX x m i c.length (c:=c) hx hm hi hxm hn hn2 hb (by omega) hds) (sub _ fun m' o h=>?_);rw[List.take_length];exact h
section
variable {P:Program} {R:XK} {N:Nat} {rd:Option Nat} {all:Array Oper} {dl:List Bool} {o:Oper} {l:List Oper} {s:XS}
end
section
variable {P:Program}
theorem G7{t:TypeId}{i:TypeInfo}(h:P.info? t=some i):bQ P (typeInfo t)=some i:=by
 show bQ P (match P.info? t with|some i=>pure i|none=>stuck "no such type")=_;rw[h];rfl
theorem xm{t:TypeId}{n:Nat}(h:(P.info? t).map (·.size)=some n):bQ P (sizeOf t)=some n:=by
 cases hq:P.info? t with
 |none=>rw[hq]at h;cases h
 |some i=>
  rw[hq]at h;cases h;unfold sizeOf;rw[ci,G7 hq];rfl
theorem vF{e:TypeId}{k:IntKind}(hue:P.underlying e=some (.int k)){c:Array Value}{i:Nat}{v:Value}(h:c[i]?=some v):bQ P (part e c i)=some v:=by
 have hagg:bQ P (isAgg e)=some false:=by unfold isAgg;rw[ci,gm hue];rfl
 unfold part;rw[ci,hagg];show bQ P (match c[i]? with|some v=>pure v|none=>stuck "part: no such cell")=_;rw[h];rfl
def Jh(c:List Value):Prop:=∀v∈c,∃j a,v=Value.int j a
theorem uz{c:List Value}(hi:Jh c):dw (.agg c.toArray)=true:=by
 show c.toArray.toList.all (cb 7)=true;rw[List.toList_toArray,aa3];intro v hv;obtain⟨j,a,rfl⟩:=hi v hv;rfl
theorem rk(l:List UInt8):Jh (aF l):=fun v hv=>by
 obtain⟨b,_,rfl⟩:=List.mem_map.1 hv;exact⟨_,_,rfl⟩
end
abbrev HB:={ l:List UInt8 // l.length=32 }
def eG(h:HB):Value:=.agg (aF h.1).toArray
structure rx(P:Program)(T e:TypeId):Prop where
 hu:P.underlying T=some (.array 32 e)
 hsz:(P.info? e).map (·.size)=some 1
 hue:P.underlying e=some (.int .u8)
 hg:P.eqGuardType P.depth T=false
section
variable {P:Program} {T e:TypeId}
theorem IW{k:IntKind}(hue:P.underlying e=some (.int k)){d:Nat}{j:IntKind}{a b:Int}:bQ P (Op.equalIn (d+1) e (.int j a) (.int j b))=some (a==b):=by
 rw[Op.equalIn,ci,gm hue];show bQ P (if j=j then pure (a==b)else stuck "==: kinds differ")=_;rw[if_pos rfl];rfl
theorem Mn(a b:UInt8):((((a.toNat:Nat):Int))==((b.toNat:Nat):Int))=(a==b):=by
 by_cases h:a=b
 ·subst h;simp
 have h2:a.toNat≠b.toNat:=fun q=>h (UInt8.toNat_inj.1 q)
 have:(((a.toNat:Nat):Int))≠((b.toNat:Nat):Int):=by omega
 rw[beq_false_of_ne this,beq_false_of_ne h]
theorem t8(H:rx P T e)(a b:List UInt8)(ha:a.length=32)(hb:b.length=32)(d:Nat) :
 bQ P (Op.equalIn (d+2) T (.agg (aF a).toArray) (.agg (aF b).toArray))=some (a==b):=by
 rw[show d+2=(d+1)+1 from rfl,Op.equalIn,ci,gm H.hu];simp only[Option.bind_some];rw[ci,xm H.hsz];simp only[Option.bind_some];rw[Std.Legacy.Range.forIn_eq_forIn_range',ci];have key:∀L:List Nat,(∀i∈L,i<32)->bQ P (forIn L ((none:Option Bool),()) (fun i __s=>do
  let __do_lift <-part e (aF a).toArray (i*1)
  let __do_lift_1 <-part e (aF b).toArray (i*1)
  let __do_lift <-Op.equalIn (d+1) e __do_lift __do_lift_1
  if(!__do_lift)=true then pure (ForInStep.done (some false,()))else pure (ForInStep.yield (none,())):Nat->Option Bool×Unit->Sem (ForInStep (Option Bool×Unit))))
  = some (if L.all (fun i=>a.getD i 0==b.getD i 0)then none else some false,()):=by
  intro L
  induction L with
  |nil=>intro _;rfl
  |cons i L ih=>
   intro hL;have hin:i<32:=hL i (by simp);have hat:∀q:List UInt8,q.length=32->bQ P (part e (aF q).toArray (i*1))=some (.int .u8 (((q.getD i 0).toNat:Nat):Int)):=fun q hq=>vF H.hue (by
    rw[aak,List.getElem?_toArray];show(q.map bv)[i]?=_;rw[aaU,ZP (by omega),aam,ZP (by omega)];rfl)
   rw[List.forIn_cons,ci,ci,hat a ha];simp only[Option.bind_some];rw[ci,hat b hb];simp only[Option.bind_some];rw[ci,IW H.hue];simp only[Option.bind_some,Mn];cases hq:(a.getD i 0==b.getD i 0)with
   |true=>
    have e1:(List.all (i::L) fun i=>a.getD i 0==b.getD i 0)=List.all L fun i=>a.getD i 0==b.getD i 0:=by simp only[List.all_cons,hq,Bool.true_and]
    rw[e1];exact ih fun j hj=>hL j (by simp[hj])
   |false=>
    have e1:(List.all (i::L) fun i=>a.getD i 0==b.getD i 0)=false:=by simp only[List.all_cons,hq,Bool.false_and]
    rw[e1];rfl
 rw[key _ (by
  intro i hi;simp[Std.Legacy.Range.size]at hi;omega)]
 have hall:((List.range' [:32].start [:32].size [:32].step).all (fun i=>a.getD i 0==b.getD i 0))=(a==b):=by
  rw[Bool.eq_iff_iff,aa3,beq_iff_eq];constructor
  ·intro h;apply aao;intro i;by_cases hi:i<32
   ·have:=h i (by simp[Std.Legacy.Range.size];omega);rw[beq_iff_eq,aam,aam,ZP (by omega),ZP (by omega)]at this;rw[ZP (by omega),ZP (by omega)];exact congrArg some this
   rw[aae (by omega),aae (by omega)]
  rintro rfl i _;simp
 rw[hall];cases a==b<;>rfl
theorem rI(H:rx P T e){a b:List UInt8}(ha:a.length=32)(hb:b.length=32){x y:Operand} :
 eJ P .eql T x y (some (.agg (aF a).toArray)) (some (.agg (aF b).toArray))=some (.val (some (.bool (a==b))))/\eJ P .neq T x y (some (.agg (aF a).toArray)) (some (.agg (aF b).toArray))=some (.val (some (.bool (!(a==b))))):=by
 have h1:bQ P (Go.eqGuard .eql T x y (.agg (aF a).toArray) (.agg (aF b).toArray))=some ():=by show bQ P (if !(P.eqGuardType P.depth T)then pure ()else _)=_;rw[H.hg];rfl
 have h2:bQ P (Go.eqGuard .neq T x y (.agg (aF a).toArray) (.agg (aF b).toArray))=some ():=by show bQ P (if !(P.eqGuardType P.depth T)then pure ()else _)=_;rw[H.hg];rfl
 have hE:bQ P (Op.equal T (.agg (aF a).toArray) (.agg (aF b).toArray))=some (a==b):=t8 H a b ha hb 9998;have q1:bQ P (qf .eql T x y (.agg (aF a).toArray) (.agg (aF b).toArray))=some (.bool (a==b)):=by unfold qf;rw[ci,h1];simp only[Option.bind_some];show bQ P (Op.equal T (.agg (aF a).toArray) (.agg (aF b).toArray) >>= fun r=>(pure (Value.bool r):Sem Value))=_;rw[ci,hE];rfl
 have q2:bQ P (qf .neq T x y (.agg (aF a).toArray) (.agg (aF b).toArray))=some (.bool (!(a==b))):=by unfold qf;rw[ci,h2];simp only[Option.bind_some];show bQ P (Op.equal T (.agg (aF a).toArray) (.agg (aF b).toArray) >>= fun r=>(pure (Value.bool (!r)):Sem Value))=_;rw[ci,hE];rfl
 have f:=uz (rk a);have g:=uz (rk b);constructor
 ·show(bif dw _&&dw _ then l8 (bQ P _)else _)=_;rw[f,g,q1];rfl
 show(bif dw _&&dw _ then l8 (bQ P _)else _)=_;rw[f,g,q2];rfl
variable {β:Type}
def iM(enc:β->Value):List (HB×β)->Nat->List MapEntry
 |[],_=>[]
 |x::l,i=>{ key:=eG x.1,val:=enc x.2,born:=i }::iM enc l (i+1)
def gl(enc:β->Value)(l:List (HB×β)):List MapEntry:=iM enc l 0
def fG(h:HB):List (HB×β)->Option β
 |[]=>none
 |x::l=>if h=x.1 then some x.2 else fG h l
def ll(k:HB):List (HB×β)->Nat->Option (Nat×β)
 |[],_=>none
 |x::l,i=>if k=x.1 then some (i,x.2)else ll k l (i+1)
theorem tU(k:HB):∀(l:List (HB×β)) (i:Nat),(ll k l i).map (·.2)=fG k l
 |[],_=>rfl
 |x::l,i=>by
  unfold ll fG;split
  ·rfl
  exact tU k l (i+1)
theorem Lr(H:rx P T e)(em:Bool)(h:HB)(n:Nat):bQ P (Instr.checkKey em (n+2) T (eG h))=some ():=by
 obtain⟨a,ha⟩:=h;unfold eG;rw[show n+2=(n+1)+1 from rfl,Instr.checkKey,ci,gm H.hu];simp only[Option.bind_some];rw[Std.Legacy.Range.forIn_eq_forIn_range'];have key:∀L:List Nat,(∀i∈L,i<32)->bQ P (forIn L PUnit.unit (fun i __s=>do
  let __do_lift <-sizeOf e
  let __do_lift <-part e (aF a).toArray (i*__do_lift)
  Instr.checkKey em (n+1) e __do_lift
  pure (ForInStep.yield PUnit.unit):Nat->PUnit->Sem (ForInStep PUnit)))=some PUnit.unit:=by
  intro L
  induction L with
  |nil=>intro _;rfl
  |cons i L ih=>
   intro hL;have hin:i<32:=hL i (by simp);have hp:bQ P (part e (aF a).toArray (i*1))=some (.int .u8 (((a.getD i 0).toNat:Nat):Int)):=vF H.hue (by
    rw[aak,List.getElem?_toArray];show(a.map bv)[i]?=_;rw[aaU,ZP (by omega),aam,ZP (by omega)];rfl)
   have hc:bQ P (Instr.checkKey em (n+1) e (.int .u8 (((a.getD i 0).toNat:Nat):Int)))=some ():=by rw[Instr.checkKey,ci,gm H.hue];rfl
   rw[List.forIn_cons,ci,ci,xm H.hsz];simp only[Option.bind_some];rw[ci,hp];simp only[Option.bind_some];rw[ci,hc];simp only[Option.bind_some];exact ih fun j hj=>hL j (by simp[hj])
 rw[ci,key _ (by
  intro i hi;simp[Std.Legacy.Range.size]at hi;omega)]
 rfl
theorem yB(h:HB):dw (eG h)=true:=uz (rk h.1)
theorem ke(H:rx P T e)(h:HB)(em:Bool):ia P T (eG h) em=true:=by
 unfold ia;rw[yB,show(10000:Nat)=9998+2 from rfl,Lr H em h 9998];rfl
theorem Fb(H:rx P T e){enc:β->Value}(k:HB):∀(l:List (HB×β)) (i j:Nat),bQ P (Instr.findAsking T (eG k) (iM enc l j) i)=some ((ll k l i).map fun x=>(x.1,enc x.2))
 |[],_,_=>rfl
 |x::l,i,j=>by
  unfold iM Instr.findAsking;rw[ci];have hE:bQ P (Op.equal T (eG k) (eG x.1))=some (k.1==x.1.1):=t8 H k.1 x.1.1 k.2 x.1.2 9998;rw[hE];simp only[Option.bind_some];unfold ll;by_cases h:k=x.1
  ·subst h;rw[if_pos rfl,beq_self_eq_true,if_pos rfl];rfl
  have e2:(k.1==x.1.1)=false:=by rw[beq_eq_false_iff_ne];exact fun q=>h (Subtype.ext q)
  rw[if_neg h,e2,if_neg (by simp)];exact Fb H k l (i+1) (j+1)
theorem Ae{enc:β->Value}:∀(l:List (HB×β)) (j:Nat),(iM enc l j).all (fun e=>dw e.key)=true
 |[],_=>rfl
 |x::l,j=>by
  unfold iM;rw[List.all_cons,yB,Ae l (j+1)];rfl
theorem kr(H:rx P T e){enc:β->Value}(k:HB)(l:List (HB×β)):gH P T (eG k) (gl enc l)=some ((ll k l 0).map fun x=>(x.1,enc x.2)):=by
 unfold gH gl;rw[Ae,cond_true];cases l with
 |nil=>
  show bQ P (Instr.findKey T (eG k) [])=_;unfold Instr.findKey;rw[ci,gm H.hu];rfl
 |cons x l=>
  unfold Instr.findKey;rw[ci,gm H.hu];simp only[Option.bind_some];have hs:Instr.findNow (.array 32 e) (eG k) (iM enc (x::l) 0) 0=none:=rfl;rw[hs];exact Fb H k (x::l) 0 0
theorem zq{enc:β->Value}(k:HB)(b:β):∀(l:List (HB×β)) (j:Nat),iM enc l j++[⟨eG k,enc b,j+l.length⟩]=iM enc (l++[(k,b)]) j
 |[],j=>rfl
 |x::l,j=>by
  show _::(iM enc l (j+1)++_)=_::iM enc (l++[(k,b)]) (j+1);rw[<-zq k b l (j+1),List.length_cons,aa5 j 1,aau 1]
theorem mK(h:HB):dG (eG h):=aG 8 (yB h)
theorem zy{enc:β->Value}(hb:∀b,dG (enc b)):∀(l:List (HB×β)) (j:Nat),∀x∈iM enc l j,dG x.key/\dG x.val
 |[],_,x,h=>by cases h
 |y::l,j,x,h=>by
  rcases List.mem_cons.1 h with rfl|h
  ·exact⟨mK _,hb _⟩
  exact zy hb l (j+1) x h
theorem z8{enc:β->Value}(hb:∀b,dG (enc b))(l:List (HB×β))(c:Nat):fY P (.map (gl enc l) c):=fun T hT=>jY (kZ.bare hT (zy hb l 0))
end
def F1(b:Nat):Option bb->Option Nat
 |some _=>some b
 |none=>none
structure o9(P:Program)(α:Type) where
 main:α->Nat->Nat->bb
 sat:α->Option bb
 hnd:bb->Option Nat
 hnd_eq:∀a w b,hnd (main a w b)=F1 b (sat a)
 inj:∀a a' w b,main a w b=main a' w b->sat a=sat a'->a=a'
 free:∀a w b b',sat a=none->main a w b=main a w b'
 ren:∀a w w' b b' (θ:Nat->Option Nat),θ w=some w'->(sat a≠none->θ b=some b')->TO P (cM θ) (main a w b) (main a w' b')
 bare:∀a o,sat a=some o->fY P o
inductive Md where
 |rd
 |pl
 |mv
abbrev PP(α:Type):=List Value->α->Option (Value×α×Md)
section
variable {P:Program} {α:Type} {E:o9 P α}
def mu(E:o9 P α)(W:XW)(w b:Nat)(a:α):Prop:=W.get w=some (E.main a w b)/\∀o,E.sat a=some o->W.get b=some o/\w≠b
def wY(W:XW)(b:Nat):Option bb->XW
 |some _=>W.put b none
 |none=>W
def oT(E:o9 P α)(W:XW)(w b:Nat)(a:α):Option (Value×α×Md)->Option (cz×XW)
 |some (v,_,.rd)=>some (.ret v,W)
 |some (v,a',.pl)=>match E.sat a' with
  |some o=>some (.ret v,(W.put b (some o)).put w (some (E.main a' w b)))
  |none=>some (.ret v,(wY W b (E.sat a)).put w (some (E.main a' w 0)))
 |some (v,a',.mv)=>match E.sat a' with
  |some o=>some (.ret v,((wY W b (E.sat a)).push o).put w (some (E.main a' w W.next)))
  |none=>none
 |none=>none
open Classical in
noncomputable def ic(E:o9 P α)(p:PP α):HF:=fun args W=>match args with
 |.pointer (some ⟨w,0,none⟩)::xs=>if h:∃a b,mu E W w b a then oT E W w (Classical.choose (ZQ h)) (Classical.choose h) (p xs (Classical.choose h))else none
 |_=>none
theorem mu.uniq{W:XW}{w b b':Nat}{a a':α}(h:mu E W w b a)(k:mu E W w b' a'):a=a'/\(E.sat a≠none->b=b'):=by
 obtain⟨h1,h2⟩:=h;obtain⟨k1,k2⟩:=k;have hm:E.main a w b=E.main a' w b':=Option.some.inj (h1.symm.trans k1);have hh:F1 b (E.sat a)=F1 b' (E.sat a'):=by rw[<-E.hnd_eq a w b,<-E.hnd_eq a' w b',hm]
 cases hs:E.sat a with
 |none=>
  rw[hs]at hh;have hs':E.sat a'=none:=by
   cases e:E.sat a' with
   |none=>rfl
   |some _=>rw[e]at hh;cases hh
  exact⟨E.inj a a' w b' (by rw[<-E.free a w b b' hs];exact hm) (hs.trans hs'.symm),fun q=>absurd rfl q⟩
 |some o=>
  rw[hs]at hh;cases hs':E.sat a' with
  |none=>rw[hs']at hh;cases hh
  |some o'=>
   rw[hs']at hh;have hb:b=b':=Option.some.inj hh;subst hb;have:=(h2 o hs).1.symm.trans (k2 o' hs').1;exact⟨E.inj _ _ _ _ hm (by rw[hs,hs',Option.some.inj this]),fun _=>rfl⟩
theorem WM{W:XW}{w b b':Nat}{a:α}(h:E.sat a≠none->b=b'){r:Option (Value×α×Md)}(hpl:∀v a',r=some (v,a',.pl)->E.sat a'≠none->E.sat a≠none):oT E W w b a r=oT E W w b' a r:=by
 cases hs:E.sat a with
 |some o=>rw[h (by rw[hs];simp)]
 |none=>
  match r,hpl with
  |none,_=>rfl
  |some (v,a',.rd),_=>rfl
  |some (v,a',.mv),_=>unfold oT;rw[hs];rfl
  |some (v,a',.pl),hpl=>
   have hn:E.sat a'=none:=by
    cases e:E.sat a' with
    |none=>rfl
    |some o=>exact absurd hs (hpl v a' rfl (by rw[e];simp))
   unfold oT;simp only[hn];rw[hs];rfl
theorem qk{p:PP α}{xs:List Value}{W:XW}{w b:Nat}{a:α}(h:mu E W w b a)(hpl:∀v a',p xs a=some (v,a',.pl)->E.sat a'≠none->E.sat a≠none):ic E p (.pointer (some ⟨w,0,none⟩)::xs) W=oT E W w b a (p xs a):=by
 have hx:∃a b,mu E W w b a:=⟨a,b,h⟩;have e:ic E p (.pointer (some ⟨w,0,none⟩)::xs) W=oT E W w (Classical.choose (ZQ hx)) (Classical.choose hx) (p xs (Classical.choose hx)):=dif_pos hx;rw[e];obtain⟨ha,hb⟩:=mu.uniq (ZQ (ZQ hx)) h;generalize Classical.choose (ZQ hx)=b2 at hb ⊢;generalize Classical.choose hx=a2 at ha hb ⊢;subst ha;exact WM hb hpl
theorem EH{p:PP α}{args:List Value}{W W':XW}{e:cz}(h:ic E p args W=some (e,W')):∃w b a xs,args=.pointer (some ⟨w,0,none⟩)::xs/\mu E W w b a/\oT E W w b a (p xs a)=some (e,W'):=by
 unfold ic at h;split at h
 ·rename_i w xs;split at h
  ·rename_i hx;exact⟨w,_,_,xs,rfl,ZQ (ZQ hx),h⟩
  cases h
 cases h
def lw(E:o9 P α)(a:α):XW:=match E.sat a with
 |some o=>wd [(0,some (E.main a 0 1)),(1,some o)] 2 [] 0
 |none=>wd [(0,some (E.main a 0 1))] 1 [] 0
def Cd(E:o9 P α)(a a':α)(W':XW):Md->Prop
 |.rd=>W'.get 0=some (E.main a 0 1)/\∀o,E.sat a=some o->W'.get 1=some o
 |.pl=>W'.get 0=some (E.main a' 0 1)/\∀o,E.sat a'=some o->E.sat a≠none/\W'.get 1=some o
 |.mv=>∃b',(lw E a).next<=b'/\W'.get 0=some (E.main a' 0 b')/\∃o,E.sat a'=some o/\W'.get b'=some o
theorem uH{a:α}:(lw E a).next=(match E.sat a with|some _=>2|none=>1):=by
 unfold lw;split<;>rename_i h<;>simp only[h,bf]
theorem RG{a:α}{m:Nat}{o:bb}(h:(lw E a).get m=some o):(m=0/\o=E.main a 0 1)\/(m=1/\E.sat a=some o):=by
 unfold lw at h;split at h
 ·rename_i o' hs;have hm:m<2:=cw h;obtain⟨_,h2⟩:=dV h;have:m=0\/m=1:=by omega
  rcases this with rfl|rfl
  ·rw[ab]at h2;cases h2;exact .inl ⟨rfl,rfl⟩
  rw[aa (by decide),ab]at h2;cases h2;exact .inr ⟨rfl,hs⟩
 rename_i hs;have hm:m<1:=cw h;obtain⟨_,h2⟩:=dV h;have:m=0:=by omega
 subst this;rw[ab]at h2;cases h2;exact .inl ⟨rfl,rfl⟩
theorem Fj{W:XW}{b:Nat}{x:Option bb}{m:Nat}{o:bb}(h:(wY W b x).get m=some o):W.get m=some o/\(x≠none->m≠b):=by
 cases x
 ·exact⟨h,fun q=>absurd rfl q⟩
 rcases XW.get_put h with⟨_,z⟩|⟨z1,z2⟩
 ·cases z
 exact⟨z2,fun _=>z1⟩
theorem EN(W:XW)(b:Nat)(x:Option bb):cK W (wY W b x):=by
 cases x
 ·exact .refl _
 exact .put _ _ _
theorem aN.mono{f:FuncId}{args:List Value}{W:XW}{S T:cz->XW->Prop}(h:aN P f args W S)(k:∀e W',S e W'->T e W'):aN P f args W T:=fun ρ args' w m h1 h2 h3=>
 CallsIn.mono (h ρ args' w m h1 h2 h3) fun en w' ⟨e,W',q,r⟩=>⟨e,W',k e W' q,r⟩
theorem pG{f:FuncId}{xs:List Value}{W W':XW}{w b x2:Nat}{a a':α}{v:Value}(hat:mu E W w b a)(hx:dt xs)(hv:dG v)
 (hloc:aN P f (.pointer (some ⟨0,0,none⟩)::xs) (lw E a) fun e WL=>e=.ret v/\∃b',(E.sat a'≠none->(b'=1/\E.sat a≠none/\x2=b)\/((lw E a).next<=b'/\W.next<=x2/\x2<W'.next))/\WL.get 0=some (E.main a' 0 b')/\∀o,E.sat a'=some o->WL.get b'=some o)
 (hnext:W.next<=W'.next) (hobj:∀x o',W'.get x=some o'->(x=w/\o'=E.main a' w x2)\/(x=x2/\x≠w/\E.sat a'=some o')\/(W.get x=some o'/\x≠w/\(E.sat a≠none->x≠b))) :
 lH P f (.pointer (some ⟨w,0,none⟩)::xs) W (.ret v) W':=by
 obtain⟨hw,hs⟩:=hat;have hwn:=cw hw;have hne:E.sat a≠none->w≠b:=fun q=>by
  cases e:E.sat a with
  |none=>exact absurd e q
  |some o=>exact(hs o e).2
 have hbn:E.sat a≠none->b<W.next:=fun q=>by
  cases e:E.sat a with
  |none=>exact absurd e q
  |some o=>exact cw (hs o e).1
 have hk:∀m,m<(lw E a).next->m=0\/(m=1/\E.sat a≠none):=fun m hm=>by
  rw[uH]at hm;cases e:E.sat a with
  |none=>rw[e]at hm;left;exact Nat.lt_one_iff.1 hm
  |some o=>
   rw[e]at hm;have hm:m<2:=hm;by_cases h0:m=0
   ·exact .inl h0
   exact .inr ⟨by omega,by simp⟩
 have hk0:0<(lw E a).next:=by rw[uH];split<;>decide
 have hk1:E.sat a≠none->1<(lw E a).next:=fun q=>by
  rw[uH];split
  ·decide
  rename_i e;exact absurd e q
 obtain⟨θc,hθ⟩:∃θc:Nat->Option Nat,θc=fun n=>if n=w then some 0 else if n=b/\E.sat a≠none then some 1 else none:=⟨_,rfl⟩
 have t0:θc w=some 0:=by rw[hθ];exact if_pos rfl
 have t1:E.sat a≠none->θc b=some 1:=fun q=>by
  rw[hθ];show(if b=w then some 0 else if b=b/\E.sat a≠none then some 1 else none)=some 1;rw[if_neg (Ne.symm (hne q)),if_pos ⟨rfl,q⟩]
 have tc:∀n m,θc n=some m->m<(lw E a).next/\(if m=0 then w else b)=n:=fun n m h=>by
  rw[hθ]at h;simp only at h;split at h
  ·rename_i q;cases h;exact⟨hk0,q.symm⟩
  split at h
  ·rename_i q;cases h;exact⟨hk1 q.2,q.1.symm⟩
  cases h
 refine mj (k:=(lw E a).next) (fun m=>if m=0 then w else b) θc rfl (fun m m' h h' e=>?_) (fun m h=>?_) tc (fun m oL h=>?_) (ax (ay t0) (hx _ ah)) hloc (fun eL WL' hS=>?_)
 ·rcases hk m h with rfl|⟨rfl,q⟩<;>rcases hk m' h' with rfl|⟨rfl,q'⟩
  ·rfl
  ·exact absurd e (hne q')
  ·exact absurd e.symm (hne q)
  rfl
 ·rcases hk m h with rfl|⟨rfl,q⟩
  ·exact hwn
  exact hbn q
 ·rcases RG h with⟨rfl,rfl⟩|⟨rfl,q⟩
  ·exact⟨hk0,_,hw,E.ren _ _ _ _ _ _ t0 t1⟩
  exact⟨hk1 (by rw[q];simp),_,(hs _ q).1,E.bare _ _ q _ ah⟩
 obtain⟨rfl,b',hb',g0,g1⟩:=hS;obtain⟨θ,hθ'⟩:∃θ:Nat->Option Nat,θ=fun m=>if m=0 then some w else if m=b'/\E.sat a'≠none then some x2 else none:=⟨_,rfl⟩
 have hb0:E.sat a'≠none->b'≠0:=fun q=>by rcases hb' q with h|h<;>omega
 have hx2:E.sat a'≠none->x2≠w:=fun q=>by
  rcases hb' q with⟨_,h,e⟩|h
  ·rw[e];exact Ne.symm (hne h)
  omega
 have u0:θ 0=some w:=by rw[hθ'];exact if_pos rfl
 have u1:E.sat a'≠none->θ b'=some x2:=fun q=>by
  rw[hθ'];show(if b'=0 then some w else if b'=b'/\E.sat a'≠none then some x2 else none)=some x2;rw[if_neg (hb0 q),if_pos ⟨rfl,q⟩]
 have uc:∀m x,θ m=some x->(m=0/\x=w)\/(m=b'/\E.sat a'≠none/\x=x2):=fun m x h=>by
  rw[hθ']at h;simp only at h;split at h
  ·rename_i q;cases h;exact .inl ⟨q,rfl⟩
  split at h
  ·rename_i q;cases h;exact .inr ⟨q.1,q.2,rfl⟩
  cases h
 refine⟨θ,fun m x h=>?_,fun m m' x h h'=>?_,fun x o' h=>?_,hv _ ah,hnext⟩
 ·rcases uc m x h with⟨rfl,rfl⟩|⟨rfl,q,rfl⟩
  ·exact .inl ⟨hk0,rfl⟩
  rcases hb' q with⟨e1,e2,e3⟩|h
  ·exact .inl ⟨by rw[e1];exact hk1 e2,by rw[e1,e3];rfl⟩
  exact .inr h
 ·rcases uc m x h with⟨rfl,rfl⟩|⟨rfl,q,rfl⟩<;>rcases uc m' _ h' with⟨rfl,e⟩|⟨rfl,q',e⟩
  ·rfl
  ·exact absurd e.symm (hx2 q')
  ·exact absurd e (hx2 q)
  rfl
 rcases hobj x o' h with⟨rfl,rfl⟩|⟨rfl,hxw,q⟩|⟨q1,q2,q3⟩
 ·exact .inl ⟨0,_,u0,g0,E.ren _ _ _ _ _ _ u0 u1⟩
 ·exact .inl ⟨b',_,u1 (by rw[q];simp),g1 _ q,E.bare _ _ q _ ah⟩
 refine .inr ⟨q1,cw q1,fun m hm=>?_⟩;rcases hk m hm with rfl|⟨rfl,q⟩
 ·exact fun e=>q2 e.symm
 exact fun e=>q3 q e.symm
theorem uO{f:FuncId}{p:PP α}(he:fi P f)(hb:∀xs a v a' md,p xs a=some (v,a',md)->dt xs/\dG v)
 (hl:∀xs a v a' md,p xs a=some (v,a',md)->aN P f (.pointer (some ⟨0,0,none⟩)::xs) (lw E a) fun e W'=>e=.ret v/\Cd E a a' W' md):bD P f (ic E p):=by
 refine⟨he,fun args W e W' h=>?_,fun args W e W' hh=>?_⟩
 ·obtain⟨w,b,a,xs,_,_,h⟩:=EH h;unfold oT at h;split at h
  ·cases h;exact .refl _
  ·split at h
   ·cases h;exact(cK.put _ _ _).trans (cK.put _ _ _)
   cases h;exact(EN _ _ _).trans (cK.put _ _ _)
  ·split at h
   ·cases h;exact((EN _ _ _).trans (cK.push _ _)).trans (cK.put _ _ _)
   cases h
  cases h
 obtain⟨w,b,a,xs,rfl,hat,h⟩:=EH hh;clear hh;cases hp:p xs a with
 |none=>rw[hp]at h;cases h
 |some q=>
 obtain⟨v,a',md⟩:=q;rw[hp]at h;obtain⟨hbx,hbv⟩:=hb _ _ _ _ _ hp;have hloc:=hl _ _ _ _ _ hp;cases md with
 |rd=>
  cases h;refine pG (a':=a) (x2:=b) hat hbx hbv (hloc.mono fun e WL ⟨h1,h2,h3⟩=>⟨h1,1,fun q=>.inl ⟨rfl,q,rfl⟩,h2,h3⟩) (Nat.le_refl _) fun x o' h=>?_
  by_cases hx:x=w
  ·subst hx;exact .inl ⟨rfl,Option.some.inj (h.symm.trans hat.1)⟩
  by_cases hy:E.sat a≠none/\x=b
  ·obtain⟨hy,rfl⟩:=hy;cases e:E.sat a with
   |none=>exact absurd e hy
   |some o=>exact .inr (.inl ⟨rfl,hx,by rw[<-h,(hat.2 o e).1]⟩)
  exact .inr (.inr ⟨h,hx,fun q e=>hy ⟨q,e⟩⟩)
 |pl=>
  unfold oT at h;cases e':E.sat a' with
  |some o=>
   simp only[e']at h;cases h;refine pG (a':=a') (x2:=b) hat hbx hbv (hloc.mono fun e WL ⟨h1,h2,h3⟩=>⟨h1,1,fun q=>.inl ⟨rfl,(h3 o e').1,rfl⟩,h2,fun o h=>(h3 o h).2⟩) (Nat.le_refl _) fun x o' h=>?_
   rcases XW.get_put h with⟨rfl,q⟩|⟨q1,q2⟩
   ·cases q;exact .inl ⟨rfl,rfl⟩
   rcases XW.get_put q2 with⟨rfl,z⟩|⟨z1,z2⟩
   ·cases z;exact .inr (.inl ⟨rfl,q1,e'⟩)
   exact .inr (.inr ⟨z2,q1,fun _=>z1⟩)
  |none=>
   simp only[e']at h;cases h;have hsn:E.sat a=none\/E.sat a≠none:=by cases E.sat a<;>simp
   refine pG (a':=a') (x2:=0) hat hbx hbv (hloc.mono fun e WL ⟨h1,h2,h3⟩=>⟨h1,1,fun q=>absurd e' q,h2,fun o h=>(h3 o h).2⟩) ?_ fun x o' h=>?_
   ·unfold wY;split<;>exact Nat.le_refl _
   rcases XW.get_put h with⟨rfl,q⟩|⟨q1,q2⟩
   ·cases q;exact .inl ⟨rfl,rfl⟩
   have:=Fj q2;exact .inr (.inr ⟨this.1,q1,this.2⟩)
 |mv=>
  unfold oT at h;cases e':E.sat a' with
  |none=>simp only[e']at h;cases h
  |some o=>
   simp only[e']at h;cases h;have hcn:(wY W b (E.sat a)).next=W.next:=by unfold wY;split<;>rfl
   refine pG (a':=a') (x2:=W.next) hat hbx hbv (hloc.mono fun e WL hS=>?_) ?_ fun x o' h=>?_
   ·obtain⟨h1,b',h2,h3,o2,h4,h5⟩:=hS;refine⟨h1,b',fun q=>.inr ⟨h2,Nat.le_refl _,?_⟩,h3,fun o h=>?_⟩
    ·show W.next<(wY W b (E.sat a)).next+1;rw[hcn];exact aan _
    rw[h5,<-h4,h]
   ·show W.next<=(wY W b (E.sat a)).next+1;rw[hcn];exact aaX _
   rcases XW.get_put h with⟨rfl,q⟩|⟨q1,q2⟩
   ·cases q;exact .inl ⟨rfl,rfl⟩
   rcases XW.get_push q2 with⟨z1,z2⟩|⟨z1,z2⟩
   ·subst z2;exact .inr (.inl ⟨by rw[z1,hcn],q1,e'⟩)
   have:=Fj z2;exact .inr (.inr ⟨this.1,q1,this.2⟩)
end
attribute [go_sem] reduceAdd reduceMul reduceSub
end Go.Proofs.YthlkgmdkabelpaaGreat.X
