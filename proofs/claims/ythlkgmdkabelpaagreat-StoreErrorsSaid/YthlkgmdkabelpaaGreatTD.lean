/-
  Packed by program (tools/pack.py) out of the texts UF26 F27 F28 F29 F30 F31 F32 F33 F34 F35 F36 F37 F39. No condition.
-/
import Derived.Test.YthlkgmdkabelpaaGreatTL
import Derived.Lib.Builder
import Derived.WalkSpells
import Derived.Shelf.Strings.Builder1
import Derived.Test.YthlkgmdkabelpaaGreatTC
set_option linter.all false
namespace Go.Proofs.YthlkgmdkabelpaaGreat.X
open Go Go.RowKit
theorem ut:(Tryz.prog.info? 82).map (·.size)=some 2:=by kernel_rfl
set_option maxRecDepth 100000 in
theorem TZ(b q:Nat)(w:World)(h0:w.cell? ⟨b,q,none⟩=some (.pointer (some ⟨b,q,none⟩))) :
 Calls Tryz.prog 73 #[.pointer (some ⟨b,q,none⟩)] w fun e w'=>e=.returned (.tuple #[])/\w'=w:=by
 obtain⟨j,hj,_⟩:=Option.map_eq_some_iff.1 ut
 go_enter Tryz.func73,Tryz.ntmps73
 go_wp2
 rw[Lib.run_neq_ptr_same w _ Tryz.underlying79 hj]
 go_wp2
 go_end0
 exact⟨rfl,rfl⟩
set_option maxRecDepth 100000 in
theorem Pg(b q z:Nat)(e:TypeId)(w:World)(h0:w.cell? ⟨b,q,none⟩=some (.pointer none))(hsh:w.shape? b=some (e,z))(hq:q<z)
 (hl:liesAt Tryz.prog Tryz.prog.depth e (z/Tryz.prog.cellsOf e) q 82 1=true) (hfz:w.frozen? ⟨b,q,none⟩=false) :
 Calls Tryz.prog 73 #[.pointer (some ⟨b,q,none⟩)] w fun e w'=>e=.returned (.tuple #[])/\w'=w.setCell ⟨b,q,none⟩ (.pointer (some ⟨b,q,none⟩)):=by
 obtain⟨j,hj,hjs⟩:=Option.map_eq_some_iff.1 ut
 go_enter Tryz.func73,Tryz.ntmps73
 go_wp2
 rw[Lib.run_to_unsafe w ⟨b,q,none⟩ Tryz.underlying79 Tryz.underlying191 hj (by rw[hjs];decide) hsh hq];simp only[Result.andThen];rw[Oper.upon_value]
 go_wp2
 rw[run_callFunc_extern Tryz.func110 (by kernel_rfl) (by kernel_rfl) (by kernel_rfl) (e:=Extern.AbiNoEscape.same) (by kernel_rfl),Lib.run_noEscape];simp only[Result.andThen];rw[Oper.upon_value]
 go_wp2
 rw[Lib.run_from_unsafe w ⟨b,q,none⟩ Tryz.underlying191 Tryz.underlying79 hj hsh hl];simp only[Result.andThen];rw[Oper.upon_value]
 go_wp2
 go_end0
 exact⟨rfl,rfl⟩
abbrev HF:=List Value->XW->Option (aZ×XW)
abbrev HD:=List Value->Option Value->XW->Option (Option Value×XW)
def lX(P:Program)(f:FuncId)(args:List Value)(W:XW)(e:aZ)(W':XW):Prop:=
 ∀ρ args' w m,cw ρ W.next W'.next->HR P ρ W.get w->aJ ρ args args'->CallsIn Fence.wide m P f args'.toArray w (QF P ρ W w e W')
structure bQ(P:Program)(f:FuncId)(h:HF):Prop where
 enters:cT P f
 ext:∀args W e W',h args W=some (e,W')->bu W W'
 sim:∀args W e W',h args W=some (e,W')->lX P f args W e W'
structure Cg(P:Program)(f:FuncId)(h:HD):Prop where
 enters:cT P f
 ext:∀args p W p' W',h args p W=some (p',W')->bu W W'
 sim:∀args p W p' W',h args p W=some (p',W')->∀ρ args' w m u,cw ρ W.next W'.next->HR P ρ W.get w->aJ ρ args args'->gK ρ p u ->
  CallsDIn Fence.wide m P f args'.toArray u w fun en u' w'=>(∃v,en=.returned v)/\∃ρ',bW ρ W.get W.next w ρ' W'.get W'.next w'/\HR P ρ' W'.get w'/\gK ρ' p' (settle u')
def jQ{α:Type}:List (FuncId×α)->FuncId->Option α
 |[],_=>none
 |(g,h)::l,f=>bif Nat.beq f g then some h else jQ l f
theorem il{α:Type}{f:FuncId}{h:α}:∀{l:List (FuncId×α)},jQ l f=some h->(f,h)∈l
 |[],e=>by cases e
 |(g,k)::l,e=>by
  unfold jQ at e;cases hb:Nat.beq f g with
  |true=>rw[hb]at e;cases e;rw[Yp hb];exact Yw
  |false=>rw[hb]at e;exact YH _ (il e)
inductive pH(P:Program):List (FuncId×HF)->Prop
 |nil:pH P []
 |cons (f:FuncId) (h:HF) (l:List (FuncId×HF)) (hk:bQ P f h) (hs:pH P l):pH P ((f,h)::l)
inductive nE(P:Program):List (FuncId×HD)->Prop
 |nil:nE P []
 |cons (f:FuncId) (h:HD) (l:List (FuncId×HD)) (hk:Cg P f h) (hs:nE P l):nE P ((f,h)::l)
theorem pH.mem{P:Program}{f:FuncId}{h:HF}:∀{l:List (FuncId×HF)},pH P l->(f,h)∈l->bQ P f h
 |_,.cons _ _ l hk hs,e=>by
  rcases List.mem_cons.1 e with e|e
  ·cases e;exact hk
  exact hs.mem e
theorem nE.mem{P:Program}{f:FuncId}{h:HD}:∀{l:List (FuncId×HD)},nE P l->(f,h)∈l->Cg P f h
 |_,.cons _ _ l hk hs,e=>by
  rcases List.mem_cons.1 e with e|e
  ·cases e;exact hk
  exact hs.mem e
def bc(t:List (FuncId×HF))(d:List (FuncId×HD)):cC:=⟨jQ t,jQ d⟩
theorem eQ{P:Program}{t:List (FuncId×HF)}{d:List (FuncId×HD)}(ht:pH P t)(hd:nE P d):uR P (bc t d):=
 ⟨⟨fun f h args W v W' hf hh=>(ht.mem (il hf)).ext args W v W' hh,fun f h args p W p' W' hf hh=>(hd.mem (il hf)).ext args p W p' W' hh⟩,
  fun f h hf=>(ht.mem (il hf)).enters,fun f h args W v W' hf hh=>(ht.mem (il hf)).sim args W v W' hh,
  fun f h hf=>(hd.mem (il hf)).enters,fun f h args p W p' W' hf hh=>(hd.mem (il hf)).sim args p W p' W' hh⟩
def xL(h:List Value->XW->Option (Value×XW)):HF:=fun args W=>match h args W with
 |some (v,W')=>some (.ret v,W')
 |none=>none
theorem kg{h:List Value->XW->Option (Value×XW)}{args:List Value}{W W':XW}{e:aZ}(k:xL h args W=some (e,W')):∃v,e=.ret v/\h args W=some (v,W'):=by
 unfold xL at k;split at k
 ·rename_i v W1 hq;cases k;exact⟨v,rfl,hq⟩
 cases k
def Es(P:Program)(f:FuncId):Bool:=match P.funcs[f]? with
 |some fn=>gq fn&&fn.body.isSome
 |none=>false
theorem enters_of{P:Program}{f:FuncId}(h:Es P f=true):cT P f:=by
 unfold Es at h;split at h
 ·rename_i fn hf;simp only[Yr]at h;exact⟨fn,hf,h.1,h.2⟩
 cases h
theorem OX{P:Program}{R:XK}{f:FuncId}(he:cT P f)(hR:fY R)(hC:ja P R):Cg P f (Fg P R f):=
 ⟨he,fun args p W p' W' h=>(Cj hR hC h).2.1,fun args p W p' W' h=>(Cj hR hC h).2.2⟩
def Ch(P:Program)(N:Nat)(ρ0:Ren)(W0:XW)(w0:World)(e:gg)(s:XS)(ex:Exit)(a:Act)(w:World):Prop:=
 ∃ρ,lC P ρ0 W0 w0 N s ρ a w/\(∀n,s.W.next<=n->ρ n=none)/\ub ρ e ex
def aX(P:Program)(k:Nat)(s s':XS):Prop:=∀N ρ0 W0 w0 e ex a w,W0.next=k->(∀n,k<=n->ρ0 n=none)->(∀v,e≠.pan v)->Ch P N ρ0 W0 w0 e s ex a w->Ch P N ρ0 W0 w0 e s' ex a w
abbrev XQ:=gg->XS->Prop
def ay(P:Program)(N k:Nat)(c:Code)(s:XS)(Q:XQ):Prop:=
 ∀m ρ0 W0 w0 a w,W0.next=k->(∀n,k<=n->ρ0 n=none)->Ch P N ρ0 W0 w0 .norm s .normal a w->c.wpIn Fence.wide m P (fun ex a' w'=>∃e s',Q e s'/\Ch P N ρ0 W0 w0 e s' ex a' w') a w
def g9(P:Program)(N k:Nat)(d:Code)(Q:XQ):XQ
 |.norm,s=>ay P N k d s Q
 |e,s=>Q e s
def mO(id:Nat)(Q:XQ):XQ
 |.exit i,s=>if i=id then Q .norm s else Q (.exit i) s
 |e,s=>Q e s
section
variable {P:Program} {N k:Nat} {R:XK} {c d:Code} {s s':XS} {Q Q':XQ}
theorem lC.then'{ρ0 ρ ρ':Ren}{W0:XW}{w0 w w':World}{a a':Act}(h:lC P ρ0 W0 w0 N s ρ a w)(k:lC P ρ s.W w N s' ρ' a' w'):lC P ρ0 W0 w0 N s' ρ' a' w':=
 ⟨h.1.trans k.1,k.2⟩
theorem mq{ρ ρ':Ren}{G G':GH}{nx nx':Nat}{w w':World}(hn:∀n,nx<=n->ρ n=none)(h:bW ρ G nx w ρ' G' nx' w'):∀n,nx'<=n->ρ' n=none:=fun n hn'=>by
 cases e:ρ' n with
 |none=>rfl
 |some q=>
  rcases h.dom n (by rw[e];simp)with q|⟨q1,q2⟩
  ·exact absurd (hn n (Nat.le_trans h.next hn')) q
  omega
theorem wP{e:gg}(hC:ja P R)(h:R (.code N none c s)=some (.code e s'))(hq:Q e s'):ay P N k c s Q:=fun m ρ0 W0 w0 a w h0 h1 hc=>by
 obtain⟨ρ,⟨g1,g2,g3,g4⟩,g5,g6⟩:=hc;refine wpIn_mono (hC _ _ _ _ _ _ h ρ none a w m trivial (fun n k1 _=>g5 n k1) g2 g3 g4) fun ex a' w' hx=>?_
 obtain⟨ρ',ho,hx⟩:=hx;exact⟨e,s',hq,ρ',lC.then' ⟨g1,g2,g3,g4⟩ ho,mq g5 ho.1,hx⟩
theorem fh(hq:∀e s,Q e s->Q' e s)(h:ay P N k c s Q):ay P N k c s Q':=fun m ρ0 W0 w0 a w h0 h1 hc=>
 wpIn_mono (h m ρ0 W0 w0 a w h0 h1 hc) fun ex a' w' ⟨e,s',q,hx⟩=>⟨e,s',hq e s' q,hx⟩
theorem eD(hl:aX P k s s')(h:ay P N k c s' Q):ay P N k c s Q:=fun m ρ0 W0 w0 a w h0 h1 hc=>h m ρ0 W0 w0 a w h0 h1 (hl N ρ0 W0 w0 _ _ a w h0 h1 (fun v e=>by cases e) hc)
theorem aX.refl:aX P k s s:=fun _ _ _ _ _ _ _ _ _ _ _ h=>h
theorem aX.trans{s1 s2 s3:XS}(h:aX P k s1 s2)(g:aX P k s2 s3):aX P k s1 s3:=fun N ρ0 W0 w0 e ex a w h0 h1 h2 hc=>g N ρ0 W0 w0 e ex a w h0 h1 h2 (h N ρ0 W0 w0 e ex a w h0 h1 h2 hc)
theorem ap(h:Q .norm s):ay P N k .skip s Q:=fun m ρ0 W0 w0 a w h0 h1 hc=>wpIn_skip ⟨.norm,s,h,hc⟩
theorem Ch.exit{ρ0:Ren}{W0:XW}{w0:World}{a:Act}{w:World}{e e':gg}{ex ex':Exit}(h:Ch P N ρ0 W0 w0 e s ex a w)(hx:∀ρ,ub ρ e' ex'):Ch P N ρ0 W0 w0 e' s ex' a w:=by
 obtain⟨ρ,h1,h2,_⟩:=h;exact⟨ρ,h1,h2,hx ρ⟩
theorem ga(h:Q .ret s):ay P N k .ret s Q:=fun m ρ0 W0 w0 a w h0 h1 hc=>wpIn_ret ⟨.ret,s,h,hc.exit fun _=>trivial⟩
theorem nR{id:Nat}(h:Q (.exit id) s):ay P N k (.exit id) s Q:=fun m ρ0 W0 w0 a w h0 h1 hc=>wpIn_exit ⟨.exit id,s,h,hc.exit fun _=>rfl⟩
theorem ak(h:ay P N k c s (g9 P N k d Q)):ay P N k (.seq c d) s Q:=fun m ρ0 W0 w0 a w h0 h1 hc=>by
 refine wpIn_seq (wpIn_mono (h m ρ0 W0 w0 a w h0 h1 hc) fun ex a' w' hx=>?_);obtain⟨e,s',q,hx⟩:=hx;have hx':=hx;obtain⟨ρ,_,_,hr⟩:=hx';cases e with
 |norm=>
  cases ex<;>first|exact hr.elim|skip
  exact q m ρ0 W0 w0 a' w' h0 h1 hx
 |_=>cases ex<;>first|exact hr.elim|exact⟨_,s',q,hx⟩
theorem Ad{x:Operand}{t:Bool}(hx:ev s.fr x=some (.bool t))(h:ay P N k (if t then c else d) s Q):ay P N k (.cond x c d) s Q:=fun m ρ0 W0 w0 a w h0 h1 hc=>by
 have hc':=hc;obtain⟨ρ,⟨g1,g2,g3,g4⟩,_⟩:=hc';exact wpIn_cond ((g3.ev x _ hx).of_flat 1 rfl) (h m ρ0 W0 w0 a w h0 h1 hc)
theorem aC{id:Nat}(h:ay P N k c s (mO id Q)):ay P N k (.block id c) s Q:=fun m ρ0 W0 w0 a w h0 h1 hc=>by
 refine wpIn_block (wpIn_mono (h m ρ0 W0 w0 a w h0 h1 hc) fun ex a' w' hx=>?_);obtain⟨e,s',q,hx⟩:=hx;have hx':=hx;obtain⟨ρ,_,_,hr⟩:=hx';cases ex with
 |exit j=>
  cases e<;>first|exact hr.elim|skip
  rename_i i;have hij:i=j:=hr;subst hij;unfold mO at q;show Exit.inBlock id _ (.exit i) a' w';unfold Exit.inBlock;simp only at q ⊢;by_cases hid:i=id
  ·rw[if_pos hid]at q ⊢;exact⟨.norm,s',q,hx.exit fun _=>trivial⟩
  rw[if_neg hid]at q ⊢;exact⟨.exit i,s',q,hx⟩
 |_=>cases e<;>first|exact hr.elim|exact⟨_,s',q,hx⟩
theorem uZ{α:Type}(I:α->XS)(μ:α->Nat)(h:∀x,ay P N k c (I x) fun e s'=>match e with
 |.norm=>∃y,μ y<μ x/\aX P k s' (I y)
 |e=>Q e s') (x:α):ay P N k (.loop c) (I x) Q:=fun m ρ0 W0 w0 a w h0 h1 hc=>by
 refine AT ?_
 induction hn:μ x using Nat.strongRecOn generalizing x a w with
 |_ n ih=>
  refine wm (wpIn_mono (h x m ρ0 W0 w0 a w h0 h1 hc) fun ex a' w' hx=>?_);obtain⟨e,s',q,hx⟩:=hx;have hx':=hx;obtain⟨ρ,_,_,hr⟩:=hx';cases e with
  |norm=>
   cases ex<;>first|exact hr.elim|skip
   obtain⟨y,hy,hl⟩:=q;exact ih (μ y) (by omega) y a' w' (hl N ρ0 W0 w0 _ _ a' w' h0 h1 (fun v e=>by cases e) hx) rfl
  |_=>cases ex<;>first|exact hr.elim|exact⟨_,s',q,hx⟩
end
theorem XC{P:Program}{H:cC}(hS:uR P H){f:FuncId}{fn:Func}{c:Code}{args:List Value}{W:XW}{Q:aZ->XW->Prop}(hf:P.funcs[f]?=some fn)(hc:fn.body=some c)(hN:args.length<=fn.ntmps)
 (h:ay P fn.ntmps W.next c ⟨xu args,W,[]⟩ fun e s=>∃p e' W',ow e=some p/\nU P fn s.fr (dE H s.ds p s.W)=some (.fin e' W')/\Q e' W') :
 ∀ρ args' w m,(∀n,W.next<=n->ρ n=none)->HR P ρ W.get w->aJ ρ args args'->CallsIn Fence.wide m P f args'.toArray w fun en w'=>∃e' W',Q e' W'/\QF P ρ W w e' W' en w':=fun ρ args' w m hfr hH hA=>by
 refine callsIn_of_wp_marks hf hc trivial (wpIn_mono (h m ρ W w { tmps:=_,defers:=[] } w rfl hfr ⟨ρ,⟨.refl _ _ _ _,hH,uH hA hN,.nil⟩,hfr,trivial⟩) fun x a1 w1 hx=>?_) rfl;obtain⟨ex,s,⟨p,e',W',hp,hk,hq⟩,ρ1,⟨g1,g2,g3,g4⟩,g5,hx⟩:=hx;have key:∀W2 p2,dE H s.ds p s.W=some (p2,W2)->(∀ρ' u' w',bW ρ W.get W.next w ρ' W2.get W2.next w'->HR P ρ' W2.get w'->gK ρ' p2 u'->∀tm,FR ρ' fn.ntmps s.fr tm->LeavesIn Fence.wide m P fn tm (fun en w'=>∃e' W',Q e' W'/\QF P ρ W w e' W' en w') [] u' w') ->
  ∀u,gK ρ1 p u->LeavesInM Fence.wide m P fn a1.tmps (fun en w'=>∃e' W',Q e' W'/\QF P ρ W w e' W' en w') a1.defers u w1:=fun W2 p2 hs hk u hu=>
  nj hS _ _ _ hs ρ1 _ w1 u (fun n k1 _=>g5 n k1) g2 g4 hu fun ρ' u' w' k1 k2 k3=>hk ρ' u' w' (g1.trans k1) k2 k3 _ (g3.mono k1.le)
 have go:∀u,gK ρ1 p u->LeavesInM Fence.wide m P fn a1.tmps (fun en w'=>∃e' W',Q e' W'/\QF P ρ W w e' W' en w') a1.defers u w1:=by
  unfold nU at hk;split at hk
  ·rename_i v W1 hs;cases hk;refine key _ _ hs fun ρ' u' w' g1 g2 g3 tm hF=>?_
   cases u'<;>first|exact g3.elim|skip
   exact⟨_,_,hq,ρ',g1,g2,g3⟩
  ·rename_i W1 hs;unfold uQ at hk;split at hk
   ·rename_i vs hr;cases hk;refine key _ _ hs fun ρ' u' w' g1 g2 g3 tm hF=>?_
    cases u'<;>first|exact g3.elim|skip
    obtain⟨u,q1,q2⟩:=o4 g2 hF hr;exact⟨u,q1,_,_,hq,ρ',g1,g2,q2⟩
   cases hk
  cases hk
 cases ex<;>cases x<;>first|exact hx.elim|skip
 ·cases hp;exact go .returning trivial
 ·cases hp
 ·cases hp;exact go .returning trivial
 cases hp;obtain⟨v',h1,rfl⟩:=hx;exact go (.panicking _) ⟨v',h1,rfl⟩
abbrev RT:=Ren->Ren->Prop
def pL(T:RT):Prop:=∀ρ ρ',T ρ ρ'->∀b o,ρ.fz b=some o->ρ'.fz b=some o
def TV(T:RT)(v v':Value):Prop:=∀ρ ρ' x,T ρ ρ'->VR ρ v x->VR ρ' v' x
def is(T:RT)(l l':List Value):Prop:=∀ρ ρ' x,T ρ ρ'->aJ ρ l x->aJ ρ' l' x
def TO(P:Program)(T:RT)(o o':ag):Prop:=∀ρ ρ' i ob,T ρ ρ'->OR P ρ i o ob->OR P ρ' i o' ob
def dH(v:Value):Prop:=∀T,pL T->TV T v v
def cV(l:List Value):Prop:=∀T,pL T->is T l l
section
variable {T:RT} {P:Program}
theorem ju(n:Nat){v:Value}(h:aO n v=true):TV T v v:=fun ρ ρ' x _ hv=>by
 rw[hv.of_flat n h];exact .flat n v h
theorem aR:is T [] []:=fun ρ ρ' x _ h=>by cases h;exact .nil
theorem au{v v':Value}{l l':List Value}(h:TV T v v')(hs:is T l l'):is T (v::l) (v'::l'):=fun ρ ρ' x ht hv=>by
 cases hv with
 |cons _ u _ us a b=>exact .cons _ _ _ _ (h _ _ _ ht a) (hs _ _ _ ht b)
theorem aJ.split{ρ:Ren}:∀{a b x:List Value},aJ ρ (a++b) x->∃y z,x=y++z/\aJ ρ a y/\aJ ρ b z
 |[],b,x,h=>⟨[],x,rfl,.nil,h⟩
 |v::a,b,x,h=>by
  cases h with
  |cons _ u _ us q r=>
   obtain⟨y,z,rfl,h1,h2⟩:=aJ.split r;exact⟨u::y,z,rfl,.cons _ _ _ _ q h1,h2⟩
theorem F3{a a' b b':List Value}(h:is T a a')(hs:is T b b'):is T (a++b) (a'++b'):=fun ρ ρ' x ht hv=>by
 obtain⟨y,z,rfl,h1,h2⟩:=hv.split;exact(h _ _ _ ht h1).append (hs _ _ _ ht h2)
theorem Df{l l':List Value}(h:is T l l'){ρ ρ':Ren}{x:List Value}(ht:T ρ ρ')(hx:aJ ρ l x):l'.length=l.length:=by
 rw[<-hx.length,(h _ _ _ ht hx).length]
theorem Bk{cs cs':List Value}(h:is T cs cs'):TV T (.agg cs.toArray) (.agg cs'.toArray):=fun ρ ρ' x ht hv=>by
 obtain⟨us,rfl,hu⟩:=hv.aggInv;exact .agg _ _ (h _ _ _ ht (by simpa using hu))
theorem Ki{cs cs':List Value}(h:is T cs cs'):TV T (.tuple cs.toArray) (.tuple cs'.toArray):=fun ρ ρ' x ht hv=>by
 obtain⟨us,rfl,hu⟩:=hv.tupleInv;exact .tuple _ _ (h _ _ _ ht (by simpa using hu))
theorem KP{t:TypeId}{v v':Value}(h:TV T v v'):TV T (.iface t v) (.iface t v'):=fun ρ ρ' x ht hv=>by
 obtain⟨u,rfl,hu⟩:=hv.ifaceInv;exact .iface _ _ _ (h _ _ _ ht hu)
theorem pk{f:FuncId}{xs xs' cs cs':List Value}(h:is T xs xs')(h2:is T cs cs'):TV T (.func (.func f) xs.toArray cs.toArray) (.func (.func f) xs'.toArray cs'.toArray):=fun ρ ρ' x ht hv=>by
 obtain⟨us,ws,rfl,h3,h4⟩:=hv.funcInv;exact .func _ _ _ _ _ (h _ _ _ ht (by simpa using h3)) (h2 _ _ _ ht (by simpa using h4))
theorem V5(hT:pL T){cs cs':List Value}{n:Nat}(h:is T cs cs'):TV T (FZ cs n) (FZ cs' n):=fun ρ ρ' x ht hv=>by
 obtain⟨_,_,⟨b,off,cap,c',e,fr,hB,hl,rfl,hr⟩|⟨h1,h2,a,cap,rfl⟩⟩:=VR.fzInv (cs:=cs.toArray) hv
 ·have hr:aJ ρ cs ((c'.toList.drop off).take cs.length):=by simpa using hr
  have hn:=Df h ht hr;exact .frz _ _ n b off cap c' e fr (hT _ _ ht _ _ hB) hl rfl (by rw[hn];exact h _ _ _ ht hr)
 have h1:cs=[]:=by simpa using h1
 subst h1;subst h2;have:=(h _ _ _ ht .nil);cases this;exact .frzE _ _
theorem Vn(hT:pL T){cs cs':List Value}(h:is T cs cs'):TV T (FP cs) (FP cs'):=fun ρ ρ' x ht hv=>by
 obtain⟨_,_,b,off,c',e,fr,hB,rfl,hr⟩:=VR.fpInv (cs:=cs.toArray) hv;have hr:aJ ρ cs ((c'.toList.drop off).take cs.length):=by simpa using hr
 have hn:=Df h ht hr;exact .frp _ _ b off c' e fr (hT _ _ ht _ _ hB) rfl (by rw[hn];exact h _ _ _ ht hr)
theorem di(n:Nat){v:Value}(h:aO n v=true):dH v:=fun _ _=>ju n h
theorem gW:cV []:=fun _ _=>aR
theorem jB{v:Value}{l:List Value}(h:dH v)(hs:cV l):cV (v::l):=fun T hT=>au (h T hT) (hs T hT)
theorem su{a b:List Value}(h:cV a)(hs:cV b):cV (a++b):=fun T hT=>F3 (h T hT) (hs T hT)
theorem G1{l:List Value}(h:∀v∈l,dH v):cV l:=by
 induction l with
 |nil=>exact gW
 |cons v l ih=>exact jB (h v Yw) (ih fun u hu=>h u (YH _ hu))
theorem iu{α:Type}{f:α->List Value}(h:∀x,cV (f x)):∀l:List α,cV (l.flatMap f)
 |[]=>gW
 |x::l=>by rw[YB];exact su (h x) (iu h l)
theorem KF{cs:List Value}(h:cV cs):dH (.agg cs.toArray):=fun T hT=>Bk (h T hT)
theorem ww{cs:List Value}(h:cV cs):dH (.tuple cs.toArray):=fun T hT=>Ki (h T hT)
theorem FJ{t:TypeId}{v:Value}(h:dH v):dH (.iface t v):=fun T hT=>KP (h T hT)
theorem Ec{cs:List Value}{n:Nat}(h:cV cs):dH (FZ cs n):=fun T hT=>V5 hT (h T hT)
theorem M0{cs:List Value}(h:cV cs):dH (FP cs):=fun T hT=>Vn hT (h T hT)
theorem LM{c c':List Value}{e:TypeId}{fr:Nat×Nat}(hl:c'.length=c.length)(h:∀(j:Nat) (v':Value),c'[j]?=some v'->∃v,c[j]?=some v/\TV T v v'):TO P T (.cells c e fr) (.cells c' e fr):=fun ρ ρ' i ob ht ho=>by
 cases ho with
 |cells _ _ _ d fr' hz hr hk hll hv hf hq hm=>
  refine .cells _ _ _ _ _ hz (by rw[hl];exact hr) hk hll (fun j v' hj=>?_) hf hq hm;obtain⟨v,h1,h2⟩:=h j v' hj;obtain⟨u,q1,q2⟩:=hv j v h1;exact⟨u,q1,h2 _ _ _ ht q2⟩
inductive jO(T:RT):List MapEntry->List MapEntry->Prop
 |nil:jO T [] []
 |cons (e e':MapEntry) (l l':List MapEntry) (hk:TV T e.key e'.key) (hv:TV T e.val e'.val) (hb:e'.born=e.born) (hs:jO T l l'):jO T (e::l) (e'::l')
theorem jO.out{ρ ρ':Ren}(ht:T ρ ρ'):∀{l l':List MapEntry} {x:List MapEntry},jO T l l'->dS ρ l x->dS ρ' l' x
 |_,_,_,.nil,.nil=>.nil
 |_,_,_,.cons e e' l l' hk hv hb hs,.cons _ u _ us k1 k2 k3 k4=>.cons _ _ _ _ (hk _ _ _ ht k1) (hv _ _ _ ht k2) (by rw[k3,hb]) (hs.out ht k4)
theorem jO.bare(hT:pL T):∀{l:List MapEntry},(∀e∈l,dH e.key/\dH e.val)->jO T l l
 |[],_=>.nil
 |e::l,h=>.cons _ _ _ _ ((h e Yw).1 T hT) ((h e Yw).2 T hT) rfl (jO.bare hT fun u hu=>h u (YH _ hu))
theorem iw{es es':List MapEntry}{c:Nat}(h:jO T es es'):TO P T (.map es c) (.map es' c):=fun ρ ρ' i ob ht ho=>by
 cases ho with
 |map _ xs _ hx=>exact .map _ _ _ (h.out ht hx)
def FM(T:RT):aZ->aZ->Prop
 |.ret v,.ret v'=>TV T v v'
 |.pan v,.pan v'=>TV T v v'
 |_,_=>False
theorem FM.out{ρ ρ':Ren}(ht:T ρ ρ'){e e':aZ}{en:Ending}(h:FM T e e')(k:Ky ρ e en):Ky ρ' e' en:=by
 cases e<;>cases e'<;>first|exact h.elim|skip
 ·cases en<;>first|exact k.elim|exact h _ _ _ ht k
 cases en<;>first|exact k.elim|skip
 obtain⟨v',k1,k2⟩:=k;exact⟨v',h _ _ _ ht k1,k2⟩
inductive tU(T:RT):List b9->List b9->Prop
 |nil:tU T [] []
 |call (f:FuncId) (a c a' c':List Value) (l l':List b9) (h1:is T a a') (h2:is T c c') (h:tU T l l'):tU T (.call f a c::l) (.call f a' c'::l')
theorem tU.out{ρ ρ':Ren}(ht:T ρ ρ'):∀{l l':List b9} {x:List Deferred},tU T l l'->gl ρ l x->gl ρ' l' x
 |_,_,_,.nil,.nil=>.nil
 |_,_,_,.call f a c a' c' l l' h1 h2 h,.call _ _ _ xs cs _ _ k1 k2 k3=>.call _ _ _ _ _ _ _ (h1 _ _ _ ht k1) (h2 _ _ _ ht k2) (h.out ht k3)
def aL(θ:Nat->Option Nat):RT:=fun ρ ρ'=>(∀b o,ρ.fz b=some o->ρ'.fz b=some o)/\∀n m i,θ n=some m->ρ n=some i->ρ' m=some i
theorem aj{θ:Nat->Option Nat}:pL (aL θ):=fun ρ ρ' h=>h.1
variable {θ:Nat->Option Nat}
theorem bN{n o m:Nat}(h:θ n=some m):TV (aL θ) (.pointer (some ⟨n,o,none⟩)) (.pointer (some ⟨m,o,none⟩)):=fun ρ ρ' x ht hv=>by
 obtain⟨i,hr,rfl⟩:=hv.ptrInv;exact .ptr _ _ _ (ht.2 _ _ _ h hr)
theorem cz{n m:Nat}(h:θ n=some m):TV (aL θ) (.map (some n)) (.map (some m)):=fun ρ ρ' x ht hv=>by
 obtain⟨i,hr,rfl⟩:=hv.mapInv;exact .map _ _ (ht.2 _ _ _ h hr)
theorem ca{n o m l c:Nat}(h:θ n=some m):TV (aL θ) (.slice (some ⟨n,o,none⟩) l c) (.slice (some ⟨m,o,none⟩) l c):=fun ρ ρ' x ht hv=>by
 cases hv with
 |flat k v h=>cases k<;>simp[aO]at h
 |slice _ _ _ _ i hr hc=>exact .slice _ _ _ _ i (ht.2 _ _ _ h hr) hc
 |sliceO _ _ _ _ c' i hr hc hl h1 h2=>exact .sliceO _ _ _ _ _ i (ht.2 _ _ _ h hr) hc hl h1 h2
 |sliceE _ _ _ a i hr hc h1=>exact .sliceE _ _ _ _ i (ht.2 _ _ _ h hr) hc h1
 |sliceN=>exact .sliceN _ _
 |sliceZ _ _ a i hr=>exact .sliceZ _ _ _ i (ht.2 _ _ _ h hr)
end
section
variable {P:Program} {k:Nat} {s s':XS}
theorem lH(hf:∀t v,s'.fr.get t=some v->s.fr.get t=some v)(hw:∀n o,s'.W.get n=some o->s.W.get n=some o)(hn:s.W.next<=s'.W.next)(hd:s'.ds=s.ds):aX P k s s':=fun N ρ0 W0 w0 e ex a w h0 h1 h2 hc=>by
 obtain⟨ρ,⟨g1,g2,g3,g4⟩,g5,g6⟩:=hc;refine⟨ρ,⟨⟨g1.le,g1.keeps,fun b hb=>g1.img b (eX.sub hw hb),fun n hn'=>(g1.dom n hn').imp id fun⟨q1,q2⟩=>⟨q1,Zi q2 hn⟩,Nat.le_trans g1.next hn,g1.fzn⟩,g2.sub hw,⟨g3.size,fun t v e=>g3.rep t v (hf t v e)⟩,by rw[hd];exact g4⟩,fun n hn'=>g5 n (Nat.le_trans hn hn'),g6⟩
theorem u7(θ inv:Nat->Option Nat)(hθ:∀n m,θ n=some m->(m<k/\n=m)\/(k<=m/\inv m=some n))(hi:∀m n,inv m=some n->m<s'.W.next)(hkn:k<=s'.W.next)
 (hf:∀t v',s'.fr.get t=some v'->∃v,s.fr.get t=some v/\TV (aL θ) v v') (hw:∀m o',s'.W.get m=some o'->∃n o,θ n=some m/\s.W.get n=some o/\TO P (aL θ) o o') (hd:tU (aL θ) s.ds s'.ds):aX P k s s':=
 fun N ρ0 W0 w0 e ex a w h0 h1 h2 hc=>by
 obtain⟨ρ,⟨g1,g2,g3,g4⟩,g5,g6⟩:=hc;let ρ':Ren:=⟨fun m=>if m<k then ρ m else(inv m).bind ρ.nm,ρ.fz⟩
 have hlo:∀m,m<k->ρ' m=ρ m:=fun m h=>if_pos h
 have hhi:∀m,k<=m->ρ' m=(inv m).bind ρ.nm:=fun m h=>if_neg (by omega)
 have hat:∀n m,θ n=some m->ρ' m=ρ n:=fun n m h=>by
  rcases hθ n m h with⟨q1,rfl⟩|⟨q1,q2⟩
  ·exact hlo _ q1
  rw[hhi _ q1,q2];rfl
 have hT:aL θ ρ ρ':=⟨fun _ _ e=>e,fun n m i h hr=>by rw[hat n m h];exact hr⟩;have himg:∀b,eX ρ' s'.W.get b->eX ρ s.W.get b:=fun b ⟨m,i,q1,q2,q3⟩=>by
  cases e:s'.W.get m with
  |none=>exact absurd e q2
  |some o'=>
   obtain⟨n,o,r1,r2,_⟩:=hw m o' e;exact⟨n,i,by rw[<-hat n m r1];exact q1,by rw[r2];simp,q3⟩
 refine⟨ρ',⟨⟨⟨fun n i h=>?_,g1.le.fz⟩,g1.keeps,fun b hb=>g1.img b (himg b hb),fun m hm=>?_,by rw[h0];exact hkn,g1.fzn⟩,⟨fun m i o' q1 q2=>?_,fun m1 m2 i j q1 q2 q3 q4 q5=>?_,fun b o hb=>⟨(g2.frz b o hb).1,fun q=>(g2.frz b o hb).2 (himg b q)⟩⟩,⟨g3.size,fun t v' hv=>?_⟩,hd.out hT g4⟩,fun m hm=>?_,?_⟩
 ·have:n<k:=Nat.lt_of_not_le fun q=>by rw[h1 n q]at h;cases h
  rw[hlo n this];exact g1.le _ _ h
 ·rcases Yz m k with q|q
  ·rw[hlo m q]at hm;rcases g1.dom m hm with r|⟨r,_⟩
   ·exact .inl r
   rw[h0]at r;omega
  rw[hhi m q]at hm;cases e:inv m with
  |none=>rw[e]at hm;exact absurd rfl hm
  |some n=>exact .inr ⟨by rw[h0];exact q,hi m n e⟩
 ·obtain⟨n,o,r1,r2,r3⟩:=hw m o' q2;rw[hat n m r1]at q1;obtain⟨ob,p1,p2⟩:=g2.obj n i o q1 r2;exact⟨ob,p1,r3 _ _ _ _ hT p2⟩
 ·cases e1:s'.W.get m1 with
  |none=>exact absurd e1 q3
  |some o1=>
   cases e2:s'.W.get m2 with
   |none=>exact absurd e2 q4
   |some o2=>
    obtain⟨n1,p1,r1,r2,_⟩:=hw m1 o1 e1;obtain⟨n2,p2,t1,t2,_⟩:=hw m2 o2 e2;rw[hat n1 m1 r1]at q1;rw[hat n2 m2 t1]at q2;have:=g2.inj n1 n2 i j q1 q2 (by rw[r2];simp) (by rw[t2];simp) q5;subst this;rw[r1]at t1;exact Option.some.inj t1
 ·obtain⟨v,r1,r2⟩:=hf t v' hv;exact r2 _ _ _ hT (g3.rep t v r1)
 ·rw[hhi m (by omega)];cases e:inv m with
  |none=>rfl
  |some n=>have:=hi m n e;omega
 cases e<;>cases ex<;>first|exact g6|exact absurd rfl (h2 _)
def dq(n:Nat)(c:List Value):RT:=fun ρ ρ'=>(∀b o,ρ.fz b=some o->ρ'.fz b=some o)/\(∀m i,ρ m=some i->ρ' m=some i)/\∀i,ρ n=some i->∃c' e fr,ρ'.fz i.b=some (.cells c' e fr)/\uf ρ' i.s c c'
theorem gO{n:Nat}{c:List Value}{v:Value}:TV (dq n c) v v:=fun ρ ρ' x ht hv=>hv.mono ⟨ht.2.1,ht.1⟩
theorem uf.vrs{ρ:Ren}{s:Nat}{c:List Value}{c':Array Value}(h:uf ρ s c c')(o q:Nat):aJ ρ ((c.drop o).take q) ((c'.toList.drop (o+s)).take ((c.drop o).take q).length):=by
 obtain⟨us,h1,h2,h3⟩:=h.part o ((c.drop o).take q).length (by
  rw[Yk,Ym,Yk,Ym];omega)
 have e1:(c.drop o).take ((c.drop o).take q).length=(c.drop o).take q:=by
  rw[Yk];rcases Nat.le_total q (c.drop o).length with r|r
  ·rw[Zc r]
  rw[Nat.min_eq_right r,List.take_length,List.take_of_length_le r]
 rw[e1]at h2;have e2:us=(c'.toList.drop (o+s)).take ((c.drop o).take q).length:=by
  refine Zb fun j=>?_
  rcases Yz j us.length with r|r
  ·have:=h3 j us[j] (Yl r);rw[<-YP]at this;rw[YT,if_pos (by omega),Y1,YX o s,this];exact Yl r
  rw[YA r,YT,if_neg (by omega)]
 rw[<-e2];exact h2
theorem oC{n o len cap q:Nat}{c:List Value}(hq:len<=cap)(hq0:len=0->q=0):TV (dq n c) (.slice (some ⟨n,o,none⟩) len cap) (FZ ((c.drop o).take q) len):=fun ρ ρ' x ht hv=>by
 obtain⟨rfl,_,rfl⟩|⟨i,hr,hcase⟩:=hv.sliceOr
 ·rw[hq0 rfl,List.take_zero];exact .frzE _ _
 obtain⟨c',e,fr,hB,hrow⟩:=ht.2.2 i hr;have main:∀cap',len<=cap'->VR ρ' (FZ ((c.drop o).take q) len) (.slice (some ⟨i.b,o+i.s,none⟩) len cap'):=fun cap' hl=>
  .frz _ _ _ _ _ _ c' e fr hB hl rfl (hrow.vrs o q)
 rcases hcase with⟨_,rfl⟩|⟨_,c2,rfl,h1,_⟩|⟨_,h1,h2,a,rfl⟩|⟨h0,h1,a,rfl⟩
 ·exact main _ hq
 ·exact main _ h1
 ·subst h1;rw[hq0 rfl,List.take_zero];exact .frzE _ _
 subst h1;rw[hq0 rfl,List.take_zero];exact .frzE _ _
theorem EA{n o q:Nat}{c:List Value}:TV (dq n c) (.pointer (some ⟨n,o,none⟩)) (FP ((c.drop o).take q)):=fun ρ ρ' x ht hv=>by
 obtain⟨i,hr,rfl⟩:=hv.ptrInv;obtain⟨c',e,fr,hB,hrow⟩:=ht.2.2 i hr;exact .frp _ _ _ _ c' e fr hB rfl (hrow.vrs o q)
theorem jT(n:Nat){c:List Value}{e:TypeId}{fr:Nat×Nat}(hg:s.W.get n=some (.cells c e fr))(hn:s'.W.get n=none)(hnx:s.W.next<=s'.W.next)
 (hf:∀t v',s'.fr.get t=some v'->∃v,s.fr.get t=some v/\TV (dq n c) v v') (hw:∀m o',s'.W.get m=some o'->∃o,s.W.get m=some o/\TO P (dq n c) o o') (hd:tU (dq n c) s.ds s'.ds):aX P k s s':=
 fun N ρ0 W0 w0 ex0 ex a w h0 h1 h2 hc=>by
 obtain⟨ρ,⟨g1,g2,g3,g4⟩,g5,g6⟩:=hc;cases hr:ρ n with
 |none=>
  have hT:dq n c ρ ρ:=⟨fun _ _ e=>e,fun _ _ e=>e,fun i e=>by rw[hr]at e;cases e⟩;have himg:∀b,eX ρ s'.W.get b->eX ρ s.W.get b:=fun b ⟨m,i,q1,q2,q3⟩=>by
   cases e:s'.W.get m with
   |none=>exact absurd e q2
   |some o'=>
    obtain⟨o,r1,_⟩:=hw m o' e;exact⟨m,i,q1,by rw[r1];simp,q3⟩
  have hup:∀m,s'.W.get m≠none->s.W.get m≠none:=fun m q=>by
   cases e:s'.W.get m with
   |none=>exact absurd e q
   |some o'=>obtain⟨o,r1,_⟩:=hw m o' e;rw[r1];simp
  refine⟨ρ,⟨⟨g1.le,g1.keeps,fun b hb=>g1.img b (himg b hb),fun m hm=>(g1.dom m hm).imp id fun⟨q1,q2⟩=>⟨q1,by omega⟩,Nat.le_trans g1.next hnx,g1.fzn⟩,⟨fun m i o' q1 q2=>?_,fun m1 m2 i j q1 q2 q3 q4 q5=>g2.inj m1 m2 i j q1 q2 (hup _ q3) (hup _ q4) q5,fun b o hb=>⟨(g2.frz b o hb).1,fun q=>(g2.frz b o hb).2 (himg b q)⟩⟩,⟨g3.size,fun t v' hv=>?_⟩,hd.out hT g4⟩,fun m hm=>g5 m (by omega),?_⟩
  ·obtain⟨o,r1,r2⟩:=hw m o' q2;obtain⟨ob,p1,p2⟩:=g2.obj m i o q1 r1;exact⟨ob,p1,r2 _ _ _ _ hT p2⟩
  ·obtain⟨v,r1,r2⟩:=hf t v' hv;exact r2 _ _ _ hT (g3.rep t v r1)
  cases ex0<;>cases ex<;>first|exact g6|exact absurd rfl (h2 _)
 |some i0=>
  obtain⟨ob,hb,ho⟩:=g2.obj n i0 _ hr hg;cases ho with
  |cells _ _ _ d fr' hz hrr hk hll hv hfz hq hm=>
   let ρ':Ren:=⟨ρ.nm,fun b=>if b=i0.b then some (.cells d e fr')else ρ.fz b⟩
   have hnot:∀o,ρ.fz i0.b=some o->False:=fun o e=>(g2.frz _ _ e).2 ⟨n,i0,hr,by rw[hg];simp,rfl⟩
   have hle:∀b o,ρ.fz b=some o->ρ'.fz b=some o:=fun b o e=>by
    show(if b=i0.b then _ else ρ.fz b)=_;rw[if_neg (fun q=>by subst q;exact hnot _ e)];exact e
   have hmono:∀{v x:Value},VR ρ v x->VR ρ' v x:=fun h=>h.mono (ρ:=ρ) (ρ':=ρ') ⟨fun _ _ e=>e,hle⟩
   have hT:dq n c ρ ρ':=⟨hle,fun _ _ e=>e,fun i e2=>by
    rw[hr]at e2;cases e2;refine⟨d,e,fr',if_pos rfl,fun j v hj=>?_⟩;obtain⟨v',r1,r2⟩:=hv j v hj;exact⟨v',r1,hmono r2⟩⟩
   have hup:∀m,s'.W.get m≠none->s.W.get m≠none:=fun m q=>by
    cases e:s'.W.get m with
    |none=>exact absurd e q
    |some o'=>obtain⟨o,r1,_⟩:=hw m o' e;rw[r1];simp
   have himg:∀b,eX ρ' s'.W.get b->eX ρ s.W.get b:=fun b ⟨m,i,q1,q2,q3⟩=>⟨m,i,q1,hup m q2,q3⟩
   refine⟨ρ',⟨⟨⟨g1.le.nm,fun b o q=>hle _ _ (g1.le.fz _ _ q)⟩,g1.keeps,fun b hb=>g1.img b (himg b hb),fun m hm=>(g1.dom m hm).imp id fun⟨q1,q2⟩=>⟨q1,by omega⟩,Nat.le_trans g1.next hnx,fun b o q=>?_⟩,⟨fun m i o' q1 q2=>?_,fun m1 m2 i j q1 q2 q3 q4 q5=>g2.inj m1 m2 i j q1 q2 (hup _ q3) (hup _ q4) q5,fun b o q=>?_⟩,⟨g3.size,fun t v' hv=>?_⟩,hd.out hT g4⟩,fun m hm=>g5 m (by omega),?_⟩
   ·by_cases hb2:b=i0.b
    ·subst hb2;exact .inr (g1.img _ ⟨n,i0,hr,by rw[hg];simp,rfl⟩)
    have q:(if b=i0.b then _ else ρ.fz b)=some o:=q;rw[if_neg hb2]at q;exact g1.fzn b o q
   ·obtain⟨o,r1,r2⟩:=hw m o' q2;obtain⟨ob,p1,p2⟩:=g2.obj m i o q1 r1;exact⟨ob,p1,r2 _ _ _ _ hT p2⟩
   ·by_cases hb2:b=i0.b
    ·subst hb2;have q:(if i0.b=i0.b then _ else ρ.fz i0.b)=some o:=q;rw[if_pos rfl]at q;cases q;refine⟨hb,fun⟨m,i,q1,q2,q3⟩=>?_⟩;have:=g2.inj m n i i0 q1 hr (hup m q2) (by rw[hg];simp) q3;subst this;exact q2 hn
    have q:(if b=i0.b then _ else ρ.fz b)=some o:=q;rw[if_neg hb2]at q;exact⟨(g2.frz b o q).1,fun q2=>(g2.frz b o q).2 (himg b q2)⟩
   ·obtain⟨v,r1,r2⟩:=hf t v' hv;exact r2 _ _ _ hT (g3.rep t v r1)
   cases ex0<;>cases ex<;>first|exact g6|exact absurd rfl (h2 _)
end
def aT(P:Program)(f:FuncId)(args:List Value)(W:XW)(S:aZ->XW->Prop):Prop:=
 ∀ρ args' w m,(∀n,W.next<=n->ρ n=none)->HR P ρ W.get w->aJ ρ args args'->CallsIn Fence.wide m P f args'.toArray w fun en w'=>∃e W',S e W'/\QF P ρ W w e W' en w'
structure EP(P:Program)(ν:Nat->Nat)(k:Nat)(W:XW)(θ:Nat->Option Nat)(eL:aZ)(WL:XW)(e:aZ)(W':XW):Prop where
 name:∀m x,θ m=some x->(m<k/\x=ν m)\/(k<=m/\W.next<=x/\x<W'.next)
 inj:∀m m' x,θ m=some x->θ m'=some x->m=m'
 obj:∀x o',W'.get x=some o'->(∃m o,θ m=some x/\WL.get m=some o/\TO P (aL θ) o o')\/(W.get x=some o'/\x<W.next/\∀m,m<k->ν m≠x)
 res:FM (aL θ) eL e
 next:W.next<=W'.next
theorem Jq{P:Program}{f:FuncId}{args argsL:List Value}{W WL:XW}{S T:aZ->XW->Prop}{k:Nat}(ν:Nat->Nat)(θc:Nat->Option Nat)(hk:WL.next=k)
 (hν:∀m m',m<k->m'<k->ν m=ν m'->m=m') (hlt:∀m,m<k->ν m<W.next) (hθ:∀n m,θc n=some m->m<k/\ν m=n)
 (hin:∀m oL,WL.get m=some oL->m<k/\∃o,W.get (ν m)=some o/\TO P (aL θc) o oL) (hargs:is (aL θc) args argsL)
 (hcall:aT P f argsL WL S) {ρ:Ren} {args':List Value} {w:World} {m:Nat} (hout:∀eL WL',S eL WL'->∃θ e W',T e W'/\cw ρ W.next W'.next/\EP P ν k W θ eL WL' e W')
 (hH:HR P ρ W.get w) (hA:aJ ρ args args'):CallsIn Fence.wide m P f args'.toArray w fun en w'=>∃e W',T e W'/\QF P ρ W w e W' en w':=by
 let ρL:Ren:=⟨fun m=>if m<k then ρ (ν m)else none,ρ.fz⟩
 have hlo:∀m,m<k->ρL m=ρ (ν m):=fun m h=>if_pos h
 have hhi:∀m,k<=m->ρL m=none:=fun m h=>if_neg (by omega)
 have hT:aL θc ρ ρL:=⟨fun _ _ e=>e,fun n m i h hr=>by
  obtain⟨q1,q2⟩:=hθ n m h;rw[hlo m q1,q2];exact hr⟩
 have himgL:∀b,eX ρL WL.get b->eX ρ W.get b:=fun b ⟨m,i,q1,q2,q3⟩=>by
  cases e:WL.get m with
  |none=>exact absurd e q2
  |some oL=>
   obtain⟨r1,o,r2,_⟩:=hin m oL e;exact⟨ν m,i,by rw[<-hlo m r1];exact q1,by rw[r2];simp,q3⟩
 have hHL:HR P ρL WL.get w:=⟨fun m i oL q1 q2=>by
  obtain⟨r1,o,r2,r3⟩:=hin m oL q2;rw[hlo m r1]at q1;obtain⟨ob,p1,p2⟩:=hH.obj _ i o q1 r2;exact⟨ob,p1,r3 _ _ _ _ hT p2⟩,fun m1 m2 i j q1 q2 q3 q4 q5=>by
  cases e1:WL.get m1 with
  |none=>exact absurd e1 q3
  |some o1=>
   cases e2:WL.get m2 with
   |none=>exact absurd e2 q4
   |some o2=>
    obtain⟨r1,p1,r2,_⟩:=hin m1 o1 e1;obtain⟨t1,p2,t2,_⟩:=hin m2 o2 e2;rw[hlo m1 r1]at q1;rw[hlo m2 t1]at q2;exact hν _ _ r1 t1 (hH.inj _ _ i j q1 q2 (by rw[r2];simp) (by rw[t2];simp) q5),fun b o q=>⟨(hH.frz b o q).1,fun q2=>(hH.frz b o q).2 (himgL b q2)⟩⟩
 refine CallsIn.mono (hcall ρL args' w m (fun n hn=>hhi n (by omega)) hHL (hargs _ _ _ hT hA)) fun en w' ⟨eL,WL',hS,ρL',g1,g2,g3⟩=>?_
 obtain⟨θ,e,W',hTe,hfr,hs⟩:=hout eL WL' hS;let inv:Nat->Option Nat:=fun x=>open Classical in if h:∃m,θ m=some x then some h.choose else none
 have hinv:∀m x,θ m=some x->inv x=some m:=fun m x h=>by
  have hex:∃m,θ m=some x:=⟨m,h⟩;show(open Classical in if h:∃m,θ m=some x then some h.choose else none)=some m;rw[dif_pos hex];exact congrArg some (hs.inj _ _ _ hex.choose_spec h)
 let ρ':Ren:=⟨fun x=>if W.next<=x/\x<W'.next then(inv x).bind ρL'.nm else ρ x,ρL'.fz⟩
 have hold:∀x,x<W.next->ρ' x=ρ x:=fun x h=>if_neg (by omega)
 have hnew:∀x,W.next<=x->x<W'.next->ρ' x=(inv x).bind ρL'.nm:=fun x h1 h2=>if_pos ⟨h1,h2⟩
 have hat:∀m x i,θ m=some x->ρL' m=some i->ρ' x=some i\/(m<k/\ρ x=none/\ρL m=none):=fun m x i h hr=>by
  rcases hs.name m x h with⟨q1,rfl⟩|⟨q1,q2,q3⟩
  ·cases hx:ρ (ν m)with
   |none=>exact .inr ⟨q1,rfl,by rw[hlo m q1];exact hx⟩
   |some j=>
    have:=g1.le m j (by rw[hlo m q1];exact hx);rw[hr]at this;cases this;left;rw[hold _ (hlt m q1)];exact hx
  left;rw[hnew x q2 q3,hinv m x h];exact hr
 have hat':∀m x i,θ m=some x->ρL' m=some i->ρ' x=some i:=fun m x i h hr=>by
  rcases hat m x i h hr with q|⟨q1,q2,q3⟩
  ·exact q
  exfalso;rcases g1.dom m (by rw[hr];simp)with r|⟨r,_⟩
  ·exact r q3
  omega
 have hT':aL θ ρL' ρ':=⟨fun _ _ e=>e,fun n m i h hr=>hat' n m i h hr⟩;have back:∀x i,ρ' x=some i->W'.get x≠none->(∃m o o',θ m=some x/\ρL' m=some i/\WL'.get m=some o/\W'.get x=some o'/\TO P (aL θ) o o')\/(ρ x=some i/\W.get x=W'.get x/\x<W.next/\∀m,m<k->ν m≠x):=fun x i q1 q2=>by
  cases e:W'.get x with
  |none=>exact absurd e q2
  |some o'=>
   rcases hs.obj x o' e with⟨m,o,r1,r2,r3⟩|⟨r1,r2,r3⟩
   ·left;refine⟨m,o,o',r1,?_,r2,rfl,r3⟩;rcases hs.name m x r1 with⟨p1,rfl⟩|⟨p1,p2,p3⟩
    ·rw[hold _ (hlt m p1)]at q1;exact g1.le m i (by rw[hlo m p1];exact q1)
    rw[hnew x p2 p3,hinv m x r1]at q1;exact q1
   exact .inr ⟨by rw[<-hold x r2];exact q1,r1,r2,r3⟩
 have apart:∀x i,ρ x=some i->W.get x≠none->(∀m,m<k->ν m≠x)->¬eX ρL WL.get i.b:=fun x i q1 q2 q3 ⟨m,j,r1,r2,r3⟩=>by
  cases e:WL.get m with
  |none=>exact absurd e r2
  |some oL=>
   obtain⟨t1,o,t2,_⟩:=hin m oL e;rw[hlo m t1]at r1;exact q3 m t1 (hH.inj _ _ j i r1 q1 (by rw[t2];simp) q2 r3)
 have apart':∀x i,ρ x=some i->W.get x≠none->(∀m,m<k->ν m≠x)->¬eX ρL' WL'.get i.b:=fun x i q1 q2 q3 q=>by
  rcases g1.img _ q with r|r
  ·exact apart x i q1 q2 q3 r
  have:=hH.live q1 q2;omega
 have himg:∀b,eX ρ' W'.get b->eX ρL' WL'.get b\/eX ρ W.get b:=fun b ⟨x,i,q1,q2,q3⟩=>by
  rcases back x i q1 q2 with⟨m,o,o',r1,r2,r3,_,_⟩|⟨r1,r2,_,_⟩
  ·exact .inl ⟨m,i,r2,by rw[r3];simp,q3⟩
  exact .inr ⟨x,i,r1,by rw[r2];exact q2,q3⟩
 refine⟨e,W',hTe,ρ',⟨⟨fun x i q=>?_,g1.le.fz⟩,g1.keeps.mono fun b _ hb=>himgL b hb,fun b hb=>?_,fun x hx=>?_,hs.next,fun b o q=>?_⟩,⟨fun x i o' q1 q2=>?_,fun x y i j q1 q2 q3 q4 q5=>?_,fun b o q=>⟨(g2.frz b o q).1,fun q2=>?_⟩⟩,hs.res.out hT' g3⟩
 ·show(if W.next<=x/\x<W'.next then _ else ρ x)=some i;by_cases hx:W.next<=x/\x<W'.next
  ·rw[hfr x hx.1 hx.2]at q;cases q
  rw[if_neg hx];exact q
 ·rcases himg b hb with q|q
  ·rcases g1.img b q with r|r
   ·exact .inl (himgL b r)
   exact .inr r
  exact .inl q
 ·by_cases hq:W.next<=x/\x<W'.next
  ·exact .inr hq
  have hx:(if W.next<=x/\x<W'.next then _ else ρ x)≠none:=hx;rw[if_neg hq]at hx;exact .inl hx
 ·exact(g1.fzn b o q).imp id (Or.imp (himgL b) id)
 ·rcases back x i q1 (by rw[q2];simp)with⟨m,o,o2,r1,r2,r3,r4,r5⟩|⟨r1,r2,r3,r4⟩
  ·rw[q2]at r4;cases r4;obtain⟨ob,p1,p2⟩:=g2.obj m i o r2 r3;exact⟨ob,p1,r5 _ _ _ _ hT' p2⟩
  rw[q2]at r2;obtain⟨ob,p1,p2⟩:=hH.obj x i o' r1 r2;refine⟨ob,g1.keeps.heap p1 (apart x i r1 (by rw[r2];simp) r4),?_⟩;have hle:ρ.le ρ':=⟨fun x i q=>by
   show(if W.next<=x/\x<W'.next then _ else ρ x)=some i;by_cases hx:W.next<=x/\x<W'.next
   ·rw[hfr x hx.1 hx.2]at q;cases q
   rw[if_neg hx];exact q,fun b o q=>g1.le.fz b o q⟩
  exact p2.mono hle
 ·rcases back x i q1 q3 with⟨m,o,o2,r1,r2,r3,r4,_⟩|⟨r1,r2,r3,r4⟩
  ·rcases back y j q2 q4 with⟨m',p,p2,t1,t2,t3,t4,_⟩|⟨t1,t2,t3,t4⟩
   ·have:=g2.inj m m' i j r2 t2 (by rw[r3];simp) (by rw[t3];simp) q5;subst this;rw[r1]at t1;exact Option.some.inj t1
   exact absurd ⟨m,i,r2,by rw[r3];simp,q5⟩ (apart' y j t1 (by rw[t2];exact q4) t4)
  rcases back y j q2 q4 with⟨m',p,p2,t1,t2,t3,t4,_⟩|⟨t1,t2,t3,t4⟩
  ·exact absurd ⟨m',j,t2,by rw[t3];simp,q5.symm⟩ (apart' x i r1 (by rw[r2];exact q3) r4)
  exact hH.inj x y i j r1 t1 (by rw[r2];exact q3) (by rw[t2];exact q4) q5
 obtain⟨x,i,p1,p2,p3⟩:=q2;rcases back x i p1 p2 with⟨m,o1,o2,r1,r2,r3,_,_⟩|⟨r1,r2,r3,r4⟩
 ·exact(g2.frz b o q).2 ⟨m,i,r2,by rw[r3];simp,p3⟩
 rcases g1.fzn b o q with t|t|t
 ·exact(hH.frz b o t).2 ⟨x,i,r1,by rw[r2];exact p2,p3⟩
 ·exact apart x i r1 (by rw[r2];exact p2) r4 (by rw[p3];exact t)
 have:=hH.live r1 (by rw[r2];exact p2);omega
theorem jq{P:Program}{f:FuncId}{args argsL:List Value}{W W' WL:XW}{e:aZ}{S:aZ->XW->Prop}{k:Nat}(ν:Nat->Nat)(θc:Nat->Option Nat)(hk:WL.next=k)
 (hν:∀m m',m<k->m'<k->ν m=ν m'->m=m') (hlt:∀m,m<k->ν m<W.next) (hθ:∀n m,θc n=some m->m<k/\ν m=n)
 (hin:∀m oL,WL.get m=some oL->m<k/\∃o,W.get (ν m)=some o/\TO P (aL θc) o oL) (hargs:is (aL θc) args argsL)
 (hcall:aT P f argsL WL S) (hout:∀eL WL',S eL WL'->∃θ,EP P ν k W θ eL WL' e W'):lX P f args W e W':=fun ρ args' w m hfr hH hA=>
 CallsIn.mono (Jq (T:=fun a b=>a=e/\b=W') ν θc hk hν hlt hθ hin hargs hcall (fun eL WL' hS=>by
  obtain⟨θ,hs⟩:=hout eL WL' hS;exact⟨θ,e,W',⟨rfl,rfl⟩,hfr,hs⟩) hH hA) fun en w' ⟨a,b,⟨h1,h2⟩,hq⟩=>by subst h1;subst h2;exact hq
theorem SW{P:Program}{f:FuncId}{args argsL:List Value}{W WL:XW}{S T:aZ->XW->Prop}{k:Nat}(ν:Nat->Nat)(θc:Nat->Option Nat)(hk:WL.next=k)
 (hν:∀m m',m<k->m'<k->ν m=ν m'->m=m') (hlt:∀m,m<k->ν m<W.next) (hθ:∀n m,θc n=some m->m<k/\ν m=n)
 (hin:∀m oL,WL.get m=some oL->m<k/\∃o,W.get (ν m)=some o/\TO P (aL θc) o oL) (hargs:is (aL θc) args argsL)
 (hcall:aT P f argsL WL S) (hout:∀eL WL',S eL WL'->∃θ e W',T e W'/\EP P ν k W θ eL WL' e W'):aT P f args W T:=fun ρ args' w m hfr hH hA=>
 Jq ν θc hk hν hlt hθ hin hargs hcall (fun eL WL' hS=>by
  obtain⟨θ,e,W',h1,hs⟩:=hout eL WL' hS;exact⟨θ,e,W',h1,fun n h _=>hfr n h,hs⟩) hH hA
def pm{α:Type}(t:PT α):List (Nat×Option α)->PT α
 |[]=>t
 |(n,x)::l=>(pm t l).set n x
def lk{α:Type}:List (Nat×Option α)->Nat->Option α
 |[],_=>none
 |(n,x)::l,m=>if n=m then x else lk l m
theorem rx{α:Type}:∀(k n:Nat),n+1<2^k->(PT.full k:PT α).room n=true
 |0,n,h=>by simp at h
 |k+1,n,h=>by
  have h2:2^(k+1)=2*2^k:=by rw[Nat.pow_succ];omega
  unfold PT.full PT.room;by_cases h0:n=0
  ·subst h0;rfl
  rw[fi h0,cond_false];by_cases h1:n%2=1
  ·rw[show Nat.beq (n%2) 1=true by rw[h1];rfl,cond_true];exact rx k _ (by omega)
  rw[fi h1,cond_false];exact rx k _ (by omega)
theorem DD{α:Type}{t:PT α}{n:Nat}:∀l:List (Nat×Option α),(pm t l).room n=t.room n
 |[]=>rfl
 |(m,x)::l=>by rw[pm,PT.room_set,DD l]
theorem Bu{α:Type}{k n:Nat}(h:n+1<2^k):∀l:List (Nat×Option α),(pm (PT.full k) l).get n=lk l n
 |[]=>PT.get_full k n
 |(m,x)::l=>by
  unfold pm lk;by_cases e:m=n
  ·subst e;rw[if_pos rfl,PT.get_set_room,DD,rx k m h,if_pos rfl]
  rw[if_neg e,PT.get_set_ne _ _ _ _ (fun q=>e q.symm)];exact Bu h l
def an(F:List (Nat×Option Value)):XF:=pm (PT.full 9) F
def wd(L:List (Nat×Option ag))(n:Nat)(lg:List Nat)(nl:Nat):XW:=⟨pm (PT.full 14) L,n,lg,nl⟩
theorem fg{F:List (Nat×Option Value)}{t:Nat}(h:t<511):(an F).get t=lk F t:=Bu (by omega) F
theorem ae{L:List (Nat×Option ag)}{n nl m:Nat}{lg:List Nat}(h:m<n)(h2:m<16383):(wd L n lg nl).get m=lk L m:=by
 rw[XW.get_lt (show m<(wd L n lg nl).next from h)];exact Bu (by omega) L
theorem jS{L:List (Nat×Option ag)}{n nl m:Nat}{lg:List Nat}{o:Option ag}:(wd L n lg nl).put m o=wd ((m,o)::L) n (m::lg) (nl+1):=rfl
theorem fx{L:List (Nat×Option ag)}{n nl:Nat}{lg:List Nat}{o:ag}:(wd L n lg nl).push o=wd ((n,some o)::L) (n+1) lg nl:=rfl
theorem cU{L:List (Nat×Option ag)}{n nl:Nat}{lg:List Nat}:(wd L n lg nl).next=n:=rfl
theorem ab{α:Type}{n:Nat}{x:Option α}{l:List (Nat×Option α)}:lk ((n,x)::l) n=x:=if_pos rfl
theorem aa{α:Type}{n m:Nat}{x:Option α}{l:List (Nat×Option α)}(h:n≠m):lk ((n,x)::l) m=lk l m:=if_neg h
theorem cR{α:Type}{m:Nat}:lk ([]:List (Nat×Option α)) m=none:=rfl
def bA:Nat->List Value->List (Nat×Option Value)->List (Nat×Option Value)
 |_,[],F=>F
 |n,v::l,F=>bA (n+1) l ((n,some v)::F)
theorem ve:∀(l:List Value) (n:Nat) (F:List (Nat×Option Value)),vY (an F) n l=an (bA n l F)
 |[],n,F=>rfl
 |v::l,n,F=>ve l (n+1) ((n,some v)::F)
theorem JT(l:List Value):xu l=an (bA 0 l []):=ve l 0 []
theorem Ss{F:List (Nat×Option Value)}{t:Nat}(h:t<511):ev (an F) (.tmp t)=lk F t:=fg h
theorem cu{N:Nat}{F:List (Nat×Option Value)}{t:Nat}{v:Option Value}(h:t<N):cO N (an F) (some t) v=some (an ((t,v)::F)):=by
 show(bif Nat.blt t N then some ((an F).set t v)else none)=_;rw[lj h];rfl
theorem GF{N:Nat}{fr:XF}{v:Option Value}:cO N fr none v=some fr:=rfl
section
variable {P:Program} {t:TypeId} {x y:Operand} {k:IntKind} {a b:Int}
theorem OM:dM P .add t x y (some (.int k a)) (some (.int k b))=some (.val (some (.int k (k.wrap (a+b))))):=by cases k<;>rfl
theorem Nn:dM P .sub t x y (some (.int k a)) (some (.int k b))=some (.val (some (.int k (k.wrap (a-b))))):=by cases k<;>rfl
theorem Ny:dM P .mul t x y (some (.int k a)) (some (.int k b))=some (.val (some (.int k (k.wrap (a*b))))):=by cases k<;>rfl
theorem M6:dM P .lss t x y (some (.int k a)) (some (.int k b))=some (.val (some (.bool (decide (a<b))))):=by cases k<;>rfl
theorem M4:dM P .leq t x y (some (.int k a)) (some (.int k b))=some (.val (some (.bool (decide (a<=b))))):=by cases k<;>rfl
theorem NS:dM P .gtr t x y (some (.int k a)) (some (.int k b))=some (.val (some (.bool (decide (b<a))))):=by cases k<;>rfl
theorem N0:dM P .geq t x y (some (.int k a)) (some (.int k b))=some (.val (some (.bool (decide (b<=a))))):=by cases k<;>rfl
theorem NX:dM P .eql t x y (some (.int k a)) (some (.int k b))=some (.val (some (.bool (a==b)))):=by cases k<;>rfl
theorem Pk:dM P .neq t x y (some (.int k a)) (some (.int k b))=some (.val (some (.bool (a !=b)))):=by cases k<;>rfl
def pG(op:BinOp)(k:IntKind)(a b:Int):Int:=match op with
 |.and=>k.wrap (BitVec.ofInt k.bits a &&& BitVec.ofInt k.bits b).toNat
 |.or=>k.wrap (BitVec.ofInt k.bits a ||| BitVec.ofInt k.bits b).toNat
 |_=>k.wrap (BitVec.ofInt k.bits a ^^^ BitVec.ofInt k.bits b).toNat
theorem PM:dM P .and t x y (some (.int k a)) (some (.int k b))=some (.val (some (.int k (pG .and k a b)))):=by cases k<;>rfl
theorem Te:dM P .or t x y (some (.int k a)) (some (.int k b))=some (.val (some (.int k (pG .or k a b)))):=by cases k<;>rfl
theorem OJ:dM P .xor t x y (some (.int k a)) (some (.int k b))=some (.val (some (.int k (pG .xor k a b)))):=by cases k<;>rfl
theorem mN{op:BinOp}{u v:Value}(hu:bZ u=true)(hv:bZ v=true):dM P op t x y (some u) (some v)=kX (aD P (n8 op t x y u v)):=by
 unfold dM;simp only[hu,hv,Bool.and_true,cond_true]
theorem Pv(hb:b≠0):dM P .rem t x y (some (.int k a)) (some (.int k b))=some (.val (some (.int k (a.tmod b)))):=by
 have:aD P (n8 .rem t x y (.int k a) (.int k b))=aD P (Op.intDiv .rem k a b):=by cases k<;>rfl
 rw[mN rfl rfl,this];unfold Op.intDiv;rw[if_neg hb];rfl
theorem PG(hb:b≠0):dM P .quo t x y (some (.int k a)) (some (.int k b))=some (.val (some (.int k (k.wrap (a.tdiv b))))):=by
 have:aD P (n8 .quo t x y (.int k a) (.int k b))=aD P (Op.intDiv .quo k a b):=by cases k<;>rfl
 rw[mN rfl rfl,this];unfold Op.intDiv;rw[if_neg hb];rfl
theorem OP{k':IntKind}(hb:0<=b):dM P .shl t x y (some (.int k a)) (some (.int k' b))=some (.val (some (.int k (k.wrap (a*2^(min b.toNat k.bits)))))):=by
 have:aD P (n8 .shl t x y (.int k a) (.int k' b))=aD P (Op.shift .shl k a k' b):=by cases k<;>cases k'<;>rfl
 rw[mN rfl rfl,this];unfold Op.shift;rw[if_neg (by omega)];rfl
theorem Nm{k':IntKind}(hb:0<=b):dM P .shr t x y (some (.int k a)) (some (.int k' b))=some (.val (some (.int k (a.fdiv (2^(min b.toNat k.bits)))))):=by
 have:aD P (n8 .shr t x y (.int k a) (.int k' b))=aD P (Op.shift .shr k a k' b):=by cases k<;>cases k'<;>rfl
 rw[mN rfl rfl,this];unfold Op.shift;rw[if_neg (by omega)];rfl
theorem Ql{b:Bool}:zf P .not (some (.bool b))=some (.val (some (.bool (!b)))):=rfl
theorem Rl:zf P .neg (some (.int k a))=some (.val (some (.int k (k.wrap (0-a))))):=rfl
theorem SL:zf P .xor (some (.int k a))=some (.val (some (.int k (pG .xor k (if k.signed then -1 else k.max) a)))):=by cases k<;>rfl
theorem wv(l m:List UInt8):((str l).toList==(str m).toList)=decide (l=m):=by
 rw[vj,vj];by_cases h:l=m
 ·subst h;simp
 simp[h]
theorem MX{l m:List UInt8}:dM P .eql t x y (some (.string (str l))) (some (.string (str m)))=some (.val (some (.bool (decide (l=m))))):=by
 rw[<-wv];rfl
theorem OB{l m:List UInt8}:dM P .neq t x y (some (.string (str l))) (some (.string (str m)))=some (.val (some (.bool (!decide (l=m))))):=by
 rw[<-wv];rfl
theorem ig(l m:List UInt8):str l++str m=str (l++m):=by
 apply ByteArray.ext;simp[str]
theorem J6{l m:List UInt8}(h:l.length+m.length<9223372036854775808):dM P .add t x y (some (.string (str l))) (some (.string (str m)))=some (.val (some (.string (str (l++m))))):=by
 have:aD P (n8 .add t x y (.string (str l)) (.string (str m)))=aD P (Op.stringOp .add (str l) (str m)):=rfl;rw[mN rfl rfl,this];unfold Op.stringOp;have h2:¬((((str l).size+(str m).size:Nat):Int)>IntKind.i64.max):=by
  rw[dy,dy];have:IntKind.i64.max=9223372036854775807:=by decide
  omega
 simp only[if_neg h2];rw[ig];rfl
theorem eW{u:TypeId}{d:TypeDesc}(h:P.underlying u=some d):aD P (Go.underlying u)=some d:=by
 show aD P (match P.underlying u with|some d=>pure d|none=>stuck "no such type")=_;rw[h];rfl
theorem lW{s d:TypeId}{k1 k':IntKind}{W:XW}(hs:P.underlying s=some (.int k1))(hd:P.underlying d=some (.int k)):iV P W s d (some (.int k' a)) (some (.int k1)) (some (.int k))=some (.val (some (.int k (k.wrap a)))):=by
 have:aD P (Go.convert s d (.int k' a))=some (.int k (k.wrap a)):=by unfold Go.convert;show aD P (Sem.bind _ _)=_;rw[jt,eW hs,Option.bind_some];show aD P (Sem.bind _ _)=_;rw[jt,eW hd,Option.bind_some];rfl
 show qI P s d (some (.int k' a))=_;unfold qI;simp only[show bZ (Value.int k' a)=true from rfl,cond_true,this];rfl
theorem wrap_i64{n:Int}(h1:-9223372036854775808<=n)(h2:n<9223372036854775808):IntKind.i64.wrap n=n:=by rw[IntKind.wrap_i64];omega
theorem wrap_u64{n:Int}(h1:0<=n)(h2:n<18446744073709551616):IntKind.u64.wrap n=n:=by rw[IntKind.wrap_u64];omega
theorem wrap_u8{n:Int}(h1:0<=n)(h2:n<256):IntKind.u8.wrap n=n:=by rw[IntKind.wrap_u8];omega
end
theorem Lh{k:IntKind}{n:Int}:aO 8 (.int k n)=true:=rfl
theorem IQ{b:Bool}:aO 8 (.bool b)=true:=rfl
theorem Kf{b:ByteArray}:aO 8 (.string b)=true:=rfl
theorem GT:aO 8 .nilIface=true:=rfl
theorem Id:aO 8 .nilFunc=true:=rfl
theorem F7{l c:Nat}:aO 8 (.slice none l c)=true:=rfl
theorem Hi:aO 8 (.pointer none)=true:=rfl
theorem Gg:aO 8 (.map none)=true:=rfl
theorem G9{n:Nat}:goInt (n:Int)=.int .i64 (n:Int):=rfl
theorem CM(l:List UInt8)(a b:Nat):(str l).extract a b=str ((l.take b).drop a):=by
 apply ByteArray.ext;rw[ByteArray.data_extract];show l.toArray.extract a b=((l.take b).drop a).toArray;rw[List.extract_toArray,List.extract_eq_take_drop,List.drop_take]
theorem nk{a b:Nat}(h:a<=b):Nat.ble a b=true:=Zj h
theorem s8{a b:Nat}(h:b<a):Nat.ble a b=false:=by
 cases e:Nat.ble a b with
 |false=>rfl
 |true=>have:=Nat.le_of_ble_eq_true e;omega
theorem Wf{a b:Nat}(h:a=b):Nat.beq a b=true:=by subst h;exact YC a
theorem V3{p:Prop}[Decidable p](h:p):decide p=true:=decide_eq_true h
theorem Vb{p:Prop}[Decidable p](h:¬p):decide p=false:=decide_eq_false h
theorem Mh{a b:Int}(h:a=b):(a==b)=true:=by subst h;simp
theorem Ms{a b:Int}(h:a≠b):(a==b)=false:=by simpa using h
theorem Vv{a b:Int}(h:a≠b):(a !=b)=true:=by simpa using h
theorem U9{a b:Int}(h:a=b):(a !=b)=false:=by subst h;simp
theorem NT{k:IntKind}{n:Int}:de (.int k n)=true:=rfl
theorem LO{b:Bool}:de (.bool b)=true:=rfl
theorem yb{b:ByteArray}:de (.string b)=true:=rfl
theorem OV{a:Option Addr}:de (.pointer a)=true:=rfl
theorem GK{a:Option Addr}{l c:Nat}:de (.slice a l c)=true:=rfl
theorem Nr{r:Option Nat}:de (.map r)=true:=rfl
theorem JN{f:Fn}{a c:Array Value}:de (.func f a c)=true:=rfl
theorem Ka:de .nilFunc=true:=rfl
theorem Gr{t:TypeId}{v:Value}:de (.iface t v)=true:=rfl
theorem J4:de .nilIface=true:=rfl
theorem Ud{cs:List Value}{n:Nat}:de (FZ cs n)=true:=rfl
theorem T5{cs:List Value}:de (FP cs)=true:=rfl
theorem HJ:s6 []=.tuple #[]:=rfl
theorem I7{a b:Value}{l:List Value}:s6 (a::b::l)=.tuple (a::b::l).toArray:=rfl
theorem uD{l:List UInt8}:(str l).data.toList=l:=rfl
theorem UF{α:Type}{x:α}{l:List α}:(x::l).take 1=[x]:=rfl
theorem Vi{α:Type}{x:α}{l:List α}:(x::l).drop 1=l:=rfl
theorem UD{fr:XF}{k:IntKind}:ev fr (.const (.int k 0))=some (.int k ((0:Nat):Int)):=rfl
theorem UC{fr:XF}{k:IntKind}:ev fr (.const (.int k 1))=some (.int k ((1:Nat):Int)):=rfl
theorem VY{fr:XF}{k:IntKind}:ev fr (.const (.int k 2))=some (.int k ((2:Nat):Int)):=rfl
theorem Vc{fr:XF}{k:IntKind}:ev fr (.const (.int k 3))=some (.int k ((3:Nat):Int)):=rfl
theorem U1{fr:XF}{k:IntKind}:ev fr (.const (.int k 4))=some (.int k ((4:Nat):Int)):=rfl
theorem U3{fr:XF}{k:IntKind}:ev fr (.const (.int k 5))=some (.int k ((5:Nat):Int)):=rfl
theorem V1{fr:XF}{k:IntKind}:ev fr (.const (.int k 6))=some (.int k ((6:Nat):Int)):=rfl
theorem U4{fr:XF}{k:IntKind}:ev fr (.const (.int k 7))=some (.int k ((7:Nat):Int)):=rfl
theorem VI{fr:XF}{k:IntKind}:ev fr (.const (.int k 8))=some (.int k ((8:Nat):Int)):=rfl
theorem Vh{fr:XF}{k:IntKind}:ev fr (.const (.int k 9))=some (.int k ((9:Nat):Int)):=rfl
theorem S7{fr:XF}{k:IntKind}:ev fr (.const (.int k 10))=some (.int k ((10:Nat):Int)):=rfl
theorem Un{fr:XF}{k:IntKind}:ev fr (.const (.int k 11))=some (.int k ((11:Nat):Int)):=rfl
theorem SG{fr:XF}{k:IntKind}:ev fr (.const (.int k 12))=some (.int k ((12:Nat):Int)):=rfl
theorem SM{fr:XF}{k:IntKind}:ev fr (.const (.int k 13))=some (.int k ((13:Nat):Int)):=rfl
theorem To{fr:XF}{k:IntKind}:ev fr (.const (.int k 14))=some (.int k ((14:Nat):Int)):=rfl
theorem SI{fr:XF}{k:IntKind}:ev fr (.const (.int k 15))=some (.int k ((15:Nat):Int)):=rfl
theorem Qk{fr:XF}{k:IntKind}:ev fr (.const (.int k 16))=some (.int k ((16:Nat):Int)):=rfl
theorem Sj{fr:XF}{k:IntKind}:ev fr (.const (.int k 20))=some (.int k ((20:Nat):Int)):=rfl
theorem R6{fr:XF}{k:IntKind}:ev fr (.const (.int k 26))=some (.int k ((26:Nat):Int)):=rfl
theorem QC{fr:XF}{k:IntKind}:ev fr (.const (.int k 30))=some (.int k ((30:Nat):Int)):=rfl
theorem Q4{fr:XF}{k:IntKind}:ev fr (.const (.int k 31))=some (.int k ((31:Nat):Int)):=rfl
theorem Tf{fr:XF}{k:IntKind}:ev fr (.const (.int k 32))=some (.int k ((32:Nat):Int)):=rfl
theorem R8{fr:XF}{k:IntKind}:ev fr (.const (.int k 33))=some (.int k ((33:Nat):Int)):=rfl
theorem SV{fr:XF}{k:IntKind}:ev fr (.const (.int k 48))=some (.int k ((48:Nat):Int)):=rfl
theorem RQ{fr:XF}{k:IntKind}:ev fr (.const (.int k 63))=some (.int k ((63:Nat):Int)):=rfl
theorem Qn{fr:XF}{k:IntKind}:ev fr (.const (.int k 64))=some (.int k ((64:Nat):Int)):=rfl
theorem Qp{fr:XF}{k:IntKind}:ev fr (.const (.int k 65))=some (.int k ((65:Nat):Int)):=rfl
theorem Sr{fr:XF}{k:IntKind}:ev fr (.const (.int k 97))=some (.int k ((97:Nat):Int)):=rfl
theorem PW{fr:XF}{k:IntKind}:ev fr (.const (.int k 126))=some (.int k ((126:Nat):Int)):=rfl
theorem PS{fr:XF}{k:IntKind}:ev fr (.const (.int k 127))=some (.int k ((127:Nat):Int)):=rfl
theorem PE{fr:XF}{k:IntKind}:ev fr (.const (.int k 128))=some (.int k ((128:Nat):Int)):=rfl
theorem Nk{fr:XF}{k:IntKind}:ev fr (.const (.int k 129))=some (.int k ((129:Nat):Int)):=rfl
theorem OF{fr:XF}{k:IntKind}:ev fr (.const (.int k 250))=some (.int k ((250:Nat):Int)):=rfl
theorem Ot{fr:XF}{k:IntKind}:ev fr (.const (.int k 255))=some (.int k ((255:Nat):Int)):=rfl
theorem Po{fr:XF}{k:IntKind}:ev fr (.const (.int k 256))=some (.int k ((256:Nat):Int)):=rfl
theorem NQ{fr:XF}{k:IntKind}:ev fr (.const (.int k 300))=some (.int k ((300:Nat):Int)):=rfl
theorem OC{fr:XF}{k:IntKind}:ev fr (.const (.int k 500))=some (.int k ((500:Nat):Int)):=rfl
theorem JL{fr:XF}{k:IntKind}:ev fr (.const (.int k 1000))=some (.int k ((1000:Nat):Int)):=rfl
theorem LV{fr:XF}{k:IntKind}:ev fr (.const (.int k 4000))=some (.int k ((4000:Nat):Int)):=rfl
theorem H3{fr:XF}{k:IntKind}:ev fr (.const (.int k 65535))=some (.int k ((65535:Nat):Int)):=rfl
theorem O0{fr:XF}{k:IntKind}{n:Nat}:ev fr (.const (.int k (Int.negSucc n)))=some (.int k (Int.negSucc n)):=rfl
theorem KK{fr:XF}{k:IntKind}{n:Int}:ev fr (.const (.int k (-n)))=some (.int k (-n)):=rfl
theorem Lx{fr:XF}{b:Bool}:ev fr (.const (.bool b))=some (.bool b):=rfl
theorem Nd{fr:XF}{b:ByteArray}:ev fr (.const (.string b))=some (.string (str b.data.toList)):=by
 have:str b.data.toList=b:=by apply ByteArray.ext;show b.data.toList.toArray=b.data;simp
 rw[this];rfl
theorem KA{fr:XF}:ev fr (.const .nilIface)=some .nilIface:=rfl
theorem Ks{fr:XF}:ev fr (.const .nilFunc)=some .nilFunc:=rfl
theorem Kk{fr:XF}:ev fr (.const (.pointer none))=some (.pointer none):=rfl
theorem LJ{fr:XF}:ev fr (.const (.map none))=some (.map none):=rfl
theorem LA{fr:XF}{a b:Nat}:ev fr (.const (.slice none a b))=some (.slice none a b):=rfl
theorem TY{fr:XF}{f:FuncId}:ev fr (.const (.func (.func f) #[] #[]))=some (.func (.func f) #[] #[]):=rfl
theorem NU{P:Program}{l:List UInt8}{k:IntKind}{i:Nat}(h:i<l.length):uz P (some .string) (some (.string (str l))) (some (.int k (i:Int)))=some (.val (some (.int .u8 ((l[i]).toNat:Int)))):=by
 show vt (str l).data.toList[i]?=_;rw[uD,Yl h];rfl
theorem G8(a b:Nat):(a:Int)+(b:Int)=((a+b:Nat):Int):=(Int.natCast_add a b).symm
theorem Jj(a b:Nat):(a:Int)*(b:Int)=((a*b:Nat):Int):=(Int.natCast_mul a b).symm
theorem I9(n:Nat):(2:Int)^n=((2^n:Nat):Int):=by simp
theorem EW(a b:Nat):(a:Int).tmod (b:Int)=((a%b:Nat):Int):=by rw[Int.tmod_eq_emod_of_nonneg (by omega)];rfl
theorem FA(a b:Nat):(a:Int).tdiv (b:Int)=((a/b:Nat):Int):=by rw[Int.tdiv_eq_ediv_of_nonneg (by omega)];rfl
theorem EM(a b:Nat):(a:Int).fdiv (b:Int)=((a/b:Nat):Int):=by rw[Int.fdiv_eq_ediv_of_nonneg _ (by omega)];rfl
theorem CY(a:Nat):(a:Int).toNat=a:=Yt a
theorem Ld:IntKind.u64.bits=64:=rfl
theorem LL:IntKind.i64.bits=64:=rfl
theorem NE:IntKind.u8.bits=8:=rfl
theorem UQ{a b:Nat}(h:a<=b):min a b=a:=Zc h
theorem Cc{e:TypeId}:kE (some (.slice e))=true:=rfl
theorem zA:kE (some .string)=true:=rfl
theorem CT:aN aH=true:=by decide
structure dX(P:Program)(H:cC):Prop where
 mixed:P.follows .mixedOrders=true
 sim:uR P H
section
variable {P:Program} {H:cC} {N k:Nat} {s s':XS} {e:gg} {Q:XQ}
theorem dX.simC(h:dX P H)(n:Nat):ja P (cd P H n):=(lY h.mixed h.sim (mB h.mixed) n).1
theorem aE(hB:dX P H){id:Nat}{ops:Array Oper}(h:fE P (cd P H 1) N none ops ops.toList s=some (.code e s'))(q:Q e s'):ay P N k (.region id ops false) s Q:=
 wP (hB.simC 2) (show cd P H 2 (.code N none (.region id ops false) s)=_ from h) q
theorem eu(hB:dX P H){id:Nat}{ops:Array Oper}{rs:List bJ}(h:aW P (cd P H 1) N none ops ops.toList s=some (rs,s'))(hk:jJ P ops s.ds.length rs=true)(q:Q .norm s'):ay P N k (.region id ops true) s Q:=
 wP (hB.simC 2) (show zF P ops s.ds.length (aW P (cd P H 1) N none ops ops.toList s)=some (.code .norm s') by rw[h];show(bif jJ P ops s.ds.length rs then _ else none)=_;rw[hk];rfl) q
theorem ri{c d:Code}{x:Operand}(hx:ev s.fr x=some (.bool true))(h:ay P N k c s Q):ay P N k (.cond x c d) s Q:=Ad hx h
theorem jW{c d:Code}{x:Operand}(hx:ev s.fr x=some (.bool false))(h:ay P N k d s Q):ay P N k (.cond x c d) s Q:=Ad (t:=false) hx h
theorem pb{f:FuncId}{args:List Value}{W:XW}:cd P H 1 (.call f args W)=qe P H (cd P H 0) f args W (H.call f):=rfl
theorem iy{α:Type}{f:FuncId}{h:α}{l:List (FuncId×α)}:jQ ((f,h)::l) f=some h:=by unfold jQ;rw[YC];rfl
theorem gw{α:Type}{f g:FuncId}{h:α}{l:List (FuncId×α)}(hn:f≠g):jQ ((g,h)::l) f=jQ l f:=by rw[jQ,fi hn];rfl
theorem dX.funk(hB:dX P H){f:FuncId}{args:List Value}{W W':XW}{e:aZ}(n:Nat)(h:cd P H n (.call f args W)=some (.fin e W')):lX P f args W e W':=fun ρ args' w m hfr hH hA=>
 ((lY hB.mixed hB.sim (mB hB.mixed) n).2.1 f args W e W' h).2 ρ args' w m hfr hH hA
theorem cy{f:FuncId}{fn:Func}{c:Code}{args:List Value}{W:XW}{Q:aZ->XW->Prop}(hB:dX P H)(hf:P.funcs[f]?=some fn)(hc:fn.body=some c)(hN:args.length<=fn.ntmps)
 (h:ay P fn.ntmps W.next c ⟨an (bA 0 args []),W,[]⟩ fun e s=>∃p e' W',ow e=some p/\nU P fn s.fr (dE H s.ds p s.W)=some (.fin e' W')/\Q e' W'):aT P f args W Q:=
 XC hB.sim hf hc hN (by rw[JT];exact h)
end
def gJ(P:Program)(o:ag):Prop:=∀T,pL T->TO P T o o
def qQ:aZ->Prop
 |.ret v=>dH v
 |.pan v=>dH v
theorem qQ.end{T:RT}(hT:pL T){e:aZ}(h:qQ e):FM T e e:=by
 cases e<;>exact h T hT
theorem aF{P:Program}{c:List Value}{e:TypeId}{fr:Nat×Nat}(h:cV c):gJ P (.cells c e fr):=fun T hT ρ ρ' i ob ht ho=>by
 cases ho with
 |cells _ _ _ d fr' hz hr hk hll hv hf hq hm=>
  have hrow:uf ρ i.s c d:=hv;obtain⟨us,h1,h2,h3⟩:=hrow.part 0 c.length (by simp);rw[List.drop_zero,List.take_length]at h2;have h4:=h T hT _ _ _ ht h2;refine .cells _ _ _ _ _ hz hr hk hll (fun j v hj=>?_) hf hq hm;obtain⟨u,q1,q2⟩:=h4.get j v hj;exact⟨u,by have:=h3 j u q1;rwa [Nat.add_zero]at this,q2⟩
def only(n:Nat):Nat->Option Nat:=fun x=>if x=n then some 0 else none
theorem yW{n:Nat}:only n n=some 0:=if_pos rfl
section
variable {P:Program} {f:FuncId} {args argsL:List Value} {W W':XW} {e:aZ} {S:aZ->XW->Prop}
theorem rN(hargs:cV args)(hcall:aT P f args (wd [] 0 [] 0) S)(hout:∀e' W',S e' W'->e'=e)(he:qQ e):lX P f args W e W:=
 jq (k:=0) (fun _=>0) (fun _=>none) rfl (fun m _ h=>by omega) (fun m h=>by omega) (fun n m h=>by cases h) (fun m oL h=>by rw[XW.get_ge (Yq _)]at h;cases h) (hargs _ aj) hcall
  fun eL WL' hS=>by
   refine⟨fun _=>none,fun m x h=>(by cases h),fun m m' x h h'=>(by cases h),fun x o' h=>.inr ⟨h,aM h,fun m hm=>by omega⟩,?_,Nat.le_refl _⟩;rw[hout _ _ hS];exact he.end aj
theorem BQ{n:Nat}{o o':ag}(hg:W.get n=some o)(ho:gJ P o)(hargs:is (aL (only n)) args argsL)(hcall:aT P f argsL (wd [(0,some o)] 1 [] 0) S)
 (hout:∀e' W',S e' W'->e'=e/\W'.get 0=some o') (ho':gJ P o') (he:qQ e):lX P f args W e (W.put n (some o')):=
 jq (k:=1) (fun _=>n) (only n) rfl (fun m m' h h' _=>by omega) (fun m h=>aM hg) (fun x m h=>by
  unfold only at h;split at h
  ·rename_i q;cases h;exact⟨by omega,q.symm⟩
  ·cases h) (fun m oL h=>by
  have hm:m<1:=aM h;have:m=0:=by omega
  subst this;rw[ae (by omega) (by omega),ab]at h;cases h;exact⟨by omega,o,hg,ho _ aj⟩) hargs hcall
  fun eL WL' hS=>by
   refine⟨fun m=>if m=0 then some n else none,fun m x h=>?_,fun m m' x h h'=>?_,fun x o2 h=>?_,?_,Nat.le_refl _⟩
   ·by_cases hm:m=0
    ·rw[if_pos hm]at h;cases h;exact .inl ⟨by omega,rfl⟩
    rw[if_neg hm]at h;cases h
   ·by_cases hm:m=0
    ·by_cases hm':m'=0
     ·omega
     rw[if_neg hm']at h';cases h'
    rw[if_neg hm]at h;cases h
   ·rcases XW.get_put h with⟨rfl,q⟩|⟨q1,q2⟩
    ·cases q;exact .inl ⟨0,o',if_pos rfl,(hout _ _ hS).2,ho' _ aj⟩
    exact .inr ⟨q2,aM q2,fun m hm=>fun q=>q1 q.symm⟩
   rw[(hout _ _ hS).1];exact he.end aj
end
theorem kP{P:Program}{f:FuncId}{fn:Func}{c:Code}(hf:P.funcs[f]?=some fn)(hc:fn.body=some c)(hn:gq fn=true):cT P f:=⟨fn,hf,hn,by rw[hc];rfl⟩
def cW{α:Type}(b:Nat)(F:List (Nat×Option α)):List (Nat×Option α)->Prop
 |[]=>True
 |(t,some v)::F'=>(t<b/\lk F t=some v)/\cW b F F'
 |(t,none)::F'=>cW b F F'
theorem cW.mem{α:Type}{b:Nat}{F:List (Nat×Option α)}:∀{F':List (Nat×Option α)},cW b F F'->∀t v,(t,some v)∈F'->t<b/\lk F t=some v
 |[],_,t,v,h=>by cases h
 |(t',some v')::F',h,t,v,hp=>by
  rcases List.mem_cons.1 hp with e|hp
  ·cases e;exact h.1
  exact cW.mem h.2 t v hp
 |(t',none)::F',h,t,v,hp=>by
  rcases List.mem_cons.1 hp with e|hp
  ·cases e
  exact cW.mem (F':=F') h t v hp
theorem bP{α:Type}{n:Nat}{v:α}:∀{l:List (Nat×Option α)},lk l n=some v->(n,some v)∈l
 |[],h=>by cases h
 |(m,x)::l,h=>by
  by_cases e:m=n
  ·subst e;rw[ab]at h;subst h;exact Yw
  rw[aa e]at h;exact YH _ (bP h)
theorem yc{α:Type}{k n:Nat}{v:α}:∀{l:List (Nat×Option α)},(pm (PT.full k) l).get n=some v->lk l n=some v
 |[],h=>by rw[pm,PT.get_full]at h;cases h
 |(m,x)::l,h=>by
  rcases PT.set_some h with⟨rfl,q⟩|⟨q1,q2⟩
  ·rw[ab];exact q
  rw[aa (fun e=>q1 e.symm)];exact yc q2
theorem fH{F:List (Nat×Option Value)}{t:Nat}{v:Value}(h:(an F).get t=some v):lk F t=some v:=yc h
theorem cq{L:List (Nat×Option ag)}{n nl m:Nat}{lg:List Nat}{o:ag}(h:(wd L n lg nl).get m=some o):m<n/\lk L m=some o:=by
 have hn:m<n:=aM h;rw[XW.get_lt (show m<(wd L n lg nl).next from hn)]at h;exact⟨hn,yc h⟩
theorem fy{P:Program}{k:Nat}{F F':List (Nat×Option Value)}{L L':List (Nat×Option ag)}{n n' nl nl':Nat}{lg lg':List Nat}{ds:List b9}(hF:cW 511 F F')(hL:cW (Nat.min n 16383) L L')(hn:n<=n') :
 aX P k ⟨an F,wd L n lg nl,ds⟩ ⟨an F',wd L' n' lg' nl',ds⟩:=by
 refine lH (fun t v h=>?_) (fun m o h=>?_) hn rfl
 ·obtain⟨h1,h2⟩:=hF.mem _ _ (bP (fH h));show(an F).get t=some v;rw[fg h1];exact h2
 obtain⟨h1,h2⟩:=hL.mem _ _ (bP (cq h).2);have h3:m<n:=Zi h1 (Nat.min_le_left _ _);have h4:m<16383:=Zi h1 (Nat.min_le_right _ _);show(wd L n lg nl).get m=some o;rw[ae h3 h4];exact h2
theorem yx(w n:Nat):BitVec.ofInt w (n:Int)=BitVec.ofNat w n:=by
 apply BitVec.eq_of_toNat_eq;rw[BitVec.toNat_ofInt,Zk];omega
theorem Rh{a y i:Nat}(h:a<2^i):a ||| (y*2^i)=a+y*2^i:=by
 have:=Nat.shiftLeft_add_eq_or_of_lt h y;rw[Nat.shiftLeft_eq]at this;rw[Nat.or_comm,<-this,YX]
theorem B3{e:TypeId}{l:List UInt8}:pQ e (some (.string (str l))) (some (.int .u8)) (some 1)=gr (.cells (ao l) e (1,1)) l.length aH:=by
 show gr (.cells (ao (str l).data.toList) e (1,1)) (str l).size aH=_;rw[uD,dy]
theorem pw{l:List UInt8}:(ao l).all de=true:=by
 rw[Zz];intro v hv;obtain⟨b,_,rfl⟩:=List.mem_map.1 hv;rfl
theorem yJ(l:List UInt8):cV (ao l):=G1 fun v hv=>by
 obtain⟨b,_,rfl⟩:=List.mem_map.1 hv;exact di 1 rfl
def cY(T:RT)(F:List (Nat×Option Value)):List (Nat×Option Value)->Prop
 |[]=>True
 |(t,v')::F'=>(∀w,v'=some w->t<511/\∃v,lk F t=some v/\TV T v w)/\cY T F F'
theorem cY.mem{T:RT}{F:List (Nat×Option Value)}:∀{F':List (Nat×Option Value)},cY T F F'->∀t w,(t,some w)∈F'->t<511/\∃v,lk F t=some v/\TV T v w
 |[],_,t,w,h=>by cases h
 |(t',v')::F',h,t,w,hp=>by
  rcases List.mem_cons.1 hp with e|hp
  ·cases e;exact h.1 w rfl
  exact h.2.mem t w hp
def fT(P:Program)(T:RT)(R:List (Nat×Option Nat))(n:Nat)(L:List (Nat×Option ag)):List (Nat×Option ag)->Prop
 |[]=>True
 |(m,o')::L'=>(∀w,o'=some w->∃x o,lk R x=some m/\x<n/\x<16383/\lk L x=some o/\TO P T o w)/\fT P T R n L L'
theorem fT.mem{P:Program}{T:RT}{R:List (Nat×Option Nat)}{n:Nat}{L:List (Nat×Option ag)}:∀{L':List (Nat×Option ag)},fT P T R n L L'->∀m w,(m,some w)∈L'->∃x o,lk R x=some m/\x<n/\x<16383/\lk L x=some o/\TO P T o w
 |[],_,t,w,h=>by cases h
 |(t',v')::F',h,t,w,hp=>by
  rcases List.mem_cons.1 hp with e|hp
  ·cases e;exact h.1 w rfl
  exact h.2.mem t w hp
def jZ(k n':Nat)(Ri:List (Nat×Option Nat)):List (Nat×Option Nat)->Bool
 |[]=>true
 |(n,some m)::R=>((decide (m<k)&&decide (n=m))||(decide (k<=m)&&decide (lk Ri m=some n)))&&jZ k n' Ri R
 |(n,none)::R=>false
theorem jZ.mem{k n':Nat}{Ri:List (Nat×Option Nat)}:∀{R:List (Nat×Option Nat)},jZ k n' Ri R=true->∀n m,(n,some m)∈R->(m<k/\n=m)\/(k<=m/\lk Ri m=some n)
 |[],_,n,m,h=>by cases h
 |(n0,some m0)::R,h,n,m,hp=>by
  unfold jZ at h;simp only[Yr,YR,decide_eq_true_eq]at h;rcases List.mem_cons.1 hp with e|hp
  ·cases e;exact h.1
  exact jZ.mem h.2 n m hp
 |(n0,none)::R,h,n,m,hp=>by cases h
theorem fA{P:Program}{k:Nat}{F F':List (Nat×Option Value)}{L L':List (Nat×Option ag)}{n n' nl nl':Nat}{lg lg':List Nat}{ds ds':List b9}(R Ri:List (Nat×Option Nat))(hR:jZ k n' Ri R=true)(hRi:∀p∈Ri,p.1<n')(hk:k<=n')
 (hF:cY (aL (lk R)) F F') (hL:fT P (aL (lk R)) R n L L') (hd:tU (aL (lk R)) ds ds'):aX P k ⟨an F,wd L n lg nl,ds⟩ ⟨an F',wd L' n' lg' nl',ds'⟩:=by
 refine u7 (lk R) (lk Ri) (fun x m h=>jZ.mem hR x m (bP h)) (fun m x h=>hRi _ (bP h)) hk (fun t v' h=>?_) (fun m o' h=>?_) hd
 ·obtain⟨h1,v,h2,h3⟩:=hF.mem t v' (bP (fH h));exact⟨v,by show(an F).get t=some v;rw[fg h1];exact h2,h3⟩
 obtain⟨x,o,h1,h2,h3,h4,h5⟩:=hL.mem m o' (bP (cq h).2);exact⟨x,o,h1,by show(wd L n lg nl).get x=some o;rw[ae h2 h3];exact h4,h5⟩
theorem wB{P:Program}{k:Nat}{F F':List (Nat×Option Value)}{L:List (Nat×Option ag)}{n nl:Nat}{lg:List Nat}{ds ds':List b9}(x:Nat){c:List Value}{e:TypeId}{fr:Nat×Nat}(hx:lk L x=some (.cells c e fr))(hn:x<n)(hn2:n<16383)
 (hF:cY (dq x c) F F') (L':List (Nat×Option ag)) (hL:∀m o',lk ((x,none)::L') m=some o'->m<n->∃o,lk L m=some o/\TO P (dq x c) o o') (hd:tU (dq x c) ds ds') :
 aX P k ⟨an F,wd L n lg nl,ds⟩ ⟨an F',wd ((x,none)::L') n lg nl,ds'⟩:=by
 refine jT x (c:=c) (e:=e) (fr:=fr) (by show(wd L n lg nl).get x=_;rw[ae hn (by omega)];exact hx) ?_ (Nat.le_refl _) (fun t v' h=>?_) (fun m o' h=>?_) hd
 ·show(wd ((x,none)::L') n lg nl).get x=none;rw[ae hn (by omega),ab]
 ·obtain⟨h1,v,h2,h3⟩:=hF.mem t v' (bP (fH h));exact⟨v,by show(an F).get t=some v;rw[fg h1];exact h2,h3⟩
 obtain⟨h1,h2⟩:=cq h;obtain⟨o,h3,h4⟩:=hL m o' h2 h1;exact⟨o,by show(wd L n lg nl).get m=some o;rw[ae h1 (by omega)];exact h3,h4⟩
theorem EF{P:Program}{k:Nat}{F:List (Nat×Option Value)}{L:List (Nat×Option ag)}{n nl:Nat}{lg:List Nat}(x m i:Nat){c d:List Value}{e e2:TypeId}{fr fr2:Nat×Nat}{len cap:Nat}{ds:List b9}(q:Nat)(hx:lk L x=some (.cells c e fr))(hm:lk L m=some (.cells d e2 fr2))
 (hi:d[i]?=some (.slice (some ⟨x,0,none⟩) len cap)) (hxm:x≠m) (hn:x<n) (hn2:n<16383) (hl:len<=cap) (hq:len=0->q=0) (hds:tU (dq x c) ds ds) :
 aX P k ⟨an F,wd L n lg nl,ds⟩ ⟨an F,wd ((x,none)::(m,some (.cells (d.set i (FZ (c.take q) len)) e2 fr2))::L) n lg nl,ds⟩:=by
 have key:∀m' o',lk ((x,none)::(m,some (ag.cells (d.set i (FZ (c.take q) len)) e2 fr2))::L) m'=some o'->∃o,lk L m'=some o/\TO P (dq x c) o o':=fun m' o' h=>?_
 ·refine jT x (c:=c) (e:=e) (fr:=fr) (by show(wd L n lg nl).get x=_;rw[ae hn (by omega)];exact hx) ?_ (Nat.le_refl _) (fun t v' h=>⟨v',h,gO⟩) (fun m' o' h=>?_) hds
  ·show(wd ((x,none)::_) n lg nl).get x=none;rw[ae hn (by omega),ab]
  obtain⟨h1,h2⟩:=cq h;obtain⟨o,h3,h4⟩:=key m' o' h2;exact⟨o,by show(wd L n lg nl).get m'=some o;rw[ae h1 (by omega)];exact h3,h4⟩
 by_cases e1:x=m'
 ·subst e1;rw[ab]at h;cases h
 rw[aa e1]at h;by_cases e2:m=m'
 ·subst e2;rw[ab]at h;cases h;refine⟨_,hm,LM (by simp) fun j v' hj=>?_⟩;by_cases hij:i=j
  ·subst hij;have hlt:i<d.length:=(List.getElem?_eq_some_iff.1 hi).1;rw[List.getElem?_set_self hlt]at hj;cases hj;refine⟨_,hi,?_⟩;have:=oC (n:=x) (o:=0) (c:=c) (q:=q) hl hq;rwa [List.drop_zero]at this
  rw[List.getElem?_set_ne hij]at hj;exact⟨v',hj,gO⟩
 rw[aa e2]at h;exact⟨o',h,fun ρ ρ' i ob ht ho=>ho.mono ⟨ht.2.1,ht.1⟩⟩
theorem oO{P:Program}{k:Nat}{F:List (Nat×Option Value)}{L:List (Nat×Option ag)}{n nl:Nat}{lg:List Nat}(x m i:Nat){c d:List Value}{e e2:TypeId}{fr fr2:Nat×Nat}{len cap:Nat}(q:Nat)(hx:lk L x=some (.cells c e fr))(hm:lk L m=some (.cells d e2 fr2))
 (hi:d[i]?=some (.slice (some ⟨x,0,none⟩) len cap)) (hxm:x≠m) (hn:x<n) (hn2:n<16383) (hl:len<=cap) (hq:len=0->q=0) :
 aX P k ⟨an F,wd L n lg nl,[]⟩ ⟨an F,wd ((x,none)::(m,some (.cells (d.set i (FZ (c.take q) len)) e2 fr2))::L) n lg nl,[]⟩:=EF x m i q hx hm hi hxm hn hn2 hl hq .nil
theorem dx{T:RT}{F:List (Nat×Option Value)}:cY T F []:=trivial
theorem bS{T:RT}{F F':List (Nat×Option Value)}{t:Nat}{v w:Value}(ht:t<511)(hl:lk F t=some v)(hv:TV T v w)(hs:cY T F F'):cY T F ((t,some w)::F'):=
 ⟨fun u e=>by cases e;exact⟨ht,v,hl,hv⟩,hs⟩
theorem gT{P:Program}{T:RT}{R:List (Nat×Option Nat)}{n:Nat}{L:List (Nat×Option ag)}:fT P T R n L []:=trivial
theorem bY{P:Program}{T:RT}{R:List (Nat×Option Nat)}{n m:Nat}{L L':List (Nat×Option ag)}{o w:ag}(x:Nat)(hR:lk R x=some m)(h1:x<n)(h2:x<16383)(hl:lk L x=some o)(ho:TO P T o w)(hs:fT P T R n L L'):fT P T R n L ((m,some w)::L'):=
 ⟨fun u e=>by cases e;exact⟨x,o,hR,h1,h2,hl,ho⟩,hs⟩
theorem ln{P:Program}{T:RT}{R:List (Nat×Option Nat)}{n m:Nat}{L L':List (Nat×Option ag)}(hs:fT P T R n L L'):fT P T R n L ((m,none)::L'):=
 ⟨fun u e=>(by cases e),hs⟩
theorem cg{P:Program}{T:RT}{c c':List Value}{e:TypeId}{fr:Nat×Nat}(h:is T c c'):TO P T (.cells c e fr) (.cells c' e fr):=fun ρ ρ' i ob ht ho=>by
 cases ho with
 |cells _ _ _ d fr' hz hr hk hll hv hf hq hm=>
  have hrow:uf ρ i.s c d:=hv;obtain⟨us,h1,h2,h3⟩:=hrow.part 0 c.length (by simp);rw[List.drop_zero,List.take_length]at h2;have h4:=h _ _ _ ht h2;have hl:c'.length=c.length:=by rw[<-h4.length,h2.length]
  refine .cells _ _ _ _ _ hz (by rw[hl];exact hr) hk hll (fun j v hj=>?_) hf hq hm;obtain⟨u,q1,q2⟩:=h4.get j v hj;exact⟨u,by have:=h3 j u q1;rwa [Nat.add_zero]at this,q2⟩
theorem bd{P:Program}{T:RT}{o:ag}(hT:pL T)(h:gJ P o):TO P T o o:=h T hT
theorem sE{P:Program}{H:cC}{N k:Nat}{s:XS}{Q:XQ}(hB:dX P H){id:Nat}{ops:Array Oper}{d:Code}(S:XS)(h:∃rs s',aW P (cd P H 1) N none ops ops.toList s=some (rs,s')/\jJ P ops s.ds.length rs=true/\aX P k s' S)(q:ay P N k d S Q) :
 ay P N k (.seq (.region id ops true) d) s Q:=by
 obtain⟨rs,s',h1,h2,h3⟩:=h;exact ak (eu hB h1 h2 (eD h3 q))
def jd(n:Nat):Nat->Value
 |0=>.slice none 0 0
 |k+1=>.slice (some ⟨n,0,none⟩) (k+1) aH
def eP(e:TypeId)(c:List Value):Nat->Option ag
 |0=>none
 |_+1=>some (.cells c e (0,0))
def QL(c:List Value):Nat->Value
 |0=>.slice none 0 0
 |k+1=>FZ c (k+1)
theorem Jl{c:List Value}(h:cV c):∀k,dH (QL c k)
 |0=>di 1 rfl
 |_+1=>Ec h
section
variable {P:Program} {R:XK} {N:Nat} {rd:Option Nat} {all:Array Oper} {dl:List Bool} {o:Oper} {l:List Oper} {s:XS}
end
section
variable {P:Program}
theorem EY{t:TypeId}{i:TypeInfo}(h:P.info? t=some i):aD P (typeInfo t)=some i:=by
 show aD P (match P.info? t with|some i=>pure i|none=>stuck "no such type")=_;rw[h];rfl
theorem vT{t:TypeId}{n:Nat}(h:(P.info? t).map (·.size)=some n):aD P (sizeOf t)=some n:=by
 cases hq:P.info? t with
 |none=>rw[hq]at h;cases h
 |some i=>
  rw[hq]at h;cases h;unfold sizeOf;rw[aV,EY hq];rfl
theorem tN{e:TypeId}{k:IntKind}(hue:P.underlying e=some (.int k)){c:Array Value}{i:Nat}{v:Value}(h:c[i]?=some v):aD P (part e c i)=some v:=by
 have hagg:aD P (isAgg e)=some false:=by unfold isAgg;rw[aV,eW hue];rfl
 unfold part;rw[aV,hagg];show aD P (match c[i]? with|some v=>pure v|none=>stuck "part: no such cell")=_;rw[h];rfl
def HW(c:List Value):Prop:=∀v∈c,∃j a,v=Value.int j a
theorem sK{c:List Value}(hi:HW c):bZ (.agg c.toArray)=true:=by
 show c.toArray.toList.all (aO 7)=true;rw[List.toList_toArray,Zz];intro v hv;obtain⟨j,a,rfl⟩:=hi v hv;rfl
theorem qJ(l:List UInt8):HW (ao l):=fun v hv=>by
 obtain⟨b,_,rfl⟩:=List.mem_map.1 hv;exact⟨_,_,rfl⟩
end
def F4(b:Nat):Option ag->Option Nat
 |some _=>some b
 |none=>none
structure ni(P:Program)(α:Type) where
 main:α->Nat->Nat->ag
 sat:α->Option ag
 hnd:ag->Option Nat
 hnd_eq:∀a w b,hnd (main a w b)=F4 b (sat a)
 inj:∀a a' w b,main a w b=main a' w b->sat a=sat a'->a=a'
 free:∀a w b b',sat a=none->main a w b=main a w b'
 ren:∀a w w' b b' (θ:Nat->Option Nat),θ w=some w'->(sat a≠none->θ b=some b')->TO P (aL θ) (main a w b) (main a w' b')
 bare:∀a o,sat a=some o->gJ P o
inductive Md where
 |rd
 |pl
 |mv
abbrev PP(α:Type):=List Value->α->Option (Value×α×Md)
section
variable {P:Program} {α:Type} {E:ni P α}
def qU(E:ni P α)(W:XW)(w b:Nat)(a:α):Prop:=W.get w=some (E.main a w b)/\∀o,E.sat a=some o->W.get b=some o/\w≠b
def wj(W:XW)(b:Nat):Option ag->XW
 |some _=>W.put b none
 |none=>W
def rY(E:ni P α)(W:XW)(w b:Nat)(a:α):Option (Value×α×Md)->Option (aZ×XW)
 |some (v,_,.rd)=>some (.ret v,W)
 |some (v,a',.pl)=>match E.sat a' with
  |some o=>some (.ret v,(W.put b (some o)).put w (some (E.main a' w b)))
  |none=>some (.ret v,(wj W b (E.sat a)).put w (some (E.main a' w 0)))
 |some (v,a',.mv)=>match E.sat a' with
  |some o=>some (.ret v,((wj W b (E.sat a)).push o).put w (some (E.main a' w W.next)))
  |none=>none
 |none=>none
open Classical in
noncomputable def qX(E:ni P α)(p:PP α):HF:=fun args W=>match args with
 |.pointer (some ⟨w,0,none⟩)::xs=>if h:∃a b,qU E W w b a then rY E W w (Classical.choose (Yu h)) (Classical.choose h) (p xs (Classical.choose h))else none
 |_=>none
theorem qU.uniq{W:XW}{w b b':Nat}{a a':α}(h:qU E W w b a)(k:qU E W w b' a'):a=a'/\(E.sat a≠none->b=b'):=by
 obtain⟨h1,h2⟩:=h;obtain⟨k1,k2⟩:=k;have hm:E.main a w b=E.main a' w b':=Option.some.inj (h1.symm.trans k1);have hh:F4 b (E.sat a)=F4 b' (E.sat a'):=by rw[<-E.hnd_eq a w b,<-E.hnd_eq a' w b',hm]
 cases hs:E.sat a with
 |none=>
  rw[hs]at hh;have hs':E.sat a'=none:=by
   cases e:E.sat a' with
   |none=>rfl
   |some _=>rw[e]at hh;cases hh
  exact⟨E.inj a a' w b' (by rw[<-E.free a w b b' hs];exact hm) (hs.trans hs'.symm),fun q=>absurd rfl q⟩
 |some o=>
  rw[hs]at hh;cases hs':E.sat a' with
  |none=>rw[hs']at hh;cases hh
  |some o'=>
   rw[hs']at hh;have hb:b=b':=Option.some.inj hh;subst hb;have:=(h2 o hs).1.symm.trans (k2 o' hs').1;exact⟨E.inj _ _ _ _ hm (by rw[hs,hs',Option.some.inj this]),fun _=>rfl⟩
theorem Vx{W:XW}{w b b':Nat}{a:α}(h:E.sat a≠none->b=b'){r:Option (Value×α×Md)}(hpl:∀v a',r=some (v,a',.pl)->E.sat a'≠none->E.sat a≠none):rY E W w b a r=rY E W w b' a r:=by
 cases hs:E.sat a with
 |some o=>rw[h (by rw[hs];simp)]
 |none=>
  match r,hpl with
  |none,_=>rfl
  |some (v,a',.rd),_=>rfl
  |some (v,a',.mv),_=>unfold rY;rw[hs];rfl
  |some (v,a',.pl),hpl=>
   have hn:E.sat a'=none:=by
    cases e:E.sat a' with
    |none=>rfl
    |some o=>exact absurd hs (hpl v a' rfl (by rw[e];simp))
   unfold rY;simp only[hn];rw[hs];rfl
theorem If{p:PP α}{xs:List Value}{W:XW}{w b:Nat}{a:α}(h:qU E W w b a)(hpl:∀v a',p xs a=some (v,a',.pl)->E.sat a'≠none->E.sat a≠none):qX E p (.pointer (some ⟨w,0,none⟩)::xs) W=rY E W w b a (p xs a):=by
 have hx:∃a b,qU E W w b a:=⟨a,b,h⟩;have e:qX E p (.pointer (some ⟨w,0,none⟩)::xs) W=rY E W w (Classical.choose (Yu hx)) (Classical.choose hx) (p xs (Classical.choose hx)):=dif_pos hx;rw[e];obtain⟨ha,hb⟩:=qU.uniq (Yu (Yu hx)) h;generalize Classical.choose (Yu hx)=b2 at hb ⊢;generalize Classical.choose hx=a2 at ha hb ⊢;subst ha;exact Vx hb hpl
theorem DB{p:PP α}{args:List Value}{W W':XW}{e:aZ}(h:qX E p args W=some (e,W')):∃w b a xs,args=.pointer (some ⟨w,0,none⟩)::xs/\qU E W w b a/\rY E W w b a (p xs a)=some (e,W'):=by
 unfold qX at h;split at h
 ·rename_i w xs;split at h
  ·rename_i hx;exact⟨w,_,_,xs,rfl,Yu (Yu hx),h⟩
  cases h
 cases h
def lw(E:ni P α)(a:α):XW:=match E.sat a with
 |some o=>wd [(0,some (E.main a 0 1)),(1,some o)] 2 [] 0
 |none=>wd [(0,some (E.main a 0 1))] 1 [] 0
def Qr(E:ni P α)(a a':α)(W':XW):Md->Prop
 |.rd=>W'.get 0=some (E.main a 0 1)/\∀o,E.sat a=some o->W'.get 1=some o
 |.pl=>W'.get 0=some (E.main a' 0 1)/\∀o,E.sat a'=some o->E.sat a≠none/\W'.get 1=some o
 |.mv=>∃b',(lw E a).next<=b'/\W'.get 0=some (E.main a' 0 b')/\∃o,E.sat a'=some o/\W'.get b'=some o
theorem xW{a:α}:(lw E a).next=(match E.sat a with|some _=>2|none=>1):=by
 unfold lw;split<;>rename_i h<;>simp only[h,cU]
theorem TG{a:α}{m:Nat}{o:ag}(h:(lw E a).get m=some o):(m=0/\o=E.main a 0 1)\/(m=1/\E.sat a=some o):=by
 unfold lw at h;split at h
 ·rename_i o' hs;have hm:m<2:=aM h;obtain⟨_,h2⟩:=cq h;have:m=0\/m=1:=by omega
  rcases this with rfl|rfl
  ·rw[ab]at h2;cases h2;exact .inl ⟨rfl,rfl⟩
  rw[aa (by decide),ab]at h2;cases h2;exact .inr ⟨rfl,hs⟩
 rename_i hs;have hm:m<1:=aM h;obtain⟨_,h2⟩:=cq h;have:m=0:=by omega
 subst this;rw[ab]at h2;cases h2;exact .inl ⟨rfl,rfl⟩
theorem Ej{W:XW}{b:Nat}{x:Option ag}{m:Nat}{o:ag}(h:(wj W b x).get m=some o):W.get m=some o/\(x≠none->m≠b):=by
 cases x
 ·exact⟨h,fun q=>absurd rfl q⟩
 rcases XW.get_put h with⟨_,z⟩|⟨z1,z2⟩
 ·cases z
 exact⟨z2,fun _=>z1⟩
theorem Dq(W:XW)(b:Nat)(x:Option ag):bu W (wj W b x):=by
 cases x
 ·exact .refl _
 exact .put _ _ _
theorem aT.mono{f:FuncId}{args:List Value}{W:XW}{S T:aZ->XW->Prop}(h:aT P f args W S)(k:∀e W',S e W'->T e W'):aT P f args W T:=fun ρ args' w m h1 h2 h3=>
 CallsIn.mono (h ρ args' w m h1 h2 h3) fun en w' ⟨e,W',q,r⟩=>⟨e,W',k e W' q,r⟩
theorem oK{f:FuncId}{xs:List Value}{W W':XW}{w b x2:Nat}{a a':α}{v:Value}(hat:qU E W w b a)(hx:cV xs)(hv:dH v)
 (hloc:aT P f (.pointer (some ⟨0,0,none⟩)::xs) (lw E a) fun e WL=>e=.ret v/\∃b',(E.sat a'≠none->(b'=1/\E.sat a≠none/\x2=b)\/((lw E a).next<=b'/\W.next<=x2/\x2<W'.next))/\WL.get 0=some (E.main a' 0 b')/\∀o,E.sat a'=some o->WL.get b'=some o)
 (hnext:W.next<=W'.next) (hobj:∀x o',W'.get x=some o'->(x=w/\o'=E.main a' w x2)\/(x=x2/\x≠w/\E.sat a'=some o')\/(W.get x=some o'/\x≠w/\(E.sat a≠none->x≠b))) :
 lX P f (.pointer (some ⟨w,0,none⟩)::xs) W (.ret v) W':=by
 obtain⟨hw,hs⟩:=hat;have hwn:=aM hw;have hne:E.sat a≠none->w≠b:=fun q=>by
  cases e:E.sat a with
  |none=>exact absurd e q
  |some o=>exact(hs o e).2
 have hbn:E.sat a≠none->b<W.next:=fun q=>by
  cases e:E.sat a with
  |none=>exact absurd e q
  |some o=>exact aM (hs o e).1
 have hk:∀m,m<(lw E a).next->m=0\/(m=1/\E.sat a≠none):=fun m hm=>by
  rw[xW]at hm;cases e:E.sat a with
  |none=>rw[e]at hm;left;exact Nat.lt_one_iff.1 hm
  |some o=>
   rw[e]at hm;have hm:m<2:=hm;by_cases h0:m=0
   ·exact .inl h0
   exact .inr ⟨by omega,by simp⟩
 have hk0:0<(lw E a).next:=by rw[xW];split<;>decide
 have hk1:E.sat a≠none->1<(lw E a).next:=fun q=>by
  rw[xW];split
  ·decide
  rename_i e;exact absurd e q
 obtain⟨θc,hθ⟩:∃θc:Nat->Option Nat,θc=fun n=>if n=w then some 0 else if n=b/\E.sat a≠none then some 1 else none:=⟨_,rfl⟩
 have t0:θc w=some 0:=by rw[hθ];exact if_pos rfl
 have t1:E.sat a≠none->θc b=some 1:=fun q=>by
  rw[hθ];show(if b=w then some 0 else if b=b/\E.sat a≠none then some 1 else none)=some 1;rw[if_neg (Ne.symm (hne q)),if_pos ⟨rfl,q⟩]
 have tc:∀n m,θc n=some m->m<(lw E a).next/\(if m=0 then w else b)=n:=fun n m h=>by
  rw[hθ]at h;simp only at h;split at h
  ·rename_i q;cases h;exact⟨hk0,q.symm⟩
  split at h
  ·rename_i q;cases h;exact⟨hk1 q.2,q.1.symm⟩
  cases h
 refine jq (k:=(lw E a).next) (fun m=>if m=0 then w else b) θc rfl (fun m m' h h' e=>?_) (fun m h=>?_) tc (fun m oL h=>?_) (au (bN t0) (hx _ aj)) hloc (fun eL WL' hS=>?_)
 ·rcases hk m h with rfl|⟨rfl,q⟩<;>rcases hk m' h' with rfl|⟨rfl,q'⟩
  ·rfl
  ·exact absurd e (hne q')
  ·exact absurd e.symm (hne q)
  rfl
 ·rcases hk m h with rfl|⟨rfl,q⟩
  ·exact hwn
  exact hbn q
 ·rcases TG h with⟨rfl,rfl⟩|⟨rfl,q⟩
  ·exact⟨hk0,_,hw,E.ren _ _ _ _ _ _ t0 t1⟩
  exact⟨hk1 (by rw[q];simp),_,(hs _ q).1,E.bare _ _ q _ aj⟩
 obtain⟨rfl,b',hb',g0,g1⟩:=hS;obtain⟨θ,hθ'⟩:∃θ:Nat->Option Nat,θ=fun m=>if m=0 then some w else if m=b'/\E.sat a'≠none then some x2 else none:=⟨_,rfl⟩
 have hb0:E.sat a'≠none->b'≠0:=fun q=>by rcases hb' q with h|h<;>omega
 have hx2:E.sat a'≠none->x2≠w:=fun q=>by
  rcases hb' q with⟨_,h,e⟩|h
  ·rw[e];exact Ne.symm (hne h)
  omega
 have u0:θ 0=some w:=by rw[hθ'];exact if_pos rfl
 have u1:E.sat a'≠none->θ b'=some x2:=fun q=>by
  rw[hθ'];show(if b'=0 then some w else if b'=b'/\E.sat a'≠none then some x2 else none)=some x2;rw[if_neg (hb0 q),if_pos ⟨rfl,q⟩]
 have uc:∀m x,θ m=some x->(m=0/\x=w)\/(m=b'/\E.sat a'≠none/\x=x2):=fun m x h=>by
  rw[hθ']at h;simp only at h;split at h
  ·rename_i q;cases h;exact .inl ⟨q,rfl⟩
  split at h
  ·rename_i q;cases h;exact .inr ⟨q.1,q.2,rfl⟩
  cases h
 refine⟨θ,fun m x h=>?_,fun m m' x h h'=>?_,fun x o' h=>?_,hv _ aj,hnext⟩
 ·rcases uc m x h with⟨rfl,rfl⟩|⟨rfl,q,rfl⟩
  ·exact .inl ⟨hk0,rfl⟩
  rcases hb' q with⟨e1,e2,e3⟩|h
  ·exact .inl ⟨by rw[e1];exact hk1 e2,by rw[e1,e3];rfl⟩
  exact .inr h
 ·rcases uc m x h with⟨rfl,rfl⟩|⟨rfl,q,rfl⟩<;>rcases uc m' _ h' with⟨rfl,e⟩|⟨rfl,q',e⟩
  ·rfl
  ·exact absurd e.symm (hx2 q')
  ·exact absurd e (hx2 q)
  rfl
 rcases hobj x o' h with⟨rfl,rfl⟩|⟨rfl,hxw,q⟩|⟨q1,q2,q3⟩
 ·exact .inl ⟨0,_,u0,g0,E.ren _ _ _ _ _ _ u0 u1⟩
 ·exact .inl ⟨b',_,u1 (by rw[q];simp),g1 _ q,E.bare _ _ q _ aj⟩
 refine .inr ⟨q1,aM q1,fun m hm=>?_⟩;rcases hk m hm with rfl|⟨rfl,q⟩
 ·exact fun e=>q2 e.symm
 exact fun e=>q3 q e.symm
theorem E3{f:FuncId}{p:PP α}(he:cT P f)(hb:∀xs a v a' md,p xs a=some (v,a',md)->cV xs/\dH v)
 (hl:∀xs a v a' md,p xs a=some (v,a',md)->aT P f (.pointer (some ⟨0,0,none⟩)::xs) (lw E a) fun e W'=>e=.ret v/\Qr E a a' W' md):bQ P f (qX E p):=by
 refine⟨he,fun args W e W' h=>?_,fun args W e W' hh=>?_⟩
 ·obtain⟨w,b,a,xs,_,_,h⟩:=DB h;unfold rY at h;split at h
  ·cases h;exact .refl _
  ·split at h
   ·cases h;exact(bu.put _ _ _).trans (bu.put _ _ _)
   cases h;exact(Dq _ _ _).trans (bu.put _ _ _)
  ·split at h
   ·cases h;exact((Dq _ _ _).trans (bu.push _ _)).trans (bu.put _ _ _)
   cases h
  cases h
 obtain⟨w,b,a,xs,rfl,hat,h⟩:=DB hh;clear hh;cases hp:p xs a with
 |none=>rw[hp]at h;cases h
 |some q=>
 obtain⟨v,a',md⟩:=q;rw[hp]at h;obtain⟨hbx,hbv⟩:=hb _ _ _ _ _ hp;have hloc:=hl _ _ _ _ _ hp;cases md with
 |rd=>
  cases h;refine oK (a':=a) (x2:=b) hat hbx hbv (hloc.mono fun e WL ⟨h1,h2,h3⟩=>⟨h1,1,fun q=>.inl ⟨rfl,q,rfl⟩,h2,h3⟩) (Nat.le_refl _) fun x o' h=>?_
  by_cases hx:x=w
  ·subst hx;exact .inl ⟨rfl,Option.some.inj (h.symm.trans hat.1)⟩
  by_cases hy:E.sat a≠none/\x=b
  ·obtain⟨hy,rfl⟩:=hy;cases e:E.sat a with
   |none=>exact absurd e hy
   |some o=>exact .inr (.inl ⟨rfl,hx,by rw[<-h,(hat.2 o e).1]⟩)
  exact .inr (.inr ⟨h,hx,fun q e=>hy ⟨q,e⟩⟩)
 |pl=>
  unfold rY at h;cases e':E.sat a' with
  |some o=>
   simp only[e']at h;cases h;refine oK (a':=a') (x2:=b) hat hbx hbv (hloc.mono fun e WL ⟨h1,h2,h3⟩=>⟨h1,1,fun q=>.inl ⟨rfl,(h3 o e').1,rfl⟩,h2,fun o h=>(h3 o h).2⟩) (Nat.le_refl _) fun x o' h=>?_
   rcases XW.get_put h with⟨rfl,q⟩|⟨q1,q2⟩
   ·cases q;exact .inl ⟨rfl,rfl⟩
   rcases XW.get_put q2 with⟨rfl,z⟩|⟨z1,z2⟩
   ·cases z;exact .inr (.inl ⟨rfl,q1,e'⟩)
   exact .inr (.inr ⟨z2,q1,fun _=>z1⟩)
  |none=>
   simp only[e']at h;cases h;have hsn:E.sat a=none\/E.sat a≠none:=by cases E.sat a<;>simp
   refine oK (a':=a') (x2:=0) hat hbx hbv (hloc.mono fun e WL ⟨h1,h2,h3⟩=>⟨h1,1,fun q=>absurd e' q,h2,fun o h=>(h3 o h).2⟩) ?_ fun x o' h=>?_
   ·unfold wj;split<;>exact Nat.le_refl _
   rcases XW.get_put h with⟨rfl,q⟩|⟨q1,q2⟩
   ·cases q;exact .inl ⟨rfl,rfl⟩
   have:=Ej q2;exact .inr (.inr ⟨this.1,q1,this.2⟩)
 |mv=>
  unfold rY at h;cases e':E.sat a' with
  |none=>simp only[e']at h;cases h
  |some o=>
   simp only[e']at h;cases h;have hcn:(wj W b (E.sat a)).next=W.next:=by unfold wj;split<;>rfl
   refine oK (a':=a') (x2:=W.next) hat hbx hbv (hloc.mono fun e WL hS=>?_) ?_ fun x o' h=>?_
   ·obtain⟨h1,b',h2,h3,o2,h4,h5⟩:=hS;refine⟨h1,b',fun q=>.inr ⟨h2,Nat.le_refl _,?_⟩,h3,fun o h=>?_⟩
    ·show W.next<(wj W b (E.sat a)).next+1;rw[hcn];exact YJ _
    rw[h5,<-h4,h]
   ·show W.next<=(wj W b (E.sat a)).next+1;rw[hcn];exact Zm _
   rcases XW.get_put h with⟨rfl,q⟩|⟨q1,q2⟩
   ·cases q;exact .inl ⟨rfl,rfl⟩
   rcases XW.get_push q2 with⟨z1,z2⟩|⟨z1,z2⟩
   ·subst z2;exact .inr (.inl ⟨by rw[z1,hcn],q1,e'⟩)
   have:=Ej z2;exact .inr (.inr ⟨this.1,q1,this.2⟩)
end
attribute [go_sem] Nat.reduceAdd Nat.reduceMul Nat.reduceSub
end Go.Proofs.YthlkgmdkabelpaaGreat.X
