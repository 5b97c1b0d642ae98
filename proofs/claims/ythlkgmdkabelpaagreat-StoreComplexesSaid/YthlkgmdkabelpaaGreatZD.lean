/-
  Packed by program (tools/pack.py) out of the texts UF26 F27 F28 F29 F30 F31 F32 F33 F34 F35 F36 F37 F39. No condition.
-/
import Derived.Test.YthlkgmdkabelpaaGreatZL
import Derived.Lib.Builder
import Derived.WalkSpells
import Derived.Shelf.Strings.Builder1
import Derived.Test.YthlkgmdkabelpaaGreatZC
set_option linter.all false
namespace Go.Proofs.YthlkgmdkabelpaaGreat.X
open Go Go.RowKit
theorem vS:(Tryz.prog.info? 82).map (·.size)=some 2:=by kernel_rfl
set_option maxRecDepth 100000 in
theorem WU(b q:Nat)(w:World)(h0:w.cell? ⟨b,q,none⟩=some (.pointer (some ⟨b,q,none⟩))) :
 Calls Tryz.prog 73 #[.pointer (some ⟨b,q,none⟩)] w fun e w'=>e=.returned (.tuple #[])/\w'=w:=by
 obtain⟨j,hj,_⟩:=Option.map_eq_some_iff.1 vS
 go_enter Tryz.func73,Tryz.ntmps73
 go_wp2
 rw[Lib.run_neq_ptr_same w _ Tryz.underlying79 hj]
 go_wp2
 go_end0
 exact⟨rfl,rfl⟩
set_option maxRecDepth 100000 in
theorem SR(b q z:Nat)(e:TypeId)(w:World)(h0:w.cell? ⟨b,q,none⟩=some (.pointer none))(hsh:w.shape? b=some (e,z))(hq:q<z)
 (hl:liesAt Tryz.prog Tryz.prog.depth e (z/Tryz.prog.cellsOf e) q 82 1=true) (hfz:w.frozen? ⟨b,q,none⟩=false) :
 Calls Tryz.prog 73 #[.pointer (some ⟨b,q,none⟩)] w fun e w'=>e=.returned (.tuple #[])/\w'=w.setCell ⟨b,q,none⟩ (.pointer (some ⟨b,q,none⟩)):=by
 obtain⟨j,hj,hjs⟩:=Option.map_eq_some_iff.1 vS
 go_enter Tryz.func73,Tryz.ntmps73
 go_wp2
 rw[Lib.run_to_unsafe w ⟨b,q,none⟩ Tryz.underlying79 Tryz.underlying191 hj (by rw[hjs];decide) hsh hq];simp only[Result.andThen];rw[Oper.upon_value]
 go_wp2
 rw[run_callFunc_extern Tryz.func110 (by kernel_rfl) (by kernel_rfl) (by kernel_rfl) (e:=Extern.AbiNoEscape.same) (by kernel_rfl),Lib.run_noEscape];simp only[Result.andThen];rw[Oper.upon_value]
 go_wp2
 rw[Lib.run_from_unsafe w ⟨b,q,none⟩ Tryz.underlying191 Tryz.underlying79 hj hsh hl];simp only[Result.andThen];rw[Oper.upon_value]
 go_wp2
 go_end0
 exact⟨rfl,rfl⟩
abbrev HF:=List Value->XW->Option (aW×XW)
abbrev HD:=List Value->Option Value->XW->Option (Option Value×XW)
def mV(P:Program)(f:FuncId)(args:List Value)(W:XW)(e:aW)(W':XW):Prop:=
 ∀ρ args' w m,cJ ρ W.next W'.next->HR P ρ W.get w->aU ρ args args'->CallsIn Fence.wide m P f args'.toArray w (QF P ρ W w e W')
structure bS(P:Program)(f:FuncId)(h:HF):Prop where
 enters:cS P f
 ext:∀args W e W',h args W=some (e,W')->bC W W'
 sim:∀args W e W',h args W=some (e,W')->mV P f args W e W'
structure Eh(P:Program)(f:FuncId)(h:HD):Prop where
 enters:cS P f
 ext:∀args p W p' W',h args p W=some (p',W')->bC W W'
 sim:∀args p W p' W',h args p W=some (p',W')->∀ρ args' w m u,cJ ρ W.next W'.next->HR P ρ W.get w->aU ρ args args'->ix ρ p u ->
  CallsDIn Fence.wide m P f args'.toArray u w fun en u' w'=>(∃v,en=.returned v)/\∃ρ',ca ρ W.get W.next w ρ' W'.get W'.next w'/\HR P ρ' W'.get w'/\ix ρ' p' (settle u')
def kM{α:Type}:List (FuncId×α)->FuncId->Option α
 |[],_=>none
 |(g,h)::l,f=>bif Nat.beq f g then some h else kM l f
theorem iM{α:Type}{f:FuncId}{h:α}:∀{l:List (FuncId×α)},kM l f=some h->(f,h)∈l
 |[],e=>by cases e
 |(g,k)::l,e=>by
  unfold kM at e;cases hb:Nat.beq f g with
  |true=>rw[hb]at e;cases e;rw[abY hb];exact ab4
  |false=>rw[hb]at e;exact aca _ (iM e)
inductive rZ(P:Program):List (FuncId×HF)->Prop
 |nil:rZ P []
 |cons (f:FuncId) (h:HF) (l:List (FuncId×HF)) (hk:bS P f h) (hs:rZ P l):rZ P ((f,h)::l)
inductive nW(P:Program):List (FuncId×HD)->Prop
 |nil:nW P []
 |cons (f:FuncId) (h:HD) (l:List (FuncId×HD)) (hk:Eh P f h) (hs:nW P l):nW P ((f,h)::l)
theorem rZ.mem{P:Program}{f:FuncId}{h:HF}:∀{l:List (FuncId×HF)},rZ P l->(f,h)∈l->bS P f h
 |_,.cons _ _ l hk hs,e=>by
  rcases List.mem_cons.1 e with e|e
  ·cases e;exact hk
  exact hs.mem e
theorem nW.mem{P:Program}{f:FuncId}{h:HD}:∀{l:List (FuncId×HD)},nW P l->(f,h)∈l->Eh P f h
 |_,.cons _ _ l hk hs,e=>by
  rcases List.mem_cons.1 e with e|e
  ·cases e;exact hk
  exact hs.mem e
def aJ(t:List (FuncId×HF))(d:List (FuncId×HD)):ci:=⟨kM t,kM d⟩
theorem eP{P:Program}{t:List (FuncId×HF)}{d:List (FuncId×HD)}(ht:rZ P t)(hd:nW P d):wK P (aJ t d):=
 ⟨⟨fun f h args W v W' hf hh=>(ht.mem (iM hf)).ext args W v W' hh,fun f h args p W p' W' hf hh=>(hd.mem (iM hf)).ext args p W p' W' hh⟩,
  fun f h hf=>(ht.mem (iM hf)).enters,fun f h args W v W' hf hh=>(ht.mem (iM hf)).sim args W v W' hh,
  fun f h hf=>(hd.mem (iM hf)).enters,fun f h args p W p' W' hf hh=>(hd.mem (iM hf)).sim args p W p' W' hh⟩
def Af(h:List Value->XW->Option (Value×XW)):HF:=fun args W=>match h args W with
 |some (v,W')=>some (.ret v,W')
 |none=>none
theorem lr{h:List Value->XW->Option (Value×XW)}{args:List Value}{W W':XW}{e:aW}(k:Af h args W=some (e,W')):∃v,e=.ret v/\h args W=some (v,W'):=by
 unfold Af at k;split at k
 ·rename_i v W1 hq;cases k;exact⟨v,rfl,hq⟩
 cases k
def GR(P:Program)(f:FuncId):Bool:=match P.funcs[f]? with
 |some fn=>fh fn&&fn.body.isSome
 |none=>false
theorem enters_of{P:Program}{f:FuncId}(h:GR P f=true):cS P f:=by
 unfold GR at h;split at h
 ·rename_i fn hf;simp only[abZ]at h;exact⟨fn,hf,h.1,h.2⟩
 cases h
theorem Hh{P:Program}{R:XK}{f:FuncId}(he:cS P f)(hR:f9 R)(hC:ji P R):Eh P f (kZ P R f):=
 ⟨he,fun args p W p' W' h=>(BW hR hC h).2.1,fun args p W p' W' h=>(BW hR hC h).2.2⟩
def Ch(P:Program)(N:Nat)(ρ0:Ren)(W0:XW)(w0:World)(e:gV)(s:XS)(ex:Exit)(a:Act)(w:World):Prop:=
 ∃ρ,mF P ρ0 W0 w0 N s ρ a w/\(∀n,s.W.next<=n->ρ n=none)/\tz ρ e ex
def bz(P:Program)(k:Nat)(s s':XS):Prop:=∀N ρ0 W0 w0 e ex a w,W0.next=k->(∀n,k<=n->ρ0 n=none)->(∀v,e≠.pan v)->Ch P N ρ0 W0 w0 e s ex a w->Ch P N ρ0 W0 w0 e s' ex a w
abbrev XQ:=gV->XS->Prop
def ar(P:Program)(N k:Nat)(c:Code)(s:XS)(Q:XQ):Prop:=
 ∀m ρ0 W0 w0 a w,W0.next=k->(∀n,k<=n->ρ0 n=none)->Ch P N ρ0 W0 w0 .norm s .normal a w->c.wpIn Fence.wide m P (fun ex a' w'=>∃e s',Q e s'/\Ch P N ρ0 W0 w0 e s' ex a' w') a w
def iV(P:Program)(N k:Nat)(d:Code)(Q:XQ):XQ
 |.norm,s=>ar P N k d s Q
 |e,s=>Q e s
def nQ(id:Nat)(Q:XQ):XQ
 |.exit i,s=>if i=id then Q .norm s else Q (.exit i) s
 |e,s=>Q e s
section
variable {P:Program} {N k:Nat} {R:XK} {c d:Code} {s s':XS} {Q Q':XQ}
theorem mF.then'{ρ0 ρ ρ':Ren}{W0:XW}{w0 w w':World}{a a':Act}(h:mF P ρ0 W0 w0 N s ρ a w)(k:mF P ρ s.W w N s' ρ' a' w'):mF P ρ0 W0 w0 N s' ρ' a' w':=
 ⟨h.1.trans k.1,k.2⟩
theorem nM{ρ ρ':Ren}{G G':GH}{nx nx':Nat}{w w':World}(hn:∀n,nx<=n->ρ n=none)(h:ca ρ G nx w ρ' G' nx' w'):∀n,nx'<=n->ρ' n=none:=fun n hn'=>by
 cases e:ρ' n with
 |none=>rfl
 |some q=>
  rcases h.dom n (by rw[e];simp)with q|⟨q1,q2⟩
  ·exact absurd (hn n (acx h.next hn')) q
  omega
theorem z6{e:gV}(hC:ji P R)(h:R (.code N none c s)=some (.code e s'))(hq:Q e s'):ar P N k c s Q:=fun m ρ0 W0 w0 a w h0 h1 hc=>by
 obtain⟨ρ,⟨g1,g2,g3,g4⟩,g5,g6⟩:=hc;refine wpIn_mono (hC _ _ _ _ _ _ h ρ none a w m trivial (fun n k1 _=>g5 n k1) g2 g3 g4) fun ex a' w' hx=>?_
 obtain⟨ρ',ho,hx⟩:=hx;exact⟨e,s',hq,ρ',mF.then' ⟨g1,g2,g3,g4⟩ ho,nM g5 ho.1,hx⟩
theorem fu(hq:∀e s,Q e s->Q' e s)(h:ar P N k c s Q):ar P N k c s Q':=fun m ρ0 W0 w0 a w h0 h1 hc=>
 wpIn_mono (h m ρ0 W0 w0 a w h0 h1 hc) fun ex a' w' ⟨e,s',q,hx⟩=>⟨e,s',hq e s' q,hx⟩
theorem eR(hl:bz P k s s')(h:ar P N k c s' Q):ar P N k c s Q:=fun m ρ0 W0 w0 a w h0 h1 hc=>h m ρ0 W0 w0 a w h0 h1 (hl N ρ0 W0 w0 _ _ a w h0 h1 (fun v e=>by cases e) hc)
theorem bz.refl:bz P k s s:=fun _ _ _ _ _ _ _ _ _ _ _ h=>h
theorem bz.trans{s1 s2 s3:XS}(h:bz P k s1 s2)(g:bz P k s2 s3):bz P k s1 s3:=fun N ρ0 W0 w0 e ex a w h0 h1 h2 hc=>g N ρ0 W0 w0 e ex a w h0 h1 h2 (h N ρ0 W0 w0 e ex a w h0 h1 h2 hc)
theorem ap(h:Q .norm s):ar P N k .skip s Q:=fun m ρ0 W0 w0 a w h0 h1 hc=>wpIn_skip ⟨.norm,s,h,hc⟩
theorem Ch.exit{ρ0:Ren}{W0:XW}{w0:World}{a:Act}{w:World}{e e':gV}{ex ex':Exit}(h:Ch P N ρ0 W0 w0 e s ex a w)(hx:∀ρ,tz ρ e' ex'):Ch P N ρ0 W0 w0 e' s ex' a w:=by
 obtain⟨ρ,h1,h2,_⟩:=h;exact⟨ρ,h1,h2,hx ρ⟩
theorem fQ(h:Q .ret s):ar P N k .ret s Q:=fun m ρ0 W0 w0 a w h0 h1 hc=>wpIn_ret ⟨.ret,s,h,hc.exit fun _=>trivial⟩
theorem pL{id:Nat}(h:Q (.exit id) s):ar P N k (.exit id) s Q:=fun m ρ0 W0 w0 a w h0 h1 hc=>wpIn_exit ⟨.exit id,s,h,hc.exit fun _=>rfl⟩
theorem ai(h:ar P N k c s (iV P N k d Q)):ar P N k (.seq c d) s Q:=fun m ρ0 W0 w0 a w h0 h1 hc=>by
 refine wpIn_seq (wpIn_mono (h m ρ0 W0 w0 a w h0 h1 hc) fun ex a' w' hx=>?_);obtain⟨e,s',q,hx⟩:=hx;have hx':=hx;obtain⟨ρ,_,_,hr⟩:=hx';cases e with
 |norm=>
  cases ex<;>first|exact hr.elim|skip
  exact q m ρ0 W0 w0 a' w' h0 h1 hx
 |_=>cases ex<;>first|exact hr.elim|exact⟨_,s',q,hx⟩
theorem Cp{x:Operand}{t:Bool}(hx:ev s.fr x=some (.bool t))(h:ar P N k (if t then c else d) s Q):ar P N k (.cond x c d) s Q:=fun m ρ0 W0 w0 a w h0 h1 hc=>by
 have hc':=hc;obtain⟨ρ,⟨g1,g2,g3,g4⟩,_⟩:=hc';exact wpIn_cond ((g3.ev x _ hx).of_flat 1 rfl) (h m ρ0 W0 w0 a w h0 h1 hc)
theorem aK{id:Nat}(h:ar P N k c s (nQ id Q)):ar P N k (.block id c) s Q:=fun m ρ0 W0 w0 a w h0 h1 hc=>by
 refine wpIn_block (wpIn_mono (h m ρ0 W0 w0 a w h0 h1 hc) fun ex a' w' hx=>?_);obtain⟨e,s',q,hx⟩:=hx;have hx':=hx;obtain⟨ρ,_,_,hr⟩:=hx';cases ex with
 |exit j=>
  cases e<;>first|exact hr.elim|skip
  rename_i i;have hij:i=j:=hr;subst hij;unfold nQ at q;show Exit.inBlock id _ (.exit i) a' w';unfold Exit.inBlock;simp only at q ⊢;by_cases hid:i=id
  ·rw[if_pos hid]at q ⊢;exact⟨.norm,s',q,hx.exit fun _=>trivial⟩
  rw[if_neg hid]at q ⊢;exact⟨.exit i,s',q,hx⟩
 |_=>cases e<;>first|exact hr.elim|exact⟨_,s',q,hx⟩
theorem ww{α:Type}(I:α->XS)(μ:α->Nat)(h:∀x,ar P N k c (I x) fun e s'=>match e with
 |.norm=>∃y,μ y<μ x/\bz P k s' (I y)
 |e=>Q e s') (x:α):ar P N k (.loop c) (I x) Q:=fun m ρ0 W0 w0 a w h0 h1 hc=>by
 refine EA ?_
 induction hn:μ x using Nat.strongRecOn generalizing x a w with
 |_ n ih=>
  refine yx (wpIn_mono (h x m ρ0 W0 w0 a w h0 h1 hc) fun ex a' w' hx=>?_);obtain⟨e,s',q,hx⟩:=hx;have hx':=hx;obtain⟨ρ,_,_,hr⟩:=hx';cases e with
  |norm=>
   cases ex<;>first|exact hr.elim|skip
   obtain⟨y,hy,hl⟩:=q;exact ih (μ y) (by omega) y a' w' (hl N ρ0 W0 w0 _ _ a' w' h0 h1 (fun v e=>by cases e) hx) rfl
  |_=>cases ex<;>first|exact hr.elim|exact⟨_,s',q,hx⟩
end
theorem abb{P:Program}{H:ci}(hS:wK P H){f:FuncId}{fn:Func}{c:Code}{args:List Value}{W:XW}{Q:aW->XW->Prop}(hf:P.funcs[f]?=some fn)(hc:fn.body=some c)(hN:args.length<=fn.ntmps)
 (h:ar P fn.ntmps W.next c ⟨yK args,W,[]⟩ fun e s=>∃p e' W',oH e=some p/\pK P fn s.fr (cU H s.ds p s.W)=some (.fin e' W')/\Q e' W') :
 ∀ρ args' w m,(∀n,W.next<=n->ρ n=none)->HR P ρ W.get w->aU ρ args args'->CallsIn Fence.wide m P f args'.toArray w fun en w'=>∃e' W',Q e' W'/\QF P ρ W w e' W' en w':=fun ρ args' w m hfr hH hA=>by
 refine callsIn_of_wp_marks hf hc trivial (wpIn_mono (h m ρ W w { tmps:=_,defers:=[] } w rfl hfr ⟨ρ,⟨.refl _ _ _ _,hH,wG hA hN,.nil⟩,hfr,trivial⟩) fun x a1 w1 hx=>?_) rfl;obtain⟨ex,s,⟨p,e',W',hp,hk,hq⟩,ρ1,⟨g1,g2,g3,g4⟩,g5,hx⟩:=hx;have key:∀W2 p2,cU H s.ds p s.W=some (p2,W2)->(∀ρ' u' w',ca ρ W.get W.next w ρ' W2.get W2.next w'->HR P ρ' W2.get w'->ix ρ' p2 u'->∀tm,FR ρ' fn.ntmps s.fr tm->LeavesIn Fence.wide m P fn tm (fun en w'=>∃e' W',Q e' W'/\QF P ρ W w e' W' en w') [] u' w') ->
  ∀u,ix ρ1 p u->LeavesInM Fence.wide m P fn a1.tmps (fun en w'=>∃e' W',Q e' W'/\QF P ρ W w e' W' en w') a1.defers u w1:=fun W2 p2 hs hk u hu=>
  ou hS _ _ _ hs ρ1 _ w1 u (fun n k1 _=>g5 n k1) g2 g4 hu fun ρ' u' w' k1 k2 k3=>hk ρ' u' w' (g1.trans k1) k2 k3 _ (g3.mono k1.le)
 have go:∀u,ix ρ1 p u->LeavesInM Fence.wide m P fn a1.tmps (fun en w'=>∃e' W',Q e' W'/\QF P ρ W w e' W' en w') a1.defers u w1:=by
  unfold pK at hk;split at hk
  ·rename_i v W1 hs;cases hk;refine key _ _ hs fun ρ' u' w' g1 g2 g3 tm hF=>?_
   cases u'<;>first|exact g3.elim|skip
   exact⟨_,_,hq,ρ',g1,g2,g3⟩
  ·rename_i W1 hs;unfold wI at hk;split at hk
   ·rename_i vs hr;cases hk;refine key _ _ hs fun ρ' u' w' g1 g2 g3 tm hF=>?_
    cases u'<;>first|exact g3.elim|skip
    obtain⟨u,q1,q2⟩:=qt g2 hF hr;exact⟨u,q1,_,_,hq,ρ',g1,g2,q2⟩
   cases hk
  cases hk
 cases ex<;>cases x<;>first|exact hx.elim|skip
 ·cases hp;exact go .returning trivial
 ·cases hp
 ·cases hp;exact go .returning trivial
 cases hp;obtain⟨v',h1,rfl⟩:=hx;exact go (.panicking _) ⟨v',h1,rfl⟩
abbrev RT:=Ren->Ren->Prop
def tp(T:RT):Prop:=∀ρ ρ',T ρ ρ'->∀b o,ρ.fz b=some o->ρ'.fz b=some o
def TV(T:RT)(v v':Value):Prop:=∀ρ ρ' x,T ρ ρ'->VR ρ v x->VR ρ' v' x
def jz(T:RT)(l l':List Value):Prop:=∀ρ ρ' x,T ρ ρ'->aU ρ l x->aU ρ' l' x
def TO(P:Program)(T:RT)(o o':ah):Prop:=∀ρ ρ' i ob,T ρ ρ'->OR P ρ i o ob->OR P ρ' i o' ob
def d8(v:Value):Prop:=∀T,tp T->TV T v v
def cZ(l:List Value):Prop:=∀T,tp T->jz T l l
section
variable {T:RT} {P:Program}
theorem ki(n:Nat){v:Value}(h:aX n v=true):TV T v v:=fun ρ ρ' x _ hv=>by
 rw[hv.of_flat n h];exact .flat n v h
theorem aR:jz T [] []:=fun ρ ρ' x _ h=>by cases h;exact .nil
theorem av{v v':Value}{l l':List Value}(h:TV T v v')(hs:jz T l l'):jz T (v::l) (v'::l'):=fun ρ ρ' x ht hv=>by
 cases hv with
 |cons _ u _ us a b=>exact .cons _ _ _ _ (h _ _ _ ht a) (hs _ _ _ ht b)
theorem aU.split{ρ:Ren}:∀{a b x:List Value},aU ρ (a++b) x->∃y z,x=y++z/\aU ρ a y/\aU ρ b z
 |[],b,x,h=>⟨[],x,rfl,.nil,h⟩
 |v::a,b,x,h=>by
  cases h with
  |cons _ u _ us q r=>
   obtain⟨y,z,rfl,h1,h2⟩:=aU.split r;exact⟨u::y,z,rfl,.cons _ _ _ _ q h1,h2⟩
theorem Iq{a a' b b':List Value}(h:jz T a a')(hs:jz T b b'):jz T (a++b) (a'++b'):=fun ρ ρ' x ht hv=>by
 obtain⟨y,z,rfl,h1,h2⟩:=hv.split;exact(h _ _ _ ht h1).append (hs _ _ _ ht h2)
theorem GE{l l':List Value}(h:jz T l l'){ρ ρ':Ren}{x:List Value}(ht:T ρ ρ')(hx:aU ρ l x):l'.length=l.length:=by
 rw[<-hx.length,(h _ _ _ ht hx).length]
theorem Wy{cs cs':List Value}(h:jz T cs cs'):TV T (.agg cs.toArray) (.agg cs'.toArray):=fun ρ ρ' x ht hv=>by
 obtain⟨us,rfl,hu⟩:=hv.aggInv;exact .agg _ _ (h _ _ _ ht (by simpa using hu))
theorem Oe{cs cs':List Value}(h:jz T cs cs'):TV T (.tuple cs.toArray) (.tuple cs'.toArray):=fun ρ ρ' x ht hv=>by
 obtain⟨us,rfl,hu⟩:=hv.tupleInv;exact .tuple _ _ (h _ _ _ ht (by simpa using hu))
theorem O2{t:TypeId}{v v':Value}(h:TV T v v'):TV T (.iface t v) (.iface t v'):=fun ρ ρ' x ht hv=>by
 obtain⟨u,rfl,hu⟩:=hv.ifaceInv;exact .iface _ _ _ (h _ _ _ ht hu)
theorem rx{f:FuncId}{xs xs' cs cs':List Value}(h:jz T xs xs')(h2:jz T cs cs'):TV T (.func (.func f) xs.toArray cs.toArray) (.func (.func f) xs'.toArray cs'.toArray):=fun ρ ρ' x ht hv=>by
 obtain⟨us,ws,rfl,h3,h4⟩:=hv.funcInv;exact .func _ _ _ _ _ (h _ _ _ ht (by simpa using h3)) (h2 _ _ _ ht (by simpa using h4))
theorem ZM(hT:tp T){cs cs':List Value}{n:Nat}(h:jz T cs cs'):TV T (FZ cs n) (FZ cs' n):=fun ρ ρ' x ht hv=>by
 obtain⟨_,_,⟨b,off,cap,c',e,fr,hB,hl,rfl,hr⟩|⟨h1,h2,a,cap,rfl⟩⟩:=VR.fzInv (cs:=cs.toArray) hv
 ·have hr:aU ρ cs ((c'.toList.drop off).take cs.length):=by simpa using hr
  have hn:=GE h ht hr;exact .frz _ _ n b off cap c' e fr (hT _ _ ht _ _ hB) hl rfl (by rw[hn];exact h _ _ _ ht hr)
 have h1:cs=[]:=by simpa using h1
 subst h1;subst h2;have:=(h _ _ _ ht .nil);cases this;exact .frzE _ _
theorem ZX(hT:tp T){cs cs':List Value}(h:jz T cs cs'):TV T (FP cs) (FP cs'):=fun ρ ρ' x ht hv=>by
 obtain⟨_,_,b,off,c',e,fr,hB,rfl,hr⟩:=VR.fpInv (cs:=cs.toArray) hv;have hr:aU ρ cs ((c'.toList.drop off).take cs.length):=by simpa using hr
 have hn:=GE h ht hr;exact .frp _ _ b off c' e fr (hT _ _ ht _ _ hB) rfl (by rw[hn];exact h _ _ _ ht hr)
theorem dz(n:Nat){v:Value}(h:aX n v=true):d8 v:=fun _ _=>ki n h
theorem iH:cZ []:=fun _ _=>aR
theorem j7{v:Value}{l:List Value}(h:d8 v)(hs:cZ l):cZ (v::l):=fun T hT=>av (h T hT) (hs T hT)
theorem tJ{a b:List Value}(h:cZ a)(hs:cZ b):cZ (a++b):=fun T hT=>Iq (h T hT) (hs T hT)
theorem Ma{l:List Value}(h:∀v∈l,d8 v):cZ l:=by
 induction l with
 |nil=>exact iH
 |cons v l ih=>exact j7 (h v ab4) (ih fun u hu=>h u (aca _ hu))
theorem iZ{α:Type}{f:α->List Value}(h:∀x,cZ (f x)):∀l:List α,cZ (l.flatMap f)
 |[]=>iH
 |x::l=>by rw[ab7];exact tJ (h x) (iZ h l)
theorem M6{cs:List Value}(h:cZ cs):d8 (.agg cs.toArray):=fun T hT=>Wy (h T hT)
theorem xL{cs:List Value}(h:cZ cs):d8 (.tuple cs.toArray):=fun T hT=>Oe (h T hT)
theorem Hw{t:TypeId}{v:Value}(h:d8 v):d8 (.iface t v):=fun T hT=>O2 (h T hT)
theorem GG{cs:List Value}{n:Nat}(h:cZ cs):d8 (FZ cs n):=fun T hT=>ZM hT (h T hT)
theorem Rn{cs:List Value}(h:cZ cs):d8 (FP cs):=fun T hT=>ZX hT (h T hT)
inductive kN(T:RT):List MapEntry->List MapEntry->Prop
 |nil:kN T [] []
 |cons (e e':MapEntry) (l l':List MapEntry) (hk:TV T e.key e'.key) (hv:TV T e.val e'.val) (hb:e'.born=e.born) (hs:kN T l l'):kN T (e::l) (e'::l')
theorem kN.out{ρ ρ':Ren}(ht:T ρ ρ'):∀{l l':List MapEntry} {x:List MapEntry},kN T l l'->eK ρ l x->eK ρ' l' x
 |_,_,_,.nil,.nil=>.nil
 |_,_,_,.cons e e' l l' hk hv hb hs,.cons _ u _ us k1 k2 k3 k4=>.cons _ _ _ _ (hk _ _ _ ht k1) (hv _ _ _ ht k2) (by rw[k3,hb]) (hs.out ht k4)
theorem kN.bare(hT:tp T):∀{l:List MapEntry},(∀e∈l,d8 e.key/\d8 e.val)->kN T l l
 |[],_=>.nil
 |e::l,h=>.cons _ _ _ _ ((h e ab4).1 T hT) ((h e ab4).2 T hT) rfl (kN.bare hT fun u hu=>h u (aca _ hu))
theorem iy{es es':List MapEntry}{c:Nat}(h:kN T es es'):TO P T (.map es c) (.map es' c):=fun ρ ρ' i ob ht ho=>by
 cases ho with
 |map _ xs _ hx=>exact .map _ _ _ (h.out ht hx)
def IC(T:RT):aW->aW->Prop
 |.ret v,.ret v'=>TV T v v'
 |.pan v,.pan v'=>TV T v v'
 |_,_=>False
theorem IC.out{ρ ρ':Ren}(ht:T ρ ρ'){e e':aW}{en:Ending}(h:IC T e e')(k:OT ρ e en):OT ρ' e' en:=by
 cases e<;>cases e'<;>first|exact h.elim|skip
 ·cases en<;>first|exact k.elim|exact h _ _ _ ht k
 cases en<;>first|exact k.elim|skip
 obtain⟨v',k1,k2⟩:=k;exact⟨v',h _ _ _ ht k1,k2⟩
inductive ul(T:RT):List cq->List cq->Prop
 |nil:ul T [] []
 |call (f:FuncId) (a c a' c':List Value) (l l':List cq) (h1:jz T a a') (h2:jz T c c') (h:ul T l l'):ul T (.call f a c::l) (.call f a' c'::l')
theorem ul.out{ρ ρ':Ren}(ht:T ρ ρ'):∀{l l':List cq} {x:List Deferred},ul T l l'->gy ρ l x->gy ρ' l' x
 |_,_,_,.nil,.nil=>.nil
 |_,_,_,.call f a c a' c' l l' h1 h2 h,.call _ _ _ xs cs _ _ k1 k2 k3=>.call _ _ _ _ _ _ _ (h1 _ _ _ ht k1) (h2 _ _ _ ht k2) (h.out ht k3)
def aP(θ:Nat->Option Nat):RT:=fun ρ ρ'=>(∀b o,ρ.fz b=some o->ρ'.fz b=some o)/\∀n m i,θ n=some m->ρ n=some i->ρ' m=some i
theorem aj{θ:Nat->Option Nat}:tp (aP θ):=fun ρ ρ' h=>h.1
variable {θ:Nat->Option Nat}
theorem bI{n o m:Nat}(h:θ n=some m):TV (aP θ) (.pointer (some ⟨n,o,none⟩)) (.pointer (some ⟨m,o,none⟩)):=fun ρ ρ' x ht hv=>by
 obtain⟨i,hr,rfl⟩:=hv.ptrInv;exact .ptr _ _ _ (ht.2 _ _ _ h hr)
theorem cI{n m:Nat}(h:θ n=some m):TV (aP θ) (.map (some n)) (.map (some m)):=fun ρ ρ' x ht hv=>by
 obtain⟨i,hr,rfl⟩:=hv.mapInv;exact .map _ _ (ht.2 _ _ _ h hr)
theorem cC{n o m l c:Nat}(h:θ n=some m):TV (aP θ) (.slice (some ⟨n,o,none⟩) l c) (.slice (some ⟨m,o,none⟩) l c):=fun ρ ρ' x ht hv=>by
 cases hv with
 |flat k v h=>cases k<;>simp[aX]at h
 |slice _ _ _ _ i hr hc=>exact .slice _ _ _ _ i (ht.2 _ _ _ h hr) hc
 |sliceO _ _ _ _ c' i hr hc hl h1 h2=>exact .sliceO _ _ _ _ _ i (ht.2 _ _ _ h hr) hc hl h1 h2
 |sliceE _ _ _ a i hr hc h1=>exact .sliceE _ _ _ _ i (ht.2 _ _ _ h hr) hc h1
 |sliceN=>exact .sliceN _ _
 |sliceZ _ _ a i hr=>exact .sliceZ _ _ _ i (ht.2 _ _ _ h hr)
end
section
variable {P:Program} {k:Nat} {s s':XS}
theorem mI(hf:∀t v,s'.fr.get t=some v->s.fr.get t=some v)(hw:∀n o,s'.W.get n=some o->s.W.get n=some o)(hn:s.W.next<=s'.W.next)(hd:s'.ds=s.ds):bz P k s s':=fun N ρ0 W0 w0 e ex a w h0 h1 h2 hc=>by
 obtain⟨ρ,⟨g1,g2,g3,g4⟩,g5,g6⟩:=hc;refine⟨ρ,⟨⟨g1.le,g1.keeps,fun b hb=>g1.img b (d9.sub hw hb),fun n hn'=>(g1.dom n hn').imp id fun⟨q1,q2⟩=>⟨q1,acW q2 hn⟩,acx g1.next hn,g1.fzn⟩,g2.sub hw,⟨g3.size,fun t v e=>g3.rep t v (hf t v e)⟩,by rw[hd];exact g4⟩,fun n hn'=>g5 n (acx hn hn'),g6⟩
theorem wU(θ inv:Nat->Option Nat)(hθ:∀n m,θ n=some m->(m<k/\n=m)\/(k<=m/\inv m=some n))(hi:∀m n,inv m=some n->m<s'.W.next)(hkn:k<=s'.W.next)
 (hf:∀t v',s'.fr.get t=some v'->∃v,s.fr.get t=some v/\TV (aP θ) v v') (hw:∀m o',s'.W.get m=some o'->∃n o,θ n=some m/\s.W.get n=some o/\TO P (aP θ) o o') (hd:ul (aP θ) s.ds s'.ds):bz P k s s':=
 fun N ρ0 W0 w0 e ex a w h0 h1 h2 hc=>by
 obtain⟨ρ,⟨g1,g2,g3,g4⟩,g5,g6⟩:=hc;let ρ':Ren:=⟨fun m=>if m<k then ρ m else(inv m).bind ρ.nm,ρ.fz⟩
 have hlo:∀m,m<k->ρ' m=ρ m:=fun m h=>if_pos h
 have hhi:∀m,k<=m->ρ' m=(inv m).bind ρ.nm:=fun m h=>if_neg (by omega)
 have hat:∀n m,θ n=some m->ρ' m=ρ n:=fun n m h=>by
  rcases hθ n m h with⟨q1,rfl⟩|⟨q1,q2⟩
  ·exact hlo _ q1
  rw[hhi _ q1,q2];rfl
 have hT:aP θ ρ ρ':=⟨fun _ _ e=>e,fun n m i h hr=>by rw[hat n m h];exact hr⟩;have himg:∀b,d9 ρ' s'.W.get b->d9 ρ s.W.get b:=fun b ⟨m,i,q1,q2,q3⟩=>by
  cases e:s'.W.get m with
  |none=>exact absurd e q2
  |some o'=>
   obtain⟨n,o,r1,r2,_⟩:=hw m o' e;exact⟨n,i,by rw[<-hat n m r1];exact q1,by rw[r2];simp,q3⟩
 refine⟨ρ',⟨⟨⟨fun n i h=>?_,g1.le.fz⟩,g1.keeps,fun b hb=>g1.img b (himg b hb),fun m hm=>?_,by rw[h0];exact hkn,g1.fzn⟩,⟨fun m i o' q1 q2=>?_,fun m1 m2 i j q1 q2 q3 q4 q5=>?_,fun b o hb=>⟨(g2.frz b o hb).1,fun q=>(g2.frz b o hb).2 (himg b q)⟩⟩,⟨g3.size,fun t v' hv=>?_⟩,hd.out hT g4⟩,fun m hm=>?_,?_⟩
 ·have:n<k:=Nat.lt_of_not_le fun q=>by rw[h1 n q]at h;cases h
  rw[hlo n this];exact g1.le _ _ h
 ·rcases ab8 m k with q|q
  ·rw[hlo m q]at hm;rcases g1.dom m hm with r|⟨r,_⟩
   ·exact .inl r
   rw[h0]at r;omega
  rw[hhi m q]at hm;cases e:inv m with
  |none=>rw[e]at hm;exact absurd rfl hm
  |some n=>exact .inr ⟨by rw[h0];exact q,hi m n e⟩
 ·obtain⟨n,o,r1,r2,r3⟩:=hw m o' q2;rw[hat n m r1]at q1;obtain⟨ob,p1,p2⟩:=g2.obj n i o q1 r2;exact⟨ob,p1,r3 _ _ _ _ hT p2⟩
 ·cases e1:s'.W.get m1 with
  |none=>exact absurd e1 q3
  |some o1=>
   cases e2:s'.W.get m2 with
   |none=>exact absurd e2 q4
   |some o2=>
    obtain⟨n1,p1,r1,r2,_⟩:=hw m1 o1 e1;obtain⟨n2,p2,t1,t2,_⟩:=hw m2 o2 e2;rw[hat n1 m1 r1]at q1;rw[hat n2 m2 t1]at q2;have:=g2.inj n1 n2 i j q1 q2 (by rw[r2];simp) (by rw[t2];simp) q5;subst this;rw[r1]at t1;exact Option.some.inj t1
 ·obtain⟨v,r1,r2⟩:=hf t v' hv;exact r2 _ _ _ hT (g3.rep t v r1)
 ·rw[hhi m (by omega)];cases e:inv m with
  |none=>rfl
  |some n=>have:=hi m n e;omega
 cases e<;>cases ex<;>first|exact g6|exact absurd rfl (h2 _)
def dL(n:Nat)(c:List Value):RT:=fun ρ ρ'=>(∀b o,ρ.fz b=some o->ρ'.fz b=some o)/\(∀m i,ρ m=some i->ρ' m=some i)/\∀i,ρ n=some i->∃c' e fr,ρ'.fz i.b=some (.cells c' e fr)/\vU ρ' i.s c c'
theorem gJ{n:Nat}{c:List Value}{v:Value}:TV (dL n c) v v:=fun ρ ρ' x ht hv=>hv.mono ⟨ht.2.1,ht.1⟩
theorem vU.vrs{ρ:Ren}{s:Nat}{c:List Value}{c':Array Value}(h:vU ρ s c c')(o q:Nat):aU ρ ((c.drop o).take q) ((c'.toList.drop (o+s)).take ((c.drop o).take q).length):=by
 obtain⟨us,h1,h2,h3⟩:=h.part o ((c.drop o).take q).length (by
  rw[abR,abT,abR,abT];omega)
 have e1:(c.drop o).take ((c.drop o).take q).length=(c.drop o).take q:=by
  rw[abR];rcases Nat.le_total q (c.drop o).length with r|r
  ·rw[acO r]
  rw[Nat.min_eq_right r,List.take_length,List.take_of_length_le r]
 rw[e1]at h2;have e2:us=(c'.toList.drop (o+s)).take ((c.drop o).take q).length:=by
  refine acN fun j=>?_
  rcases ab8 j us.length with r|r
  ·have:=h3 j us[j] (abS r);rw[<-acr]at this;rw[acw,if_pos (by omega),acC,acy o s,this];exact abS r
  rw[ab9 r,acw,if_neg (by omega)]
 rw[<-e2];exact h2
theorem uJ{n o len cap q:Nat}{c:List Value}(hq:len<=cap)(hq0:len=0->q=0):TV (dL n c) (.slice (some ⟨n,o,none⟩) len cap) (FZ ((c.drop o).take q) len):=fun ρ ρ' x ht hv=>by
 obtain⟨rfl,_,rfl⟩|⟨i,hr,hcase⟩:=hv.sliceOr
 ·rw[hq0 rfl,List.take_zero];exact .frzE _ _
 obtain⟨c',e,fr,hB,hrow⟩:=ht.2.2 i hr;have main:∀cap',len<=cap'->VR ρ' (FZ ((c.drop o).take q) len) (.slice (some ⟨i.b,o+i.s,none⟩) len cap'):=fun cap' hl=>
  .frz _ _ _ _ _ _ c' e fr hB hl rfl (hrow.vrs o q)
 rcases hcase with⟨_,rfl⟩|⟨_,c2,rfl,h1,_⟩|⟨_,h1,h2,a,rfl⟩|⟨h0,h1,a,rfl⟩
 ·exact main _ hq
 ·exact main _ h1
 ·subst h1;rw[hq0 rfl,List.take_zero];exact .frzE _ _
 subst h1;rw[hq0 rfl,List.take_zero];exact .frzE _ _
theorem II{n o q:Nat}{c:List Value}:TV (dL n c) (.pointer (some ⟨n,o,none⟩)) (FP ((c.drop o).take q)):=fun ρ ρ' x ht hv=>by
 obtain⟨i,hr,rfl⟩:=hv.ptrInv;obtain⟨c',e,fr,hB,hrow⟩:=ht.2.2 i hr;exact .frp _ _ _ _ c' e fr hB rfl (hrow.vrs o q)
theorem kI(n:Nat){c:List Value}{e:TypeId}{fr:Nat×Nat}(hg:s.W.get n=some (.cells c e fr))(hn:s'.W.get n=none)(hnx:s.W.next<=s'.W.next)
 (hf:∀t v',s'.fr.get t=some v'->∃v,s.fr.get t=some v/\TV (dL n c) v v') (hw:∀m o',s'.W.get m=some o'->∃o,s.W.get m=some o/\TO P (dL n c) o o') (hd:ul (dL n c) s.ds s'.ds):bz P k s s':=
 fun N ρ0 W0 w0 ex0 ex a w h0 h1 h2 hc=>by
 obtain⟨ρ,⟨g1,g2,g3,g4⟩,g5,g6⟩:=hc;cases hr:ρ n with
 |none=>
  have hT:dL n c ρ ρ:=⟨fun _ _ e=>e,fun _ _ e=>e,fun i e=>by rw[hr]at e;cases e⟩;have himg:∀b,d9 ρ s'.W.get b->d9 ρ s.W.get b:=fun b ⟨m,i,q1,q2,q3⟩=>by
   cases e:s'.W.get m with
   |none=>exact absurd e q2
   |some o'=>
    obtain⟨o,r1,_⟩:=hw m o' e;exact⟨m,i,q1,by rw[r1];simp,q3⟩
  have hup:∀m,s'.W.get m≠none->s.W.get m≠none:=fun m q=>by
   cases e:s'.W.get m with
   |none=>exact absurd e q
   |some o'=>obtain⟨o,r1,_⟩:=hw m o' e;rw[r1];simp
  refine⟨ρ,⟨⟨g1.le,g1.keeps,fun b hb=>g1.img b (himg b hb),fun m hm=>(g1.dom m hm).imp id fun⟨q1,q2⟩=>⟨q1,by omega⟩,acx g1.next hnx,g1.fzn⟩,⟨fun m i o' q1 q2=>?_,fun m1 m2 i j q1 q2 q3 q4 q5=>g2.inj m1 m2 i j q1 q2 (hup _ q3) (hup _ q4) q5,fun b o hb=>⟨(g2.frz b o hb).1,fun q=>(g2.frz b o hb).2 (himg b q)⟩⟩,⟨g3.size,fun t v' hv=>?_⟩,hd.out hT g4⟩,fun m hm=>g5 m (by omega),?_⟩
  ·obtain⟨o,r1,r2⟩:=hw m o' q2;obtain⟨ob,p1,p2⟩:=g2.obj m i o q1 r1;exact⟨ob,p1,r2 _ _ _ _ hT p2⟩
  ·obtain⟨v,r1,r2⟩:=hf t v' hv;exact r2 _ _ _ hT (g3.rep t v r1)
  cases ex0<;>cases ex<;>first|exact g6|exact absurd rfl (h2 _)
 |some i0=>
  obtain⟨ob,hb,ho⟩:=g2.obj n i0 _ hr hg;cases ho with
  |cells _ _ _ d fr' hz hrr hk hll hv hfz hq hm=>
   let ρ':Ren:=⟨ρ.nm,fun b=>if b=i0.b then some (.cells d e fr')else ρ.fz b⟩
   have hnot:∀o,ρ.fz i0.b=some o->False:=fun o e=>(g2.frz _ _ e).2 ⟨n,i0,hr,by rw[hg];simp,rfl⟩
   have hle:∀b o,ρ.fz b=some o->ρ'.fz b=some o:=fun b o e=>by
    show(if b=i0.b then _ else ρ.fz b)=_;rw[if_neg (fun q=>by subst q;exact hnot _ e)];exact e
   have hmono:∀{v x:Value},VR ρ v x->VR ρ' v x:=fun h=>h.mono (ρ:=ρ) (ρ':=ρ') ⟨fun _ _ e=>e,hle⟩
   have hT:dL n c ρ ρ':=⟨hle,fun _ _ e=>e,fun i e2=>by
    rw[hr]at e2;cases e2;refine⟨d,e,fr',if_pos rfl,fun j v hj=>?_⟩;obtain⟨v',r1,r2⟩:=hv j v hj;exact⟨v',r1,hmono r2⟩⟩
   have hup:∀m,s'.W.get m≠none->s.W.get m≠none:=fun m q=>by
    cases e:s'.W.get m with
    |none=>exact absurd e q
    |some o'=>obtain⟨o,r1,_⟩:=hw m o' e;rw[r1];simp
   have himg:∀b,d9 ρ' s'.W.get b->d9 ρ s.W.get b:=fun b ⟨m,i,q1,q2,q3⟩=>⟨m,i,q1,hup m q2,q3⟩
   refine⟨ρ',⟨⟨⟨g1.le.nm,fun b o q=>hle _ _ (g1.le.fz _ _ q)⟩,g1.keeps,fun b hb=>g1.img b (himg b hb),fun m hm=>(g1.dom m hm).imp id fun⟨q1,q2⟩=>⟨q1,by omega⟩,acx g1.next hnx,fun b o q=>?_⟩,⟨fun m i o' q1 q2=>?_,fun m1 m2 i j q1 q2 q3 q4 q5=>g2.inj m1 m2 i j q1 q2 (hup _ q3) (hup _ q4) q5,fun b o q=>?_⟩,⟨g3.size,fun t v' hv=>?_⟩,hd.out hT g4⟩,fun m hm=>g5 m (by omega),?_⟩
   ·by_cases hb2:b=i0.b
    ·subst hb2;exact .inr (g1.img _ ⟨n,i0,hr,by rw[hg];simp,rfl⟩)
    have q:(if b=i0.b then _ else ρ.fz b)=some o:=q;rw[if_neg hb2]at q;exact g1.fzn b o q
   ·obtain⟨o,r1,r2⟩:=hw m o' q2;obtain⟨ob,p1,p2⟩:=g2.obj m i o q1 r1;exact⟨ob,p1,r2 _ _ _ _ hT p2⟩
   ·by_cases hb2:b=i0.b
    ·subst hb2;have q:(if i0.b=i0.b then _ else ρ.fz i0.b)=some o:=q;rw[if_pos rfl]at q;cases q;refine⟨hb,fun⟨m,i,q1,q2,q3⟩=>?_⟩;have:=g2.inj m n i i0 q1 hr (hup m q2) (by rw[hg];simp) q3;subst this;exact q2 hn
    have q:(if b=i0.b then _ else ρ.fz b)=some o:=q;rw[if_neg hb2]at q;exact⟨(g2.frz b o q).1,fun q2=>(g2.frz b o q).2 (himg b q2)⟩
   ·obtain⟨v,r1,r2⟩:=hf t v' hv;exact r2 _ _ _ hT (g3.rep t v r1)
   cases ex0<;>cases ex<;>first|exact g6|exact absurd rfl (h2 _)
end
def bg(P:Program)(f:FuncId)(args:List Value)(W:XW)(S:aW->XW->Prop):Prop:=
 ∀ρ args' w m,(∀n,W.next<=n->ρ n=none)->HR P ρ W.get w->aU ρ args args'->CallsIn Fence.wide m P f args'.toArray w fun en w'=>∃e W',S e W'/\QF P ρ W w e W' en w'
structure NE(P:Program)(ν:Nat->Nat)(k:Nat)(W:XW)(θ:Nat->Option Nat)(eL:aW)(WL:XW)(e:aW)(W':XW):Prop where
 name:∀m x,θ m=some x->(m<k/\x=ν m)\/(k<=m/\W.next<=x/\x<W'.next)
 inj:∀m m' x,θ m=some x->θ m'=some x->m=m'
 obj:∀x o',W'.get x=some o'->(∃m o,θ m=some x/\WL.get m=some o/\TO P (aP θ) o o')\/(W.get x=some o'/\x<W.next/\∀m,m<k->ν m≠x)
 res:IC (aP θ) eL e
 next:W.next<=W'.next
theorem VL{P:Program}{f:FuncId}{args argsL:List Value}{W WL:XW}{S T:aW->XW->Prop}{k:Nat}(ν:Nat->Nat)(θc:Nat->Option Nat)(hk:WL.next=k)
 (hν:∀m m',m<k->m'<k->ν m=ν m'->m=m') (hlt:∀m,m<k->ν m<W.next) (hθ:∀n m,θc n=some m->m<k/\ν m=n)
 (hin:∀m oL,WL.get m=some oL->m<k/\∃o,W.get (ν m)=some o/\TO P (aP θc) o oL) (hargs:jz (aP θc) args argsL)
 (hcall:bg P f argsL WL S) {ρ:Ren} {args':List Value} {w:World} {m:Nat} (hout:∀eL WL',S eL WL'->∃θ e W',T e W'/\cJ ρ W.next W'.next/\NE P ν k W θ eL WL' e W')
 (hH:HR P ρ W.get w) (hA:aU ρ args args'):CallsIn Fence.wide m P f args'.toArray w fun en w'=>∃e W',T e W'/\QF P ρ W w e W' en w':=by
 let ρL:Ren:=⟨fun m=>if m<k then ρ (ν m)else none,ρ.fz⟩
 have hlo:∀m,m<k->ρL m=ρ (ν m):=fun m h=>if_pos h
 have hhi:∀m,k<=m->ρL m=none:=fun m h=>if_neg (by omega)
 have hT:aP θc ρ ρL:=⟨fun _ _ e=>e,fun n m i h hr=>by
  obtain⟨q1,q2⟩:=hθ n m h;rw[hlo m q1,q2];exact hr⟩
 have himgL:∀b,d9 ρL WL.get b->d9 ρ W.get b:=fun b ⟨m,i,q1,q2,q3⟩=>by
  cases e:WL.get m with
  |none=>exact absurd e q2
  |some oL=>
   obtain⟨r1,o,r2,_⟩:=hin m oL e;exact⟨ν m,i,by rw[<-hlo m r1];exact q1,by rw[r2];simp,q3⟩
 have hHL:HR P ρL WL.get w:=⟨fun m i oL q1 q2=>by
  obtain⟨r1,o,r2,r3⟩:=hin m oL q2;rw[hlo m r1]at q1;obtain⟨ob,p1,p2⟩:=hH.obj _ i o q1 r2;exact⟨ob,p1,r3 _ _ _ _ hT p2⟩,fun m1 m2 i j q1 q2 q3 q4 q5=>by
  cases e1:WL.get m1 with
  |none=>exact absurd e1 q3
  |some o1=>
   cases e2:WL.get m2 with
   |none=>exact absurd e2 q4
   |some o2=>
    obtain⟨r1,p1,r2,_⟩:=hin m1 o1 e1;obtain⟨t1,p2,t2,_⟩:=hin m2 o2 e2;rw[hlo m1 r1]at q1;rw[hlo m2 t1]at q2;exact hν _ _ r1 t1 (hH.inj _ _ i j q1 q2 (by rw[r2];simp) (by rw[t2];simp) q5),fun b o q=>⟨(hH.frz b o q).1,fun q2=>(hH.frz b o q).2 (himgL b q2)⟩⟩
 refine CallsIn.mono (hcall ρL args' w m (fun n hn=>hhi n (by omega)) hHL (hargs _ _ _ hT hA)) fun en w' ⟨eL,WL',hS,ρL',g1,g2,g3⟩=>?_
 obtain⟨θ,e,W',hTe,hfr,hs⟩:=hout eL WL' hS;let inv:Nat->Option Nat:=fun x=>open Classical in if h:∃m,θ m=some x then some h.choose else none
 have hinv:∀m x,θ m=some x->inv x=some m:=fun m x h=>by
  have hex:∃m,θ m=some x:=⟨m,h⟩;show(open Classical in if h:∃m,θ m=some x then some h.choose else none)=some m;rw[dif_pos hex];exact congrArg some (hs.inj _ _ _ hex.choose_spec h)
 let ρ':Ren:=⟨fun x=>if W.next<=x/\x<W'.next then(inv x).bind ρL'.nm else ρ x,ρL'.fz⟩
 have hold:∀x,x<W.next->ρ' x=ρ x:=fun x h=>if_neg (by omega)
 have hnew:∀x,W.next<=x->x<W'.next->ρ' x=(inv x).bind ρL'.nm:=fun x h1 h2=>if_pos ⟨h1,h2⟩
 have hat:∀m x i,θ m=some x->ρL' m=some i->ρ' x=some i\/(m<k/\ρ x=none/\ρL m=none):=fun m x i h hr=>by
  rcases hs.name m x h with⟨q1,rfl⟩|⟨q1,q2,q3⟩
  ·cases hx:ρ (ν m)with
   |none=>exact .inr ⟨q1,rfl,by rw[hlo m q1];exact hx⟩
   |some j=>
    have:=g1.le m j (by rw[hlo m q1];exact hx);rw[hr]at this;cases this;left;rw[hold _ (hlt m q1)];exact hx
  left;rw[hnew x q2 q3,hinv m x h];exact hr
 have hat':∀m x i,θ m=some x->ρL' m=some i->ρ' x=some i:=fun m x i h hr=>by
  rcases hat m x i h hr with q|⟨q1,q2,q3⟩
  ·exact q
  exfalso;rcases g1.dom m (by rw[hr];simp)with r|⟨r,_⟩
  ·exact r q3
  omega
 have hT':aP θ ρL' ρ':=⟨fun _ _ e=>e,fun n m i h hr=>hat' n m i h hr⟩;have back:∀x i,ρ' x=some i->W'.get x≠none->(∃m o o',θ m=some x/\ρL' m=some i/\WL'.get m=some o/\W'.get x=some o'/\TO P (aP θ) o o')\/(ρ x=some i/\W.get x=W'.get x/\x<W.next/\∀m,m<k->ν m≠x):=fun x i q1 q2=>by
  cases e:W'.get x with
  |none=>exact absurd e q2
  |some o'=>
   rcases hs.obj x o' e with⟨m,o,r1,r2,r3⟩|⟨r1,r2,r3⟩
   ·left;refine⟨m,o,o',r1,?_,r2,rfl,r3⟩;rcases hs.name m x r1 with⟨p1,rfl⟩|⟨p1,p2,p3⟩
    ·rw[hold _ (hlt m p1)]at q1;exact g1.le m i (by rw[hlo m p1];exact q1)
    rw[hnew x p2 p3,hinv m x r1]at q1;exact q1
   exact .inr ⟨by rw[<-hold x r2];exact q1,r1,r2,r3⟩
 have apart:∀x i,ρ x=some i->W.get x≠none->(∀m,m<k->ν m≠x)->¬d9 ρL WL.get i.b:=fun x i q1 q2 q3 ⟨m,j,r1,r2,r3⟩=>by
  cases e:WL.get m with
  |none=>exact absurd e r2
  |some oL=>
   obtain⟨t1,o,t2,_⟩:=hin m oL e;rw[hlo m t1]at r1;exact q3 m t1 (hH.inj _ _ j i r1 q1 (by rw[t2];simp) q2 r3)
 have apart':∀x i,ρ x=some i->W.get x≠none->(∀m,m<k->ν m≠x)->¬d9 ρL' WL'.get i.b:=fun x i q1 q2 q3 q=>by
  rcases g1.img _ q with r|r
  ·exact apart x i q1 q2 q3 r
  have:=hH.live q1 q2;omega
 have himg:∀b,d9 ρ' W'.get b->d9 ρL' WL'.get b\/d9 ρ W.get b:=fun b ⟨x,i,q1,q2,q3⟩=>by
  rcases back x i q1 q2 with⟨m,o,o',r1,r2,r3,_,_⟩|⟨r1,r2,_,_⟩
  ·exact .inl ⟨m,i,r2,by rw[r3];simp,q3⟩
  exact .inr ⟨x,i,r1,by rw[r2];exact q2,q3⟩
 refine⟨e,W',hTe,ρ',⟨⟨fun x i q=>?_,g1.le.fz⟩,g1.keeps.mono fun b _ hb=>himgL b hb,fun b hb=>?_,fun x hx=>?_,hs.next,fun b o q=>?_⟩,⟨fun x i o' q1 q2=>?_,fun x y i j q1 q2 q3 q4 q5=>?_,fun b o q=>⟨(g2.frz b o q).1,fun q2=>?_⟩⟩,hs.res.out hT' g3⟩
 ·show(if W.next<=x/\x<W'.next then _ else ρ x)=some i;by_cases hx:W.next<=x/\x<W'.next
  ·rw[hfr x hx.1 hx.2]at q;cases q
  rw[if_neg hx];exact q
 ·rcases himg b hb with q|q
  ·rcases g1.img b q with r|r
   ·exact .inl (himgL b r)
   exact .inr r
  exact .inl q
 ·by_cases hq:W.next<=x/\x<W'.next
  ·exact .inr hq
  have hx:(if W.next<=x/\x<W'.next then _ else ρ x)≠none:=hx;rw[if_neg hq]at hx;exact .inl hx
 ·exact(g1.fzn b o q).imp id (Or.imp (himgL b) id)
 ·rcases back x i q1 (by rw[q2];simp)with⟨m,o,o2,r1,r2,r3,r4,r5⟩|⟨r1,r2,r3,r4⟩
  ·rw[q2]at r4;cases r4;obtain⟨ob,p1,p2⟩:=g2.obj m i o r2 r3;exact⟨ob,p1,r5 _ _ _ _ hT' p2⟩
  rw[q2]at r2;obtain⟨ob,p1,p2⟩:=hH.obj x i o' r1 r2;refine⟨ob,g1.keeps.heap p1 (apart x i r1 (by rw[r2];simp) r4),?_⟩;have hle:ρ.le ρ':=⟨fun x i q=>by
   show(if W.next<=x/\x<W'.next then _ else ρ x)=some i;by_cases hx:W.next<=x/\x<W'.next
   ·rw[hfr x hx.1 hx.2]at q;cases q
   rw[if_neg hx];exact q,fun b o q=>g1.le.fz b o q⟩
  exact p2.mono hle
 ·rcases back x i q1 q3 with⟨m,o,o2,r1,r2,r3,r4,_⟩|⟨r1,r2,r3,r4⟩
  ·rcases back y j q2 q4 with⟨m',p,p2,t1,t2,t3,t4,_⟩|⟨t1,t2,t3,t4⟩
   ·have:=g2.inj m m' i j r2 t2 (by rw[r3];simp) (by rw[t3];simp) q5;subst this;rw[r1]at t1;exact Option.some.inj t1
   exact absurd ⟨m,i,r2,by rw[r3];simp,q5⟩ (apart' y j t1 (by rw[t2];exact q4) t4)
  rcases back y j q2 q4 with⟨m',p,p2,t1,t2,t3,t4,_⟩|⟨t1,t2,t3,t4⟩
  ·exact absurd ⟨m',j,t2,by rw[t3];simp,q5.symm⟩ (apart' x i r1 (by rw[r2];exact q3) r4)
  exact hH.inj x y i j r1 t1 (by rw[r2];exact q3) (by rw[t2];exact q4) q5
 obtain⟨x,i,p1,p2,p3⟩:=q2;rcases back x i p1 p2 with⟨m,o1,o2,r1,r2,r3,_,_⟩|⟨r1,r2,r3,r4⟩
 ·exact(g2.frz b o q).2 ⟨m,i,r2,by rw[r3];simp,p3⟩
 rcases g1.fzn b o q with t|t|t
 ·exact(hH.frz b o t).2 ⟨x,i,r1,by rw[r2];exact p2,p3⟩
 ·exact apart x i r1 (by rw[r2];exact p2) r4 (by rw[p3];exact t)
 have:=hH.live r1 (by rw[r2];exact p2);omega
theorem iP{P:Program}{f:FuncId}{args argsL:List Value}{W W' WL:XW}{e:aW}{S:aW->XW->Prop}{k:Nat}(ν:Nat->Nat)(θc:Nat->Option Nat)(hk:WL.next=k)
 (hν:∀m m',m<k->m'<k->ν m=ν m'->m=m') (hlt:∀m,m<k->ν m<W.next) (hθ:∀n m,θc n=some m->m<k/\ν m=n)
 (hin:∀m oL,WL.get m=some oL->m<k/\∃o,W.get (ν m)=some o/\TO P (aP θc) o oL) (hargs:jz (aP θc) args argsL)
 (hcall:bg P f argsL WL S) (hout:∀eL WL',S eL WL'->∃θ,NE P ν k W θ eL WL' e W'):mV P f args W e W':=fun ρ args' w m hfr hH hA=>
 CallsIn.mono (VL (T:=fun a b=>a=e/\b=W') ν θc hk hν hlt hθ hin hargs hcall (fun eL WL' hS=>by
  obtain⟨θ,hs⟩:=hout eL WL' hS;exact⟨θ,e,W',⟨rfl,rfl⟩,hfr,hs⟩) hH hA) fun en w' ⟨a,b,⟨h1,h2⟩,hq⟩=>by subst h1;subst h2;exact hq
def pm{α:Type}(t:PT α):List (Nat×Option α)->PT α
 |[]=>t
 |(n,x)::l=>(pm t l).set n x
def lk{α:Type}:List (Nat×Option α)->Nat->Option α
 |[],_=>none
 |(n,x)::l,m=>if n=m then x else lk l m
theorem tK{α:Type}:∀(k n:Nat),n+1<2^k->(PT.full k:PT α).room n=true
 |0,n,h=>by simp at h
 |k+1,n,h=>by
  have h2:2^(k+1)=2*2^k:=by rw[Nat.pow_succ];omega
  unfold PT.full PT.room;by_cases h0:n=0
  ·subst h0;rfl
  rw[gz h0,cond_false];by_cases h1:n%2=1
  ·rw[show Nat.beq (n%2) 1=true by rw[h1];rfl,cond_true];exact tK k _ (by omega)
  rw[gz h1,cond_false];exact tK k _ (by omega)
theorem GW{α:Type}{t:PT α}{n:Nat}:∀l:List (Nat×Option α),(pm t l).room n=t.room n
 |[]=>rfl
 |(m,x)::l=>by rw[pm,PT.room_set,GW l]
theorem Ck{α:Type}{k n:Nat}(h:n+1<2^k):∀l:List (Nat×Option α),(pm (PT.full k) l).get n=lk l n
 |[]=>PT.get_full k n
 |(m,x)::l=>by
  unfold pm lk;by_cases e:m=n
  ·subst e;rw[if_pos rfl,PT.get_set_room,GW,tK k m h,if_pos rfl]
  rw[if_neg e,PT.get_set_ne _ _ _ _ (fun q=>e q.symm)];exact Ck h l
def ao(F:List (Nat×Option Value)):XF:=pm (PT.full 9) F
def wd(L:List (Nat×Option ah))(n:Nat)(lg:List Nat)(nl:Nat):XW:=⟨pm (PT.full 14) L,n,lg,nl⟩
theorem e9{F:List (Nat×Option Value)}{t:Nat}(h:t<511):(ao F).get t=lk F t:=Ck (by omega) F
theorem ae{L:List (Nat×Option ah)}{n nl m:Nat}{lg:List Nat}(h:m<n)(h2:m<16383):(wd L n lg nl).get m=lk L m:=by
 rw[XW.get_lt (show m<(wd L n lg nl).next from h)];exact Ck (by omega) L
theorem i4{L:List (Nat×Option ah)}{n nl m:Nat}{lg:List Nat}{o:Option ah}:(wd L n lg nl).put m o=wd ((m,o)::L) n (m::lg) (nl+1):=rfl
theorem gI{L:List (Nat×Option ah)}{n nl:Nat}{lg:List Nat}{o:ah}:(wd L n lg nl).push o=wd ((n,some o)::L) (n+1) lg nl:=rfl
theorem dk{L:List (Nat×Option ah)}{n nl:Nat}{lg:List Nat}:(wd L n lg nl).next=n:=rfl
theorem ab{α:Type}{n:Nat}{x:Option α}{l:List (Nat×Option α)}:lk ((n,x)::l) n=x:=if_pos rfl
theorem aa{α:Type}{n m:Nat}{x:Option α}{l:List (Nat×Option α)}(h:n≠m):lk ((n,x)::l) m=lk l m:=if_neg h
theorem da{α:Type}{m:Nat}:lk ([]:List (Nat×Option α)) m=none:=rfl
def bk:Nat->List Value->List (Nat×Option Value)->List (Nat×Option Value)
 |_,[],F=>F
 |n,v::l,F=>bk (n+1) l ((n,some v)::F)
theorem xo:∀(l:List Value) (n:Nat) (F:List (Nat×Option Value)),xD (ao F) n l=ao (bk n l F)
 |[],n,F=>rfl
 |v::l,n,F=>xo l (n+1) ((n,some v)::F)
theorem ph(l:List Value):yK l=ao (bk 0 l []):=xo l 0 []
theorem WB{F:List (Nat×Option Value)}{t:Nat}(h:t<511):ev (ao F) (.tmp t)=lk F t:=e9 h
theorem dm{N:Nat}{F:List (Nat×Option Value)}{t:Nat}{v:Option Value}(h:t<N):cw N (ao F) (some t) v=some (ao ((t,v)::F)):=by
 show(bif Nat.blt t N then some ((ao F).set t v)else none)=_;rw[mj h];rfl
theorem L4{N:Nat}{fr:XF}{v:Option Value}:cw N fr none v=some fr:=rfl
section
variable {P:Program} {t:TypeId} {x y:Operand} {k:IntKind} {a b:Int}
theorem Rc:dH P .add t x y (some (.int k a)) (some (.int k b))=some (.val (some (.int k (k.wrap (a+b))))):=by cases k<;>rfl
theorem TH:dH P .sub t x y (some (.int k a)) (some (.int k b))=some (.val (some (.int k (k.wrap (a-b))))):=by cases k<;>rfl
theorem Qq:dH P .mul t x y (some (.int k a)) (some (.int k b))=some (.val (some (.int k (k.wrap (a*b))))):=by cases k<;>rfl
theorem Rm:dH P .lss t x y (some (.int k a)) (some (.int k b))=some (.val (some (.bool (decide (a<b))))):=by cases k<;>rfl
theorem Ta:dH P .leq t x y (some (.int k a)) (some (.int k b))=some (.val (some (.bool (decide (a<=b))))):=by cases k<;>rfl
theorem Rh:dH P .gtr t x y (some (.int k a)) (some (.int k b))=some (.val (some (.bool (decide (b<a))))):=by cases k<;>rfl
theorem SE:dH P .geq t x y (some (.int k a)) (some (.int k b))=some (.val (some (.bool (decide (b<=a))))):=by cases k<;>rfl
theorem Rk:dH P .eql t x y (some (.int k a)) (some (.int k b))=some (.val (some (.bool (a==b)))):=by cases k<;>rfl
theorem Sc:dH P .neq t x y (some (.int k a)) (some (.int k b))=some (.val (some (.bool (a !=b)))):=by cases k<;>rfl
def nr(op:BinOp)(k:IntKind)(a b:Int):Int:=match op with
 |.and=>k.wrap (BitVec.ofInt k.bits a &&& BitVec.ofInt k.bits b).toNat
 |.or=>k.wrap (BitVec.ofInt k.bits a ||| BitVec.ofInt k.bits b).toNat
 |_=>k.wrap (BitVec.ofInt k.bits a ^^^ BitVec.ofInt k.bits b).toNat
theorem QC:dH P .and t x y (some (.int k a)) (some (.int k b))=some (.val (some (.int k (nr .and k a b)))):=by cases k<;>rfl
theorem UG:dH P .or t x y (some (.int k a)) (some (.int k b))=some (.val (some (.int k (nr .or k a b)))):=by cases k<;>rfl
theorem QU:dH P .xor t x y (some (.int k a)) (some (.int k b))=some (.val (some (.int k (nr .xor k a b)))):=by cases k<;>rfl
theorem lq{op:BinOp}{u v:Value}(hu:cy u=true)(hv:cy v=true):dH P op t x y (some u) (some v)=mt (ay P (mU op t x y u v)):=by
 unfold dH;simp only[hu,hv,Bool.and_true,cond_true]
theorem RX(hb:b≠0):dH P .rem t x y (some (.int k a)) (some (.int k b))=some (.val (some (.int k (a.tmod b)))):=by
 have:ay P (mU .rem t x y (.int k a) (.int k b))=ay P (Op.intDiv .rem k a b):=by cases k<;>rfl
 rw[lq rfl rfl,this];unfold Op.intDiv;rw[if_neg hb];rfl
theorem Q8(hb:b≠0):dH P .quo t x y (some (.int k a)) (some (.int k b))=some (.val (some (.int k (k.wrap (a.tdiv b))))):=by
 have:ay P (mU .quo t x y (.int k a) (.int k b))=ay P (Op.intDiv .quo k a b):=by cases k<;>rfl
 rw[lq rfl rfl,this];unfold Op.intDiv;rw[if_neg hb];rfl
theorem Sz{k':IntKind}(hb:0<=b):dH P .shl t x y (some (.int k a)) (some (.int k' b))=some (.val (some (.int k (k.wrap (a*2^(min b.toNat k.bits)))))):=by
 have:ay P (mU .shl t x y (.int k a) (.int k' b))=ay P (Op.shift .shl k a k' b):=by cases k<;>cases k'<;>rfl
 rw[lq rfl rfl,this];unfold Op.shift;rw[if_neg (by omega)];rfl
theorem R3{k':IntKind}(hb:0<=b):dH P .shr t x y (some (.int k a)) (some (.int k' b))=some (.val (some (.int k (a.fdiv (2^(min b.toNat k.bits)))))):=by
 have:ay P (mU .shr t x y (.int k a) (.int k' b))=ay P (Op.shift .shr k a k' b):=by cases k<;>cases k'<;>rfl
 rw[lq rfl rfl,this];unfold Op.shift;rw[if_neg (by omega)];rfl
theorem T4{b:Bool}:Ao P .not (some (.bool b))=some (.val (some (.bool (!b)))):=rfl
theorem UW:Ao P .neg (some (.int k a))=some (.val (some (.int k (k.wrap (0-a))))):=rfl
theorem Wa:Ao P .xor (some (.int k a))=some (.val (some (.int k (nr .xor k (if k.signed then -1 else k.max) a)))):=by cases k<;>rfl
theorem xN(l m:List UInt8):((str l).toList==(str m).toList)=decide (l=m):=by
 rw[xm,xm];by_cases h:l=m
 ·subst h;simp
 simp[h]
theorem SK{l m:List UInt8}:dH P .eql t x y (some (.string (str l))) (some (.string (str m)))=some (.val (some (.bool (decide (l=m))))):=by
 rw[<-xN];rfl
theorem SV{l m:List UInt8}:dH P .neq t x y (some (.string (str l))) (some (.string (str m)))=some (.val (some (.bool (!decide (l=m))))):=by
 rw[<-xN];rfl
theorem iL(l m:List UInt8):str l++str m=str (l++m):=by
 apply ByteArray.ext;simp[str]
theorem OA{l m:List UInt8}(h:l.length+m.length<9223372036854775808):dH P .add t x y (some (.string (str l))) (some (.string (str m)))=some (.val (some (.string (str (l++m))))):=by
 have:ay P (mU .add t x y (.string (str l)) (.string (str m)))=ay P (Op.stringOp .add (str l) (str m)):=rfl;rw[lq rfl rfl,this];unfold Op.stringOp;have h2:¬((((str l).size+(str m).size:Nat):Int)>IntKind.i64.max):=by
  rw[dO,dO];have:IntKind.i64.max=9223372036854775807:=by decide
  omega
 simp only[if_neg h2];rw[iL];rfl
theorem eG{u:TypeId}{d:TypeDesc}(h:P.underlying u=some d):ay P (Go.underlying u)=some d:=by
 show ay P (match P.underlying u with|some d=>pure d|none=>stuck "no such type")=_;rw[h];rfl
theorem mR{s d:TypeId}{k1 k':IntKind}{W:XW}(hs:P.underlying s=some (.int k1))(hd:P.underlying d=some (.int k)):jp P W s d (some (.int k' a)) (some (.int k1)) (some (.int k))=some (.val (some (.int k (k.wrap a)))):=by
 have:ay P (Go.convert s d (.int k' a))=some (.int k (k.wrap a)):=by unfold Go.convert;show ay P (Sem.bind _ _)=_;rw[j8,eG hs,Option.bind_some];show ay P (Sem.bind _ _)=_;rw[j8,eG hd,Option.bind_some];rfl
 show rF P s d (some (.int k' a))=_;unfold rF;simp only[show cy (Value.int k' a)=true from rfl,cond_true,this];rfl
theorem wrap_i64{n:Int}(h1:-9223372036854775808<=n)(h2:n<9223372036854775808):IntKind.i64.wrap n=n:=by rw[IntKind.wrap_i64];omega
theorem wrap_u64{n:Int}(h1:0<=n)(h2:n<18446744073709551616):IntKind.u64.wrap n=n:=by rw[IntKind.wrap_u64];omega
theorem wrap_u8{n:Int}(h1:0<=n)(h2:n<256):IntKind.u8.wrap n=n:=by rw[IntKind.wrap_u8];omega
end
theorem Nx{k:IntKind}{n:Int}:aX 8 (.int k n)=true:=rfl
theorem Lo{b:Bool}:aX 8 (.bool b)=true:=rfl
theorem Ng{b:ByteArray}:aX 8 (.string b)=true:=rfl
theorem MM:aX 8 .nilIface=true:=rfl
theorem JB:aX 8 .nilFunc=true:=rfl
theorem Mz{l c:Nat}:aX 8 (.slice none l c)=true:=rfl
theorem MJ:aX 8 (.pointer none)=true:=rfl
theorem Ke:aX 8 (.map none)=true:=rfl
theorem Lr{n:Nat}:goInt (n:Int)=.int .i64 (n:Int):=rfl
theorem E8(l:List UInt8)(a b:Nat):(str l).extract a b=str ((l.take b).drop a):=by
 apply ByteArray.ext;rw[ByteArray.data_extract];show l.toArray.extract a b=((l.take b).drop a).toArray;rw[List.extract_toArray,List.extract_eq_take_drop,List.drop_take]
theorem ox{a b:Nat}(h:a<=b):Nat.ble a b=true:=acX h
theorem BQ{a b:Nat}(h:b<a):Nat.ble a b=false:=by
 cases e:Nat.ble a b with
 |false=>rfl
 |true=>have:=Nat.le_of_ble_eq_true e;omega
theorem Zo{a b:Nat}(h:a=b):Nat.beq a b=true:=by subst h;exact acb a
theorem Ys{p:Prop}[Decidable p](h:p):decide p=true:=decide_eq_true h
theorem aab{p:Prop}[Decidable p](h:¬p):decide p=false:=decide_eq_false h
theorem PK{a b:Int}(h:a=b):(a==b)=true:=by subst h;simp
theorem Ph{a b:Int}(h:a≠b):(a==b)=false:=by simpa using h
theorem Zi{a b:Int}(h:a≠b):(a !=b)=true:=by simpa using h
theorem ZC{a b:Int}(h:a=b):(a !=b)=false:=by subst h;simp
theorem SO{k:IntKind}{n:Int}:dr (.int k n)=true:=rfl
theorem MZ{b:Bool}:dr (.bool b)=true:=rfl
theorem zJ{b:ByteArray}:dr (.string b)=true:=rfl
theorem Q9{a:Option Addr}:dr (.pointer a)=true:=rfl
theorem Jw{a:Option Addr}{l c:Nat}:dr (.slice a l c)=true:=rfl
theorem Qs{r:Option Nat}:dr (.map r)=true:=rfl
theorem OF{f:Fn}{a c:Array Value}:dr (.func f a c)=true:=rfl
theorem NQ:dr .nilFunc=true:=rfl
theorem LH{t:TypeId}{v:Value}:dr (.iface t v)=true:=rfl
theorem Nk:dr .nilIface=true:=rfl
theorem VE{cs:List Value}{n:Nat}:dr (FZ cs n)=true:=rfl
theorem Up{cs:List Value}:dr (FP cs)=true:=rfl
theorem Mb:uL []=.tuple #[]:=rfl
theorem MH{a b:Value}{l:List Value}:uL (a::b::l)=.tuple (a::b::l).toArray:=rfl
theorem wJ{l:List UInt8}:(str l).data.toList=l:=rfl
theorem YV{α:Type}{x:α}{l:List α}:(x::l).take 1=[x]:=rfl
theorem Yw{α:Type}{x:α}{l:List α}:(x::l).drop 1=l:=rfl
theorem ZE{fr:XF}{k:IntKind}:ev fr (.const (.int k 0))=some (.int k ((0:Nat):Int)):=rfl
theorem Z7{fr:XF}{k:IntKind}:ev fr (.const (.int k 1))=some (.int k ((1:Nat):Int)):=rfl
theorem ZD{fr:XF}{k:IntKind}:ev fr (.const (.int k 2))=some (.int k ((2:Nat):Int)):=rfl
theorem Y2{fr:XF}{k:IntKind}:ev fr (.const (.int k 3))=some (.int k ((3:Nat):Int)):=rfl
theorem YU{fr:XF}{k:IntKind}:ev fr (.const (.int k 4))=some (.int k ((4:Nat):Int)):=rfl
theorem ZS{fr:XF}{k:IntKind}:ev fr (.const (.int k 5))=some (.int k ((5:Nat):Int)):=rfl
theorem Yq{fr:XF}{k:IntKind}:ev fr (.const (.int k 6))=some (.int k ((6:Nat):Int)):=rfl
theorem Y9{fr:XF}{k:IntKind}:ev fr (.const (.int k 7))=some (.int k ((7:Nat):Int)):=rfl
theorem YY{fr:XF}{k:IntKind}:ev fr (.const (.int k 8))=some (.int k ((8:Nat):Int)):=rfl
theorem ZV{fr:XF}{k:IntKind}:ev fr (.const (.int k 9))=some (.int k ((9:Nat):Int)):=rfl
theorem UU{fr:XF}{k:IntKind}:ev fr (.const (.int k 10))=some (.int k ((10:Nat):Int)):=rfl
theorem U2{fr:XF}{k:IntKind}:ev fr (.const (.int k 11))=some (.int k ((11:Nat):Int)):=rfl
theorem Vr{fr:XF}{k:IntKind}:ev fr (.const (.int k 12))=some (.int k ((12:Nat):Int)):=rfl
theorem UA{fr:XF}{k:IntKind}:ev fr (.const (.int k 13))=some (.int k ((13:Nat):Int)):=rfl
theorem VA{fr:XF}{k:IntKind}:ev fr (.const (.int k 14))=some (.int k ((14:Nat):Int)):=rfl
theorem Xb{fr:XF}{k:IntKind}:ev fr (.const (.int k 15))=some (.int k ((15:Nat):Int)):=rfl
theorem VP{fr:XF}{k:IntKind}:ev fr (.const (.int k 16))=some (.int k ((16:Nat):Int)):=rfl
theorem V8{fr:XF}{k:IntKind}:ev fr (.const (.int k 20))=some (.int k ((20:Nat):Int)):=rfl
theorem Xk{fr:XF}{k:IntKind}:ev fr (.const (.int k 26))=some (.int k ((26:Nat):Int)):=rfl
theorem XV{fr:XF}{k:IntKind}:ev fr (.const (.int k 30))=some (.int k ((30:Nat):Int)):=rfl
theorem WE{fr:XF}{k:IntKind}:ev fr (.const (.int k 31))=some (.int k ((31:Nat):Int)):=rfl
theorem UZ{fr:XF}{k:IntKind}:ev fr (.const (.int k 32))=some (.int k ((32:Nat):Int)):=rfl
theorem WY{fr:XF}{k:IntKind}:ev fr (.const (.int k 33))=some (.int k ((33:Nat):Int)):=rfl
theorem Xj{fr:XF}{k:IntKind}:ev fr (.const (.int k 48))=some (.int k ((48:Nat):Int)):=rfl
theorem XG{fr:XF}{k:IntKind}:ev fr (.const (.int k 63))=some (.int k ((63:Nat):Int)):=rfl
theorem Vt{fr:XF}{k:IntKind}:ev fr (.const (.int k 64))=some (.int k ((64:Nat):Int)):=rfl
theorem XU{fr:XF}{k:IntKind}:ev fr (.const (.int k 65))=some (.int k ((65:Nat):Int)):=rfl
theorem Un{fr:XF}{k:IntKind}:ev fr (.const (.int k 97))=some (.int k ((97:Nat):Int)):=rfl
theorem QT{fr:XF}{k:IntKind}:ev fr (.const (.int k 126))=some (.int k ((126:Nat):Int)):=rfl
theorem Ry{fr:XF}{k:IntKind}:ev fr (.const (.int k 127))=some (.int k ((127:Nat):Int)):=rfl
theorem TJ{fr:XF}{k:IntKind}:ev fr (.const (.int k 128))=some (.int k ((128:Nat):Int)):=rfl
theorem Qj{fr:XF}{k:IntKind}:ev fr (.const (.int k 129))=some (.int k ((129:Nat):Int)):=rfl
theorem Se{fr:XF}{k:IntKind}:ev fr (.const (.int k 250))=some (.int k ((250:Nat):Int)):=rfl
theorem Qv{fr:XF}{k:IntKind}:ev fr (.const (.int k 255))=some (.int k ((255:Nat):Int)):=rfl
theorem S7{fr:XF}{k:IntKind}:ev fr (.const (.int k 256))=some (.int k ((256:Nat):Int)):=rfl
theorem RN{fr:XF}{k:IntKind}:ev fr (.const (.int k 300))=some (.int k ((300:Nat):Int)):=rfl
theorem SU{fr:XF}{k:IntKind}:ev fr (.const (.int k 500))=some (.int k ((500:Nat):Int)):=rfl
theorem NL{fr:XF}{k:IntKind}:ev fr (.const (.int k 1000))=some (.int k ((1000:Nat):Int)):=rfl
theorem OW{fr:XF}{k:IntKind}:ev fr (.const (.int k 4000))=some (.int k ((4000:Nat):Int)):=rfl
theorem MF{fr:XF}{k:IntKind}:ev fr (.const (.int k 65535))=some (.int k ((65535:Nat):Int)):=rfl
theorem Sb{fr:XF}{k:IntKind}{n:Nat}:ev fr (.const (.int k (Int.negSucc n)))=some (.int k (Int.negSucc n)):=rfl
theorem Ov{fr:XF}{k:IntKind}{n:Int}:ev fr (.const (.int k (-n)))=some (.int k (-n)):=rfl
theorem NJ{fr:XF}{b:Bool}:ev fr (.const (.bool b))=some (.bool b):=rfl
theorem Qc{fr:XF}{b:ByteArray}:ev fr (.const (.string b))=some (.string (str b.data.toList)):=by
 have:str b.data.toList=b:=by apply ByteArray.ext;show b.data.toList.toArray=b.data;simp
 rw[this];rfl
theorem M9{fr:XF}:ev fr (.const .nilIface)=some .nilIface:=rfl
theorem Nr{fr:XF}:ev fr (.const .nilFunc)=some .nilFunc:=rfl
theorem OM{fr:XF}:ev fr (.const (.pointer none))=some (.pointer none):=rfl
theorem Oz{fr:XF}:ev fr (.const (.map none))=some (.map none):=rfl
theorem OI{fr:XF}{a b:Nat}:ev fr (.const (.slice none a b))=some (.slice none a b):=rfl
theorem Yb{fr:XF}{f:FuncId}:ev fr (.const (.func (.func f) #[] #[]))=some (.func (.func f) #[] #[]):=rfl
theorem QS{P:Program}{l:List UInt8}{k:IntKind}{i:Nat}(h:i<l.length):wj P (some .string) (some (.string (str l))) (some (.int k (i:Int)))=some (.val (some (.int .u8 ((l[i]).toNat:Int)))):=by
 show xU (str l).data.toList[i]?=_;rw[wJ,abS h];rfl
theorem Lv(a b:Nat):(a:Int)+(b:Int)=((a+b:Nat):Int):=(Int.natCast_add a b).symm
theorem KK(a b:Nat):(a:Int)*(b:Int)=((a*b:Nat):Int):=(Int.natCast_mul a b).symm
theorem JV(n:Nat):(2:Int)^n=((2^n:Nat):Int):=by simp
theorem Iv(a b:Nat):(a:Int).tmod (b:Int)=((a%b:Nat):Int):=by rw[Int.tmod_eq_emod_of_nonneg (by omega)];rfl
theorem I4(a b:Nat):(a:Int).tdiv (b:Int)=((a/b:Nat):Int):=by rw[Int.tdiv_eq_ediv_of_nonneg (by omega)];rfl
theorem IN(a b:Nat):(a:Int).fdiv (b:Int)=((a/b:Nat):Int):=by rw[Int.fdiv_eq_ediv_of_nonneg _ (by omega)];rfl
theorem Fi(a:Nat):(a:Int).toNat=a:=ab2 a
theorem N4:IntKind.u64.bits=64:=rfl
theorem NC:IntKind.i64.bits=64:=rfl
theorem Qm:IntKind.u8.bits=8:=rfl
theorem YO{a b:Nat}(h:a<=b):min a b=a:=acO h
theorem CZ{e:TypeId}:me (some (.slice e))=true:=rfl
theorem By:me (some .string)=true:=rfl
theorem FB:bd bf=true:=by decide
structure dv(P:Program)(H:ci):Prop where
 mixed:P.follows .mixedOrders=true
 sim:wK P H
section
variable {P:Program} {H:ci} {N k:Nat} {s s':XS} {e:gV} {Q:XQ}
theorem dv.simC(h:dv P H)(n:Nat):ji P (bc P H n):=(kS h.mixed h.sim (lu h.mixed) n).1
theorem aG(hB:dv P H){id:Nat}{ops:Array Oper}(h:fR P (bc P H 1) N none ops ops.toList s=some (.code e s'))(q:Q e s'):ar P N k (.region id ops false) s Q:=
 z6 (hB.simC 2) (show bc P H 2 (.code N none (.region id ops false) s)=_ from h) q
theorem eM(hB:dv P H){id:Nat}{ops:Array Oper}{rs:List bp}(h:aY P (bc P H 1) N none ops ops.toList s=some (rs,s'))(hk:jG P ops s.ds.length rs=true)(q:Q .norm s'):ar P N k (.region id ops true) s Q:=
 z6 (hB.simC 2) (show BK P ops s.ds.length (aY P (bc P H 1) N none ops ops.toList s)=some (.code .norm s') by rw[h];show(bif jG P ops s.ds.length rs then _ else none)=_;rw[hk];rfl) q
theorem t7{c d:Code}{x:Operand}(hx:ev s.fr x=some (.bool true))(h:ar P N k c s Q):ar P N k (.cond x c d) s Q:=Cp hx h
theorem kO{c d:Code}{x:Operand}(hx:ev s.fr x=some (.bool false))(h:ar P N k d s Q):ar P N k (.cond x c d) s Q:=Cp (t:=false) hx h
theorem jF{f:FuncId}{args:List Value}{W:XW}:bc P H 1 (.call f args W)=tq P H (bc P H 0) f args W (H.call f):=rfl
theorem eF{α:Type}{f:FuncId}{h:α}{l:List (FuncId×α)}:kM ((f,h)::l) f=some h:=by unfold kM;rw[acb];rfl
theorem dN{α:Type}{f g:FuncId}{h:α}{l:List (FuncId×α)}(hn:f≠g):kM ((g,h)::l) f=kM l f:=by rw[kM,gz hn];rfl
theorem dv.funk(hB:dv P H){f:FuncId}{args:List Value}{W W':XW}{e:aW}(n:Nat)(h:bc P H n (.call f args W)=some (.fin e W')):mV P f args W e W':=fun ρ args' w m hfr hH hA=>
 ((kS hB.mixed hB.sim (lu hB.mixed) n).2.1 f args W e W' h).2 ρ args' w m hfr hH hA
theorem cH{f:FuncId}{fn:Func}{c:Code}{args:List Value}{W:XW}{Q:aW->XW->Prop}(hB:dv P H)(hf:P.funcs[f]?=some fn)(hc:fn.body=some c)(hN:args.length<=fn.ntmps)
 (h:ar P fn.ntmps W.next c ⟨ao (bk 0 args []),W,[]⟩ fun e s=>∃p e' W',oH e=some p/\pK P fn s.fr (cU H s.ds p s.W)=some (.fin e' W')/\Q e' W'):bg P f args W Q:=
 abb hB.sim hf hc hN (by rw[ph];exact h)
end
def gX(P:Program)(o:ah):Prop:=∀T,tp T->TO P T o o
def pW:aW->Prop
 |.ret v=>d8 v
 |.pan v=>d8 v
theorem pW.end{T:RT}(hT:tp T){e:aW}(h:pW e):IC T e e:=by
 cases e<;>exact h T hT
theorem aB{P:Program}{c:List Value}{e:TypeId}{fr:Nat×Nat}(h:cZ c):gX P (.cells c e fr):=fun T hT ρ ρ' i ob ht ho=>by
 cases ho with
 |cells _ _ _ d fr' hz hr hk hll hv hf hq hm=>
  have hrow:vU ρ i.s c d:=hv;obtain⟨us,h1,h2,h3⟩:=hrow.part 0 c.length (by simp);rw[List.drop_zero,List.take_length]at h2;have h4:=h T hT _ _ _ ht h2;refine .cells _ _ _ _ _ hz hr hk hll (fun j v hj=>?_) hf hq hm;obtain⟨u,q1,q2⟩:=h4.get j v hj;exact⟨u,by have:=h3 j u q1;rwa [Nat.add_zero]at this,q2⟩
def only(n:Nat):Nat->Option Nat:=fun x=>if x=n then some 0 else none
theorem A9{n:Nat}:only n n=some 0:=if_pos rfl
section
variable {P:Program} {f:FuncId} {args argsL:List Value} {W W':XW} {e:aW} {S:aW->XW->Prop}
theorem uC(hargs:cZ args)(hcall:bg P f args (wd [] 0 [] 0) S)(hout:∀e' W',S e' W'->e'=e)(he:pW e):mV P f args W e W:=
 iP (k:=0) (fun _=>0) (fun _=>none) rfl (fun m _ h=>by omega) (fun m h=>by omega) (fun n m h=>by cases h) (fun m oL h=>by rw[XW.get_ge (abW _)]at h;cases h) (hargs _ aj) hcall
  fun eL WL' hS=>by
   refine⟨fun _=>none,fun m x h=>(by cases h),fun m m' x h h'=>(by cases h),fun x o' h=>.inr ⟨h,aL h,fun m hm=>by omega⟩,?_,Nat.le_refl _⟩;rw[hout _ _ hS];exact he.end aj
theorem DQ{n:Nat}{o o':ah}(hg:W.get n=some o)(ho:gX P o)(hargs:jz (aP (only n)) args argsL)(hcall:bg P f argsL (wd [(0,some o)] 1 [] 0) S)
 (hout:∀e' W',S e' W'->e'=e/\W'.get 0=some o') (ho':gX P o') (he:pW e):mV P f args W e (W.put n (some o')):=
 iP (k:=1) (fun _=>n) (only n) rfl (fun m m' h h' _=>by omega) (fun m h=>aL hg) (fun x m h=>by
  unfold only at h;split at h
  ·rename_i q;cases h;exact⟨by omega,q.symm⟩
  ·cases h) (fun m oL h=>by
  have hm:m<1:=aL h;have:m=0:=by omega
  subst this;rw[ae (by omega) (by omega),ab]at h;cases h;exact⟨by omega,o,hg,ho _ aj⟩) hargs hcall
  fun eL WL' hS=>by
   refine⟨fun m=>if m=0 then some n else none,fun m x h=>?_,fun m m' x h h'=>?_,fun x o2 h=>?_,?_,Nat.le_refl _⟩
   ·by_cases hm:m=0
    ·rw[if_pos hm]at h;cases h;exact .inl ⟨by omega,rfl⟩
    rw[if_neg hm]at h;cases h
   ·by_cases hm:m=0
    ·by_cases hm':m'=0
     ·omega
     rw[if_neg hm']at h';cases h'
    rw[if_neg hm]at h;cases h
   ·rcases XW.get_put h with⟨rfl,q⟩|⟨q1,q2⟩
    ·cases q;exact .inl ⟨0,o',if_pos rfl,(hout _ _ hS).2,ho' _ aj⟩
    exact .inr ⟨q2,aL q2,fun m hm=>fun q=>q1 q.symm⟩
   rw[(hout _ _ hS).1];exact he.end aj
end
theorem lV{P:Program}{f:FuncId}{fn:Func}{c:Code}(hf:P.funcs[f]?=some fn)(hc:fn.body=some c)(hn:fh fn=true):cS P f:=⟨fn,hf,hn,by rw[hc];rfl⟩
def de{α:Type}(b:Nat)(F:List (Nat×Option α)):List (Nat×Option α)->Prop
 |[]=>True
 |(t,some v)::F'=>(t<b/\lk F t=some v)/\de b F F'
 |(t,none)::F'=>de b F F'
theorem de.mem{α:Type}{b:Nat}{F:List (Nat×Option α)}:∀{F':List (Nat×Option α)},de b F F'->∀t v,(t,some v)∈F'->t<b/\lk F t=some v
 |[],_,t,v,h=>by cases h
 |(t',some v')::F',h,t,v,hp=>by
  rcases List.mem_cons.1 hp with e|hp
  ·cases e;exact h.1
  exact de.mem h.2 t v hp
 |(t',none)::F',h,t,v,hp=>by
  rcases List.mem_cons.1 hp with e|hp
  ·cases e
  exact de.mem (F':=F') h t v hp
theorem bK{α:Type}{n:Nat}{v:α}:∀{l:List (Nat×Option α)},lk l n=some v->(n,some v)∈l
 |[],h=>by cases h
 |(m,x)::l,h=>by
  by_cases e:m=n
  ·subst e;rw[ab]at h;subst h;exact ab4
  rw[aa e]at h;exact aca _ (bK h)
theorem zL{α:Type}{k n:Nat}{v:α}:∀{l:List (Nat×Option α)},(pm (PT.full k) l).get n=some v->lk l n=some v
 |[],h=>by rw[pm,PT.get_full]at h;cases h
 |(m,x)::l,h=>by
  rcases PT.set_some h with⟨rfl,q⟩|⟨q1,q2⟩
  ·rw[ab];exact q
  rw[aa (fun e=>q1 e.symm)];exact zL q2
theorem eQ{F:List (Nat×Option Value)}{t:Nat}{v:Value}(h:(ao F).get t=some v):lk F t=some v:=zL h
theorem bY{L:List (Nat×Option ah)}{n nl m:Nat}{lg:List Nat}{o:ah}(h:(wd L n lg nl).get m=some o):m<n/\lk L m=some o:=by
 have hn:m<n:=aL h;rw[XW.get_lt (show m<(wd L n lg nl).next from hn)]at h;exact⟨hn,zL h⟩
theorem gk{P:Program}{k:Nat}{F F':List (Nat×Option Value)}{L L':List (Nat×Option ah)}{n n' nl nl':Nat}{lg lg':List Nat}{ds:List cq}(hF:de 511 F F')(hL:de (Nat.min n 16383) L L')(hn:n<=n') :
 bz P k ⟨ao F,wd L n lg nl,ds⟩ ⟨ao F',wd L' n' lg' nl',ds⟩:=by
 refine mI (fun t v h=>?_) (fun m o h=>?_) hn rfl
 ·obtain⟨h1,h2⟩:=hF.mem _ _ (bK (eQ h));show(ao F).get t=some v;rw[e9 h1];exact h2
 obtain⟨h1,h2⟩:=hL.mem _ _ (bK (bY h).2);have h3:m<n:=acW h1 (Nat.min_le_left _ _);have h4:m<16383:=acW h1 (Nat.min_le_right _ _);show(wd L n lg nl).get m=some o;rw[ae h3 h4];exact h2
theorem AP(w n:Nat):BitVec.ofInt w (n:Int)=BitVec.ofNat w n:=by
 apply BitVec.eq_of_toNat_eq;rw[BitVec.toNat_ofInt,acY];omega
theorem LT{a y i:Nat}(h:a<2^i):a ||| (y*2^i)=a+y*2^i:=by
 have:=Nat.shiftLeft_add_eq_or_of_lt h y;rw[Nat.shiftLeft_eq]at this;rw[Nat.or_comm,<-this,acy]
theorem Do{e:TypeId}{l:List UInt8}:rY e (some (.string (str l))) (some (.int .u8)) (some 1)=gq (.cells (an l) e (1,1)) l.length bf:=by
 show gq (.cells (an (str l).data.toList) e (1,1)) (str l).size bf=_;rw[wJ,dO]
theorem m4{l:List UInt8}:(an l).all dr=true:=by
 rw[ada];intro v hv;obtain⟨b,_,rfl⟩:=List.mem_map.1 hv;rfl
theorem AY(l:List UInt8):cZ (an l):=Ma fun v hv=>by
 obtain⟨b,_,rfl⟩:=List.mem_map.1 hv;exact dz 1 rfl
def fq(ms:List Nat)(j i:Nat):Bool:=Nat.beq i j||(ms.getD i 0).testBit j
def BG(k:XS->Option (List bp×XS))(o:Oper)(s:XS):Option XF->Option (List bp×XS)
 |some fr=>cW o s ⟨fr,s.W,s.ds⟩ (k ⟨fr,s.W,s.ds⟩)
 |none=>none
def o7(P:Program)(R:XK)(N:Nat)(rd:Option Nat)(all:Array Oper)(ms:List Nat)(j:Nat):Nat->List Oper->XS->Option (List bp×XS)
 |_,[],s=>some ([],s)
 |i,o::l,s=>bif fq ms j i then BG (o7 P R N rd all ms j (i+1) l) o s (cw N s.fr o.dst none)else fV (o7 P R N rd all ms j (i+1) l) o s (iu P R N rd all s o)
def kK(P:Program)(R:XK)(N:Nat)(rd:Option Nat)(all:Array Oper):List Bool->List Oper->XS->Option (List bp×XS)
 |_,[],s=>some ([],s)
 |true::dl,o::l,s=>BG (kK P R N rd all dl l) o s (cw N s.fr o.dst none)
 |false::dl,o::l,s=>fV (kK P R N rd all dl l) o s (iu P R N rd all s o)
 |[],_::_,_=>none
theorem AJ{P:Program}{R:XK}{N:Nat}{rd:Option Nat}{all:Array Oper}{ms:List Nat}{j:Nat}:∀(l:List Oper) (i0:Nat),kK P R N rd all ((List.range' i0 l.length).map (fq ms j)) l=o7 P R N rd all ms j i0 l
 |[],i0=>funext fun s=>by cases(List.range' i0 ([]:List Oper).length).map (fq ms j)<;>rfl
 |o::l,i0=>funext fun s=>by
  have ih:=AJ (P:=P) (R:=R) (N:=N) (rd:=rd) (all:=all) (ms:=ms) (j:=j) l (i0+1);rw[List.length_cons,List.range'_succ,ack];unfold o7;cases fq ms j i0 with
  |true=>show BG (kK P R N rd all _ l) o s _=_;rw[ih];rfl
  |false=>show fV (kK P R N rd all _ l) o s _=_;rw[ih];rfl
def qZ(P:Program)(all:Array Oper)(ms:List Nat)(j:Nat)(rs:List bp):List bp->Nat->Bool
 |[],_=>true
 |r::l,i=>(fq ms j i||nc P r i (dg ms i rs 0) (jr ms i rs 0) (gQ all r.s.fr r.o))&&qZ P all ms j rs l (i+1)
def Gk(P:Program)(all:Array Oper)(n:Nat)(rs:List bp)(j:Nat):Bool:=
 Region.lexB .any all&&iR rs n&&qZ P all (bG all) j rs rs 0&&(dg (bG all) j rs 0).isEmpty
section
variable {P:Program} {R:XK} {N:Nat} {rd rb:Option Nat} {ops:Array Oper} {rs:List bp} {J:Nat->Bool} {σ:Nat->XS} {m:Nat}
theorem qr{ms:List Nat}{j:Nat}:∀(l:List Oper) (i0:Nat) (s:XS) (rs:List bp) (s':XS),o7 P R N rd ops ms j i0 l s=some (rs,s')->∃σ:Nat->XS,σ 0=s/\σ l.length=s'/\rs.length=l.length /\
 ∀i o,l[i]?=some o->((fq ms j (i0+i)=false->iu P R N rd ops (σ i) o=some (.on (σ (i+1))))/\rs[i]?=some ⟨o,σ i,σ (i+1)⟩)/\(fq ms j (i0+i)=true->∃fr,cw N (σ i).fr o.dst none=some fr/\σ (i+1)=⟨fr,(σ i).W,(σ i).ds⟩)
 |[],i0,s,rs,s',h=>by cases h;exact⟨fun _=>s,rfl,rfl,rfl,fun i o h=>by simp at h⟩
 |x::l,i0,s,rs,s',h=>by
  unfold o7 at h;have fin:∀(s1:XS) (l1:List bp) (σ:Nat->XS),σ 0=s1->σ l.length=s'->l1.length=l.length->(∀i o,l[i]?=some o->((fq ms j (i0+1+i)=false->iu P R N rd ops (σ i) o=some (.on (σ (i+1))))/\l1[i]?=some ⟨o,σ i,σ (i+1)⟩)/\(fq ms j (i0+1+i)=true->∃fr,cw N (σ i).fr o.dst none=some fr/\σ (i+1)=⟨fr,(σ i).W,(σ i).ds⟩)) ->
   rs=⟨x,s,s1⟩::l1->(fq ms j i0=false->iu P R N rd ops s x=some (.on s1))->(fq ms j i0=true->∃fr,cw N s.fr x.dst none=some fr/\s1=⟨fr,s.W,s.ds⟩)->∃σ:Nat->XS,σ 0=s/\σ (x::l).length=s'/\rs.length=(x::l).length /\
   ∀i o,(x::l)[i]?=some o->((fq ms j (i0+i)=false->iu P R N rd ops (σ i) o=some (.on (σ (i+1))))/\rs[i]?=some ⟨o,σ i,σ (i+1)⟩)/\(fq ms j (i0+i)=true->∃fr,cw N (σ i).fr o.dst none=some fr/\σ (i+1)=⟨fr,(σ i).W,(σ i).ds⟩):=by
   intro s1 l1 σ h1 h2 h3 h4 hrs g1 g2;subst hrs;refine⟨fun i=>match i with|0=>s|i+1=>σ i,rfl,h2,by simp[h3],fun i o ho=>?_⟩;cases i with
   |zero=>
    simp at ho;subst ho;simp only[h1,Nat.add_zero];exact⟨⟨g1,rfl⟩,g2⟩
   |succ i=>
    have:=h4 i o (by simpa using ho);rw[show i0+1+i=i0+(i+1) by omega]at this;simpa using this
  cases hd:fq ms j i0 with
  |true=>
   rw[hd]at h;simp only[cond_true]at h;unfold BG at h;split at h
   ·rename_i fr hfr;unfold cW at h;split at h
    ·rename_i l1 t hq2;cases h;obtain⟨σ,h1,h2,h3,h4⟩:=qr l (i0+1) _ l1 _ hq2;exact fin _ l1 σ h1 h2 h3 h4 rfl (fun e=>by rw[hd]at e;cases e) fun _=>⟨fr,hfr,rfl⟩
    cases h
   cases h
  |false=>
   rw[hd]at h;simp only[cond_false]at h;unfold fV at h;split at h
   ·rename_i s1 hq;unfold cW at h;split at h
    ·rename_i l1 t hq2;cases h;obtain⟨σ,h1,h2,h3,h4⟩:=qr l (i0+1) s1 l1 _ hq2;exact fin _ l1 σ h1 h2 h3 h4 rfl (fun _=>hq) fun e=>by rw[hd]at e;cases e
    cases h
   cases h
theorem tO{ms:List Nat}{j:Nat}:∀(l:List bp) (i0 d:Nat) (r:bp),qZ P ops ms j rs l i0=true->l[d]?=some r->fq ms j (i0+d)=false->nc P r (i0+d) (dg ms (i0+d) rs 0) (jr ms (i0+d) rs 0) (gQ ops r.s.fr r.o)=true
 |[],i0,d,r,h,hr,_=>by simp at hr
 |x::l,i0,0,r,h,hr,hd=>by
  simp at hr;subst hr;unfold qZ at h;simp only[abZ,acs]at h;rcases h.1 with q|q
  ·rw[Nat.add_zero]at hd;rw[hd]at q;cases q
  exact q
 |x::l,i0,d+1,r,h,hr,hd=>by
  unfold qZ at h;simp only[abZ]at h;have:=tO l (i0+1) d r h.2 (by simpa using hr) (by rwa [show i0+1+d=i0+(d+1) by omega]);rwa [show i0+1+d=i0+(d+1) by omega]at this
theorem P7(hR:f9 R){s s':XS}{j:Nat}(h:o7 P R N rd ops (bG ops) j 0 ops.toList s=some (rs,s'))(hk:Gk P ops s.ds.length rs j=true) :
 ∃σ,σ 0=s/\σ ops.size=s'/\iD P R N rd ops (fq (bG ops) j) σ rs/\dg (bG ops) j rs 0=[]:=by
 obtain⟨σ,h1,h2,h3,h4⟩:=qr _ _ _ _ _ h;have h4:∀i o,ops[i]?=some o->((fq (bG ops) j i=false->iu P R N rd ops (σ i) o=some (.on (σ (i+1))))/\rs[i]?=some ⟨o,σ i,σ (i+1)⟩)/\(fq (bG ops) j i=true->∃fr,cw N (σ i).fr o.dst none=some fr/\σ (i+1)=⟨fr,(σ i).W,(σ i).ds⟩):=fun i o ho=>by
  have:=h4 i o (by simpa using ho);rwa [Nat.zero_add]at this
 unfold Gk at hk;simp only[abZ]at hk;obtain⟨⟨⟨k1,k2⟩,k3⟩,k4⟩:=hk;unfold Region.lexB at k1;simp only[abZ]at k1;have lx:=pG ops.size 0 _ (by simp) (fun j hj=>by simp[hj]) (by omega) k1.2;have sp:∀i o,ops[i]?=some o->(∃v,cw N (σ i).fr o.dst v=some (σ (i+1)).fr)/\bC (σ i).W (σ (i+1)).W/\((σ (i+1)).ds.length=(σ i).ds.length->(σ (i+1)).ds=(σ i).ds):=fun i o ho=>by
  cases hd:fq (bG ops) j i with
  |false=>
   have hq:=(h4 i o ho).1.1 hd;obtain⟨v,g1,g2⟩:=zP hq;exact⟨⟨v,g1⟩,oO hR hq,g2⟩
  |true=>
   obtain⟨fr,g1,g2⟩:=(h4 i o ho).2 hd;rw[g2];exact⟨⟨none,g1⟩,.refl _,fun _=>rfl⟩
 refine⟨σ,h1,by simpa using h2,⟨fun i o ho=>(h4 i o ho).1,fun i o ho=>(sp i o ho).1,fun i hi=>(sp i _ (acl hi)).2.1,fun i o ho=>(lx i o (abW _) ho).1,fun i j oi oj hi hj hij=>(lx i oi (abW _) hi).2 j oj hj hij,fun i o ho hJ hw=>?_,fun i hi=>?_,by simpa using h3⟩,by simpa using k4⟩
 ·right;have:=tO rs 0 i _ k3 (h4 i o ho).1.2 (by rwa [Nat.zero_add]);simp only[Nat.zero_add,hw]at this;exact this
 induction i with
 |zero=>rfl
 |succ i ih=>
  have ih:=ih (by omega);have g2:=(h4 i _ (acl (show i<ops.size by omega))).1.2;have g4:=qN _ _ _ _ k2 g2;rw[(sp i _ (acl (show i<ops.size by omega))).2.2 (by rw[ih,h1];exact g4),ih]
theorem Q7{W:XW}{ds:List cq}{d:Option Tmp}{x:XR}{fr:XF}{v:Value}{s':XS}(h:ku R N rd ⟨fr,W,ds⟩ d (some x)=some (.out v s')):∃W',s'=⟨fr,W',ds⟩/\∀f,ku R N rd ⟨f,W,ds⟩ d (some x)=some (.out v ⟨f,W',ds⟩):=by
 have no:∀{W2:XW} {ds2:List cq} {o:Option XF},iG W2 ds2 o=some (.out v s')->False:=fun h=>by
  unfold iG at h;split at h<;>cases h
 unfold ku at h;split at h
 ·exact(no h).elim
 ·exact(no h).elim
 ·exact(no h).elim
 ·rename_i u e;cases e;cases h;exact⟨W,rfl,fun f=>rfl⟩
 ·unfold Ey at h;split at h
  ·exact(no h).elim
  cases h
 ·rename_i f args e;cases e;unfold mD at h;split at h
  ·exact(no h).elim
  ·rename_i v2 W2 hq;cases h;refine⟨W2,rfl,fun f2=>?_⟩;show mD N f2 d ds (R (.call f args W))=_;simp only at hq;rw[hq];rfl
  cases h
 ·unfold qg at h;split at h
  ·unfold pI at h;split at h
   ·unfold pC at h;split at h
    ·unfold pM at h;split at h
     ·unfold oW at h;split at h
      ·unfold og at h;split at h
       ·exact(no h).elim
       cases h
      cases h
     cases h
    cases h
   cases h
  cases h
 rename_i e;cases e
theorem IP(hR:f9 R)(hC:ji P R)(hF:n9 P R){j:Nat}{oj:Oper}{pv:Value}{sp:XS}{ρ0:Ren}{w0:World}{Q:Exit->Act->World->Prop}(h:iD P R N rd ops (fq (bG ops) j) σ rs)(ho:ops[j]?=some oj)(hp:iu P R N rd ops (σ j) oj=some (.out pv sp))
 (hnx:sp.W.next=(σ j).W.next) (hh:dg (bG ops) j rs 0=[]) (hfr:cJ ρ0 (σ 0).W.next (σ ops.size).W.next) (hrd:jo ρ0 rd rb)
 (hQ:∀ρ ex a w,ρ0.le ρ->ak (d9 ρ0 (σ 0).W.get) w0 w->(∀b,d9 ρ sp.W.get b->d9 ρ0 (σ 0).W.get b\/w0.heap.size<=b)->(∀n,ρ n≠none->ρ0 n≠none\/((σ 0).W.next<=n/\n<(σ ops.size).W.next)) ->
  (∀b o,ρ.fz b=some o->ρ0.fz b=some o\/d9 ρ0 (σ 0).W.get b\/w0.heap.size<=b)->HR P ρ sp.W.get w->FR ρ N (drop (σ j).fr (iS ops oj)) a.tmps->gy ρ (σ 0).ds a.defers->tz ρ (.pan pv) ex->Q ex a w) :
 ∀(fuel:Nat) (listed:Array Bool) (U:List Nat) (ρ:Ren) (a:Act) (w:World),listed.size=ops.size->¬eA listed j ->
 (∀j,j<ops.size->¬eA listed j->j∈U)->U.length<=fuel->Dq ops (eA listed)->qc P N ops σ ρ0 w0 (eA listed) ρ a w->wpAnyIn (FW rb) m P .any ops Q fuel listed a w:=by
 have hj:=EP ho;intro fuel
 induction fuel with
 |zero=>
  intro listed U ρ a w hs hnj hU hl hc hI;have hU0:U=[]:=List.length_eq_zero_iff.1 (Nat.le_zero.1 hl);have:=hU j hj hnj;rw[hU0]at this;cases this
 |succ fuel ih=>
  intro listed U ρ a w hs hnj hU hl hc hI;refine⟨fun hnil=>absurd (CJ h hs hnil j hj) hnj,fun i hi=>?_⟩;obtain⟨k1,o,hoi,k2⟩:=mem_ready.1 hi;obtain⟨q1,q2⟩:=vo.1 k1;have hr:o4 ops (eA listed) i o:=⟨hoi,q2,fun e he=>by
   obtain⟨x,p1,p2,rfl⟩:=pk.1 he;exact k2 x p1 p2,hc⟩
  unfold wpOpIn;rw[hoi];cases hd:fq (bG ops) j i with
  |false=>
   refine Gq hR hC hF hI h hfr hr hd (hrd.mono hI.le) fun ρ' a' w' hI'=>?_
   have hset:=C9 q1;have hij:i≠j:=fun e=>by subst e;unfold fq at hd;rw[acb]at hd;cases hd
   refine ih (listed.setIfInBounds i true) (U.erase i) ρ' a' w' (by simpa using hs) (by rw[hset];exact fun e=>e.elim hnj fun e=>hij e.symm) (fun j hj hn=>?_) ?_ (fun j oj hj hd e he=>?_) (by rw[hset];exact hI')
   ·rw[hset]at hn;simp only[not_or]at hn;exact(List.mem_erase_of_ne hn.2).2 (hU j hj hn.1)
   ·rw[ac1 (hU i (by omega) q2)];omega
   rw[hset]at hd ⊢;rcases hd with hd|rfl
   ·exact .inl (hc j oj hj hd e he)
   rw[hoi]at hj;cases hj;exact .inl (hr.after e he)
  |true=>
   unfold fq at hd;rcases acs _ _▸hd with q|q
   ·have:=abY q;subst this;rw[ho]at hoi;cases hoi;have hfp:=sH hI h hr;simp only;unfold iu oC at hp;split at hp
    ·rename_i hw;rw[if_pos (jJ hfp (sn.trans hw))];cases hx:cj P (σ i).fr (σ i).W oj.type oj.op with
     |none=>rw[hx]at hp;cases hp
     |some x=>
      rw[hx]at hp;obtain⟨W',rfl,hout⟩:=Q7 hp;have nu:∀n j',j'<ops.size->j'≠i->fe (bG ops) i j'=false->n∉fO (σ j').W (σ (j'+1)).W:=fun n j' g1 g2 g3 g4=>by
       obtain⟨oj',hoj'⟩:=p9 g1;have:n∈dg (bG ops) i rs 0:=tQ (d:=j') (h.step j' oj' hoj').2 (by omega) (by rw[Nat.zero_add];exact g3) g4;rw[hh]at this;cases this
      have hsub:∀n ob,ρ n≠none->(σ i).W.get n=some ob->VD ops σ (eA listed) n=some ob:=fun n ob g1 g2=>by
       rw[F0 hI h hfr hr g1 (aL g2) fun j' a1 a2 a3 a4=>absurd a4 (nu n j' a1 a2 a3)];exact g2
      have up:∀n i',ρ n=some i'->(σ i).W.get n≠none->VD ops σ (eA listed) n≠none:=fun n i' k1 k2=>by
       cases e:(σ i).W.get n with
       |none=>exact absurd e k2
       |some ob=>rw[hsub n ob (by rw[k1];simp) e];simp
      have hlive:HR P ρ (σ i).W.get w:=⟨fun n i' ob h1 h2=>hI.hr.obj n i' ob h1 (hsub n ob (by rw[h1];simp) h2),fun n n' i1 i2 h1 h2 h3 h4 h5=>hI.hr.inj n n' i1 i2 h1 h2 (up n i1 h1 h3) (up n' i2 h2 h4) h5,
       fun b ob e=>⟨(hI.hr.frz b ob e).1,fun⟨n,i',k1,k2,k3⟩=>(hI.hr.frz b ob e).2 ⟨n,i',k1,up n i' k1 k2,k3⟩⟩⟩
      have himg:∀b,d9 ρ (σ i).W.get b->d9 ρ0 (σ 0).W.get b\/w0.heap.size<=b:=fun b ⟨n,i',k1,k2,k3⟩=>hI.img b ⟨n,i',k1,up n i' k1 k2,k3⟩
      have hd':rd=none\/∀c,oj.op≠.defer c:=by
       cases rd with
       |none=>exact .inl rfl
       |some l=>
        refine .inr fun c hc'=>?_
        rw[hc']at hx;obtain⟨f,as',cap,rfl⟩:=uz hx;cases hp
      have hnx:W'.next=(σ i).W.next:=hnx;have hx':cj P (drop (σ i).fr (iS ops oj)) (σ i).W oj.type oj.op=some x:=by rw[Ar CW];exact hx
      refine yJ hR hC hF (s:=⟨drop (σ i).fr (iS ops oj),(σ i).W,(σ i).ds⟩) (hrd.mono hI.le) hd' (rj hlive hfp.ev hx') (hout _) (fun n g1 g2=>?_) hlive hfp (by rw[h.ds i (by omega)];exact hI.ds) (fun s' e=>by cases e) (fun v s' e ρ' ex a' w' ho hex=>?_)
      ·exfalso;have g1:(σ i).W.next<=n:=g1;have g2:n<W'.next:=g2;omega
      cases e;obtain⟨g1,g2,g3,g4⟩:=ho;have g1:ca ρ (σ i).W.get (σ i).W.next w ρ' W'.get W'.next w':=g1;have g4:gy ρ' (σ i).ds a'.defers:=g4;rw[h.ds i (by omega)]at g4;have k1:=h.nx (i:=0) (j:=i) (abW _) (by omega);have k2:=h.nx (i:=i) (j:=ops.size) (by omega) (Nat.le_refl _);refine hQ ρ' ex a' w' (hI.le.trans g1.le) (hI.keeps.trans' g1.keeps fun b hb e=>(himg b e).elim id fun g=>by omega) (fun b e=>?_) (fun n hn=>?_) (fun b o e=>?_) g2 g3 g4 hex
      ·rcases g1.img b e with q|q
       ·exact himg b q
       exact .inr (acx hI.keeps.size q)
      ·rcases g1.dom n hn with q|⟨q1,q2⟩
       ·rcases hI.dom n q with r|⟨j',r1,r2,r3,r4⟩
        ·exact .inl r
        have t1:=h.nx (i:=0) (j:=j') (abW _) (by omega);have t2:=h.nx (i:=j'+1) (j:=ops.size) r2 (Nat.le_refl _);exact .inr ⟨by omega,by omega⟩
       omega
      rcases g1.fzn b o e with q|q|q
      ·exact hI.fzn b o q
      ·exact .inr (himg b q)
      exact .inr (.inr (acx hI.keeps.size q))
    ·cases hq:iG (σ i).W (σ i).ds (cw N (σ i).fr oj.dst (some undef))with
     |none=>rw[hq]at hp;cases hp
     |some r=>
      rw[hq]at hp;unfold iG at hq;split at hq<;>cases hq;cases hp
    cases hp
   exact absurd (l5 hr.closed hr.op hr.after q) hnj
theorem qQ{H:ci}{k:Nat}{s s' S:XS}{Q:XQ}(hB:dv P H){id:Nat}(j:Nat)(dl:List Bool){oj:Oper}{pv:Value}{W':XW}(hms:(List.range' 0 ops.size).map (fq (bG ops) j)=dl)(h:kK P (bc P H 1) N none ops dl ops.toList s=some (rs,s'))(hk:Gk P ops s.ds.length rs j=true)
 (ho:ops[j]?=some oj) {r:bp} (hr:rs[j]?=some r) (hp:iu P (bc P H 1) N none ops r.s oj=some (.out pv ⟨r.s.fr,W',r.s.ds⟩)) (hnx:W'.next=r.s.W.next) (hS:∀n o,S.W.get n=some o->W'.get n=some o) (hSn:s'.W.next<=S.W.next) (hSf:∀t v,S.fr.get t=some v->t∉iS ops oj/\r.s.fr.get t=some v) (hSd:S.ds=s.ds) (q:Q (.pan pv) S) :
 ar P N k (.region id ops true) s Q:=fun m ρ0 W0 w0 a w h0 h1 hc=>by
 subst hms;rw[<-acv,AJ]at h;obtain⟨ρ,⟨g1,g2,g3,g4⟩,g5,g6⟩:=hc;obtain⟨σ,e0,e1,hreg,hh⟩:=P7 (jV hB.sim.ext 1) h hk;have hrj:=(hreg.step j oj ho).2;rw[hr]at hrj;cases hrj;subst e0 e1;have hno:∀j,¬eA (Array.replicate ops.size false) j:=fun j e=>by
  have hj:=zd e;unfold eA at e;rw[acj,acl hj]at e;simp at e
 have hV:VD ops σ (eA (Array.replicate ops.size false))=(σ 0).W.get:=funext fun n=>by
  unfold VD;rw[jX (abW _) fun j _ _ e=>hno j e.1];rfl
 have hT:∀t,TD ops σ (eA (Array.replicate ops.size false)) t=(σ 0).fr.get t:=fun t=>by
  unfold TD;rw[jX (abW _) fun j _ _ e=>hno j e.1];rfl
 have hn01:=hreg.nx (i:=0) (j:=ops.size) (abW _) (Nat.le_refl _);refine wpIn_region_any hB.mixed (IP (jV hB.sim.ext 1) (hB.simC 1) (kS hB.mixed hB.sim (lu hB.mixed) 1).2.1 (rb:=none) (ρ0:=ρ) (w0:=w.drew) hreg ho hp hnx hh (fun n k1 _=>g5 n k1) trivial (fun ρ' ex a' w' c1 c2 c3 c4 c5 c6 c7 c8 c9=>?_) ops.size _ (List.range ops.size) ρ a w.drew (by simp) (hno j) (fun j hj _=>List.mem_range.2 hj) (by simp) (fun j o ho hd=>absurd hd (hno j)) ?_)
 ·have hsubI:∀b,d9 ρ' S.W.get b->d9 ρ' W'.get b:=fun b hb=>d9.sub hS hb
  have hst:ca ρ (σ 0).W.get (σ 0).W.next w ρ' S.W.get S.W.next w':=ca.drew ⟨c1,c2,fun b hb=>c3 b (hsubI b hb),fun n hn=>(c4 n hn).imp (fun q=>q) fun⟨q1,q2⟩=>⟨q1,by omega⟩,by omega,c5⟩;refine⟨.pan pv,S,q,ρ',⟨g1.trans hst,c6.sub hS,⟨c7.size,fun t v e=>c7.rep t v (by rw[sE _ _ _ (hSf t v e).1];exact(hSf t v e).2)⟩,by rw[hSd];exact c8⟩,fun n hn=>?_,c9⟩;cases e:ρ' n with
  |none=>rfl
  |some i=>
   rcases c4 n (by rw[e];simp)with q|q
   ·exact absurd (g5 n (by omega)) q
   omega
 exact⟨by rw[hV];exact g2.drew,.refl _,.refl _ _,fun b hb=>.inl (by rw[hV]at hb;exact hb),fun n hn=>.inl hn,g3.size,fun t v e=>g3.rep t v (by rw[hT]at e;exact e),g4,fun _ _ h=>.inl h⟩
theorem Bq{H:ci}{k:Nat}{s s' S:XS}{Q:XQ}(hB:dv P H){id:Nat}(j:Nat)(dl:List Bool){oj:Oper}{pv:Value}{W':XW}(hms:(List.range' 0 ops.size).map (fq (bG ops) j)=dl)(h:kK P (bc P H 1) N none ops dl ops.toList s=some (rs,s'))(hk:Gk P ops s.ds.length rs j=true)
 (ho:ops[j]?=some oj) {r:bp} (hr:rs[j]?=some r) (hp:iu P (bc P H 1) N none ops r.s oj=some (.out pv ⟨r.s.fr,W',r.s.ds⟩)) (hnx:W'.next=r.s.W.next) (hS:∀n o,S.W.get n=some o->W'.get n=some o) (hSn:s'.W.next<=S.W.next) (hSf:∀t,S.fr.get t=none) (hSd:S.ds=s.ds) (q:Q (.pan pv) S) :
 ar P N k (.region id ops true) s Q:=qQ hB j dl hms h hk ho hr hp hnx hS hSn (fun t v e=>by rw[hSf t]at e;cases e) hSd q
end
def cY(T:RT)(F:List (Nat×Option Value)):List (Nat×Option Value)->Prop
 |[]=>True
 |(t,v')::F'=>(∀w,v'=some w->t<511/\∃v,lk F t=some v/\TV T v w)/\cY T F F'
theorem cY.mem{T:RT}{F:List (Nat×Option Value)}:∀{F':List (Nat×Option Value)},cY T F F'->∀t w,(t,some w)∈F'->t<511/\∃v,lk F t=some v/\TV T v w
 |[],_,t,w,h=>by cases h
 |(t',v')::F',h,t,w,hp=>by
  rcases List.mem_cons.1 hp with e|hp
  ·cases e;exact h.1 w rfl
  exact h.2.mem t w hp
def gc(P:Program)(T:RT)(R:List (Nat×Option Nat))(n:Nat)(L:List (Nat×Option ah)):List (Nat×Option ah)->Prop
 |[]=>True
 |(m,o')::L'=>(∀w,o'=some w->∃x o,lk R x=some m/\x<n/\x<16383/\lk L x=some o/\TO P T o w)/\gc P T R n L L'
theorem gc.mem{P:Program}{T:RT}{R:List (Nat×Option Nat)}{n:Nat}{L:List (Nat×Option ah)}:∀{L':List (Nat×Option ah)},gc P T R n L L'->∀m w,(m,some w)∈L'->∃x o,lk R x=some m/\x<n/\x<16383/\lk L x=some o/\TO P T o w
 |[],_,t,w,h=>by cases h
 |(t',v')::F',h,t,w,hp=>by
  rcases List.mem_cons.1 hp with e|hp
  ·cases e;exact h.1 w rfl
  exact h.2.mem t w hp
def ke(k n':Nat)(Ri:List (Nat×Option Nat)):List (Nat×Option Nat)->Bool
 |[]=>true
 |(n,some m)::R=>((decide (m<k)&&decide (n=m))||(decide (k<=m)&&decide (lk Ri m=some n)))&&ke k n' Ri R
 |(n,none)::R=>false
theorem ke.mem{k n':Nat}{Ri:List (Nat×Option Nat)}:∀{R:List (Nat×Option Nat)},ke k n' Ri R=true->∀n m,(n,some m)∈R->(m<k/\n=m)\/(k<=m/\lk Ri m=some n)
 |[],_,n,m,h=>by cases h
 |(n0,some m0)::R,h,n,m,hp=>by
  unfold ke at h;simp only[abZ,acs,decide_eq_true_eq]at h;rcases List.mem_cons.1 hp with e|hp
  ·cases e;exact h.1
  exact ke.mem h.2 n m hp
 |(n0,none)::R,h,n,m,hp=>by cases h
theorem fI{P:Program}{k:Nat}{F F':List (Nat×Option Value)}{L L':List (Nat×Option ah)}{n n' nl nl':Nat}{lg lg':List Nat}{ds ds':List cq}(R Ri:List (Nat×Option Nat))(hR:ke k n' Ri R=true)(hRi:∀p∈Ri,p.1<n')(hk:k<=n')
 (hF:cY (aP (lk R)) F F') (hL:gc P (aP (lk R)) R n L L') (hd:ul (aP (lk R)) ds ds'):bz P k ⟨ao F,wd L n lg nl,ds⟩ ⟨ao F',wd L' n' lg' nl',ds'⟩:=by
 refine wU (lk R) (lk Ri) (fun x m h=>ke.mem hR x m (bK h)) (fun m x h=>hRi _ (bK h)) hk (fun t v' h=>?_) (fun m o' h=>?_) hd
 ·obtain⟨h1,v,h2,h3⟩:=hF.mem t v' (bK (eQ h));exact⟨v,by show(ao F).get t=some v;rw[e9 h1];exact h2,h3⟩
 obtain⟨x,o,h1,h2,h3,h4,h5⟩:=hL.mem m o' (bK (bY h).2);exact⟨x,o,h1,by show(wd L n lg nl).get x=some o;rw[ae h2 h3];exact h4,h5⟩
theorem xQ{P:Program}{k:Nat}{F F':List (Nat×Option Value)}{L:List (Nat×Option ah)}{n nl:Nat}{lg:List Nat}{ds ds':List cq}(x:Nat){c:List Value}{e:TypeId}{fr:Nat×Nat}(hx:lk L x=some (.cells c e fr))(hn:x<n)(hn2:n<16383)
 (hF:cY (dL x c) F F') (L':List (Nat×Option ah)) (hL:∀m o',lk ((x,none)::L') m=some o'->m<n->∃o,lk L m=some o/\TO P (dL x c) o o') (hd:ul (dL x c) ds ds') :
 bz P k ⟨ao F,wd L n lg nl,ds⟩ ⟨ao F',wd ((x,none)::L') n lg nl,ds'⟩:=by
 refine kI x (c:=c) (e:=e) (fr:=fr) (by show(wd L n lg nl).get x=_;rw[ae hn (by omega)];exact hx) ?_ (Nat.le_refl _) (fun t v' h=>?_) (fun m o' h=>?_) hd
 ·show(wd ((x,none)::L') n lg nl).get x=none;rw[ae hn (by omega),ab]
 ·obtain⟨h1,v,h2,h3⟩:=hF.mem t v' (bK (eQ h));exact⟨v,by show(ao F).get t=some v;rw[e9 h1];exact h2,h3⟩
 obtain⟨h1,h2⟩:=bY h;obtain⟨o,h3,h4⟩:=hL m o' h2 h1;exact⟨o,by show(wd L n lg nl).get m=some o;rw[ae h1 (by omega)];exact h3,h4⟩
theorem di{T:RT}{F:List (Nat×Option Value)}:cY T F []:=trivial
theorem bR{T:RT}{F F':List (Nat×Option Value)}{t:Nat}{v w:Value}(ht:t<511)(hl:lk F t=some v)(hv:TV T v w)(hs:cY T F F'):cY T F ((t,some w)::F'):=
 ⟨fun u e=>by cases e;exact⟨ht,v,hl,hv⟩,hs⟩
theorem dP{P:Program}{T:RT}{R:List (Nat×Option Nat)}{n:Nat}{L:List (Nat×Option ah)}:gc P T R n L []:=trivial
theorem aN{P:Program}{T:RT}{R:List (Nat×Option Nat)}{n m:Nat}{L L':List (Nat×Option ah)}{o w:ah}(x:Nat)(hR:lk R x=some m)(h1:x<n)(h2:x<16383)(hl:lk L x=some o)(ho:TO P T o w)(hs:gc P T R n L L'):gc P T R n L ((m,some w)::L'):=
 ⟨fun u e=>by cases e;exact⟨x,o,hR,h1,h2,hl,ho⟩,hs⟩
theorem kb{P:Program}{T:RT}{R:List (Nat×Option Nat)}{n m:Nat}{L L':List (Nat×Option ah)}(hs:gc P T R n L L'):gc P T R n L ((m,none)::L'):=
 ⟨fun u e=>(by cases e),hs⟩
theorem cm{P:Program}{T:RT}{c c':List Value}{e:TypeId}{fr:Nat×Nat}(h:jz T c c'):TO P T (.cells c e fr) (.cells c' e fr):=fun ρ ρ' i ob ht ho=>by
 cases ho with
 |cells _ _ _ d fr' hz hr hk hll hv hf hq hm=>
  have hrow:vU ρ i.s c d:=hv;obtain⟨us,h1,h2,h3⟩:=hrow.part 0 c.length (by simp);rw[List.drop_zero,List.take_length]at h2;have h4:=h _ _ _ ht h2;have hl:c'.length=c.length:=by rw[<-h4.length,h2.length]
  refine .cells _ _ _ _ _ hz (by rw[hl];exact hr) hk hll (fun j v hj=>?_) hf hq hm;obtain⟨u,q1,q2⟩:=h4.get j v hj;exact⟨u,by have:=h3 j u q1;rwa [Nat.add_zero]at this,q2⟩
theorem aT{P:Program}{T:RT}{o:ah}(hT:tp T)(h:gX P o):TO P T o o:=h T hT
theorem uK{P:Program}{H:ci}{N k:Nat}{s:XS}{Q:XQ}(hB:dv P H){id:Nat}{ops:Array Oper}{d:Code}(S:XS)(h:∃rs s',aY P (bc P H 1) N none ops ops.toList s=some (rs,s')/\jG P ops s.ds.length rs=true/\bz P k s' S)(q:ar P N k d S Q) :
 ar P N k (.seq (.region id ops true) d) s Q:=by
 obtain⟨rs,s',h1,h2,h3⟩:=h;exact ai (eM hB h1 h2 (eR h3 q))
def j5(n:Nat):Nat->Value
 |0=>.slice none 0 0
 |k+1=>.slice (some ⟨n,0,none⟩) (k+1) bf
def fx(e:TypeId)(c:List Value):Nat->Option ah
 |0=>none
 |_+1=>some (.cells c e (0,0))
def Vj(c:List Value):Nat->Value
 |0=>.slice none 0 0
 |k+1=>FZ c (k+1)
theorem MO{c:List Value}(h:cZ c):∀k,d8 (Vj c k)
 |0=>dz 1 rfl
 |_+1=>GG h
section
variable {P:Program} {R:XK} {N:Nat} {rd:Option Nat} {all:Array Oper} {dl:List Bool} {o:Oper} {l:List Oper} {s:XS}
theorem YH:kK P R N rd all dl [] s=some ([],s):=by cases dl<;>rfl
theorem Sh{t:Nat}:(ao []).get t=none:=by
 cases e:(ao []).get t with
 |none=>rfl
 |some v=>cases eQ e
end
section
variable {P:Program}
theorem IY{α:Type}{f:Program->Sem α}:ay P (program >>= f)=ay P (f P):=rfl
theorem IR{t:TypeId}{i:TypeInfo}(h:P.info? t=some i):ay P (typeInfo t)=some i:=by
 show ay P (match P.info? t with|some i=>pure i|none=>stuck "no such type")=_;rw[h];rfl
theorem yf{t:TypeId}{n:Nat}(h:(P.info? t).map (·.size)=some n):ay P (sizeOf t)=some n:=by
 cases hq:P.info? t with
 |none=>rw[hq]at h;cases h
 |some i=>
  rw[hq]at h;cases h;unfold sizeOf;rw[aH,IR hq];rfl
theorem nb{e:TypeId}{k:IntKind}(hue:P.underlying e=some (.int k)){c:Array Value}{i:Nat}{v:Value}(h:c[i]?=some v):ay P (part e c i)=some v:=by
 have hagg:ay P (isAgg e)=some false:=by unfold isAgg;rw[aH,eG hue];rfl
 unfold part;rw[aH,hagg];show ay P (match c[i]? with|some v=>pure v|none=>stuck "part: no such cell")=_;rw[h];rfl
theorem JF{e:TypeId}{k:IntKind}(hue:P.underlying e=some (.int k)){d:Nat}{j:IntKind}{a:Int}:ay P (Op.equalIn (d+1) e (.int j a) (.int j a))=some true:=by
 rw[Op.equalIn,aH,eG hue];show ay P (if j=j then pure (a==a)else stuck "==: kinds differ")=_;rw[if_pos rfl,beq_self_eq_true];rfl
def Ml(c:List Value):Prop:=∀v∈c,∃j a,v=Value.int j a
theorem uj{c:List Value}(hi:Ml c):cy (.agg c.toArray)=true:=by
 show c.toArray.toList.all (aX 7)=true;rw[List.toList_toArray,ada];intro v hv;obtain⟨j,a,rfl⟩:=hi v hv;rfl
theorem ss(l:List UInt8):Ml (an l):=fun v hv=>by
 obtain⟨b,_,rfl⟩:=List.mem_map.1 hv;exact⟨_,_,rfl⟩
theorem RK{T:TypeId}{f1 f2:Field}{k1 k2:IntKind}(hu:P.underlying T=some (.struct #[f1,f2]))(hst:P.stoodInHeld T=false)(e1:P.underlying f1.type=some (.int k1))(e2:P.underlying f2.type=some (.int k2))(o1:f1.offset=0)(o2:f2.offset=1)
 (hg:P.eqGuardType P.depth T=false) {j1 j2:IntKind} {a b:Int} {x y:Operand} :
 dH P .neq T x y (some (.agg #[.int j1 a,.int j2 b])) (some (.agg #[.int j1 a,.int j2 b]))=some (.val (some (.bool false))):=by
 have p1:ay P (part f1.type #[.int j1 a,.int j2 b] f1.offset)=some (.int j1 a):=nb e1 (by rw[o1];rfl);have p2:ay P (part f2.type #[.int j1 a,.int j2 b] f2.offset)=some (.int j2 b):=nb e2 (by rw[o2];rfl);have hE:ay P (Op.equalIn (9999+1) T (.agg #[.int j1 a,.int j2 b]) (.agg #[.int j1 a,.int j2 b]))=some true:=by
  rw[Op.equalIn,aH,eG hu];simp only[Option.bind_some];rw[IY];rw[hst];simp only[Bool.false_eq_true,if_false];rw[aH];have step:∀(f:Field) (k:IntKind) (j:IntKind) (c:Int),P.underlying f.type=some (.int k)->ay P (part f.type #[.int j1 a,.int j2 b] f.offset)=some (.int j c)->ay P (if f.name≠ "_" then do
   let __do_lift <-part f.type #[.int j1 a,.int j2 b] f.offset
   let __do_lift_1 <-part f.type #[.int j1 a,.int j2 b] f.offset
   let __do_lift <-Op.equalIn 9999 f.type __do_lift __do_lift_1
   if(!__do_lift)=true then pure (ForInStep.done (some false,()))else pure (ForInStep.yield (none,()))
   else pure (ForInStep.yield (none,())):Sem (ForInStep (Option Bool×Unit)))=some (ForInStep.yield (none,())):=fun f k j c hf hp=>by
   by_cases hn:f.name≠ "_"
   ·rw[if_pos hn,aH,hp];simp only[Option.bind_some];rw[aH,hp];simp only[Option.bind_some];rw[aH,show Op.equalIn 9999 f.type (.int j c) (.int j c)=Op.equalIn (9998+1) f.type (.int j c) (.int j c)from rfl,JF hf];rfl
   rw[if_neg hn];rfl
  rw[<-Array.forIn_toList];simp only[List.forIn_cons,List.forIn_nil];rw[aH,step f1 k1 j1 a e1 p1];simp only[Option.bind_some];rw[aH,step f2 k2 j2 b e2 p2];rfl
 have hq:ay P (mU .neq T x y (.agg #[.int j1 a,.int j2 b]) (.agg #[.int j1 a,.int j2 b]))=some (.bool false):=by
  unfold mU;rw[aH];have h1:ay P (Go.eqGuard .neq T x y (.agg #[.int j1 a,.int j2 b]) (.agg #[.int j1 a,.int j2 b]))=some ():=by show ay P (if !(P.eqGuardType P.depth T)then pure ()else _)=_;rw[hg];rfl
  rw[h1];simp only[Option.bind_some];show ay P (Op.equal T (.agg #[.int j1 a,.int j2 b]) (.agg #[.int j1 a,.int j2 b]) >>= fun r=>(pure (Value.bool (!r)):Sem Value))=_;rw[aH,show Op.equal T (.agg #[.int j1 a,.int j2 b]) (.agg #[.int j1 a,.int j2 b])=Op.equalIn (9999+1) T (.agg #[.int j1 a,.int j2 b]) (.agg #[.int j1 a,.int j2 b])from rfl,hE];rfl
 rw[lq rfl rfl,hq];rfl
end
def Ip(b:Nat):Option ah->Option Nat
 |some _=>some b
 |none=>none
structure oF(P:Program)(α:Type) where
 main:α->Nat->Nat->ah
 sat:α->Option ah
 hnd:ah->Option Nat
 hnd_eq:∀a w b,hnd (main a w b)=Ip b (sat a)
 inj:∀a a' w b,main a w b=main a' w b->sat a=sat a'->a=a'
 free:∀a w b b',sat a=none->main a w b=main a w b'
 ren:∀a w w' b b' (θ:Nat->Option Nat),θ w=some w'->(sat a≠none->θ b=some b')->TO P (aP θ) (main a w b) (main a w' b')
 bare:∀a o,sat a=some o->gX P o
inductive Md where
 |rd
 |pl
 |mv
abbrev PP(α:Type):=List Value->α->Option (Value×α×Md)
section
variable {P:Program} {α:Type} {E:oF P α}
def tA(E:oF P α)(W:XW)(w b:Nat)(a:α):Prop:=W.get w=some (E.main a w b)/\∀o,E.sat a=some o->W.get b=some o/\w≠b
def xG(W:XW)(b:Nat):Option ah->XW
 |some _=>W.put b none
 |none=>W
def tM(E:oF P α)(W:XW)(w b:Nat)(a:α):Option (Value×α×Md)->Option (aW×XW)
 |some (v,_,.rd)=>some (.ret v,W)
 |some (v,a',.pl)=>match E.sat a' with
  |some o=>some (.ret v,(W.put b (some o)).put w (some (E.main a' w b)))
  |none=>some (.ret v,(xG W b (E.sat a)).put w (some (E.main a' w 0)))
 |some (v,a',.mv)=>match E.sat a' with
  |some o=>some (.ret v,((xG W b (E.sat a)).push o).put w (some (E.main a' w W.next)))
  |none=>none
 |none=>none
open Classical in
noncomputable def qh(E:oF P α)(p:PP α):HF:=fun args W=>match args with
 |.pointer (some ⟨w,0,none⟩)::xs=>if h:∃a b,tA E W w b a then tM E W w (Classical.choose (ab3 h)) (Classical.choose h) (p xs (Classical.choose h))else none
 |_=>none
theorem tA.uniq{W:XW}{w b b':Nat}{a a':α}(h:tA E W w b a)(k:tA E W w b' a'):a=a'/\(E.sat a≠none->b=b'):=by
 obtain⟨h1,h2⟩:=h;obtain⟨k1,k2⟩:=k;have hm:E.main a w b=E.main a' w b':=Option.some.inj (h1.symm.trans k1);have hh:Ip b (E.sat a)=Ip b' (E.sat a'):=by rw[<-E.hnd_eq a w b,<-E.hnd_eq a' w b',hm]
 cases hs:E.sat a with
 |none=>
  rw[hs]at hh;have hs':E.sat a'=none:=by
   cases e:E.sat a' with
   |none=>rfl
   |some _=>rw[e]at hh;cases hh
  exact⟨E.inj a a' w b' (by rw[<-E.free a w b b' hs];exact hm) (hs.trans hs'.symm),fun q=>absurd rfl q⟩
 |some o=>
  rw[hs]at hh;cases hs':E.sat a' with
  |none=>rw[hs']at hh;cases hh
  |some o'=>
   rw[hs']at hh;have hb:b=b':=Option.some.inj hh;subst hb;have:=(h2 o hs).1.symm.trans (k2 o' hs').1;exact⟨E.inj _ _ _ _ hm (by rw[hs,hs',Option.some.inj this]),fun _=>rfl⟩
theorem Zr{W:XW}{w b b':Nat}{a:α}(h:E.sat a≠none->b=b'){r:Option (Value×α×Md)}(hpl:∀v a',r=some (v,a',.pl)->E.sat a'≠none->E.sat a≠none):tM E W w b a r=tM E W w b' a r:=by
 cases hs:E.sat a with
 |some o=>rw[h (by rw[hs];simp)]
 |none=>
  match r,hpl with
  |none,_=>rfl
  |some (v,a',.rd),_=>rfl
  |some (v,a',.mv),_=>unfold tM;rw[hs];rfl
  |some (v,a',.pl),hpl=>
   have hn:E.sat a'=none:=by
    cases e:E.sat a' with
    |none=>rfl
    |some o=>exact absurd hs (hpl v a' rfl (by rw[e];simp))
   unfold tM;simp only[hn];rw[hs];rfl
theorem KU{p:PP α}{xs:List Value}{W:XW}{w b:Nat}{a:α}(h:tA E W w b a)(hpl:∀v a',p xs a=some (v,a',.pl)->E.sat a'≠none->E.sat a≠none):qh E p (.pointer (some ⟨w,0,none⟩)::xs) W=tM E W w b a (p xs a):=by
 have hx:∃a b,tA E W w b a:=⟨a,b,h⟩;have e:qh E p (.pointer (some ⟨w,0,none⟩)::xs) W=tM E W w (Classical.choose (ab3 hx)) (Classical.choose hx) (p xs (Classical.choose hx)):=dif_pos hx;rw[e];obtain⟨ha,hb⟩:=tA.uniq (ab3 (ab3 hx)) h;generalize Classical.choose (ab3 hx)=b2 at hb ⊢;generalize Classical.choose hx=a2 at ha hb ⊢;subst ha;exact Zr hb hpl
theorem Gn{p:PP α}{args:List Value}{W W':XW}{e:aW}(h:qh E p args W=some (e,W')):∃w b a xs,args=.pointer (some ⟨w,0,none⟩)::xs/\tA E W w b a/\tM E W w b a (p xs a)=some (e,W'):=by
 unfold qh at h;split at h
 ·rename_i w xs;split at h
  ·rename_i hx;exact⟨w,_,_,xs,rfl,ab3 (ab3 hx),h⟩
  cases h
 cases h
def lw(E:oF P α)(a:α):XW:=match E.sat a with
 |some o=>wd [(0,some (E.main a 0 1)),(1,some o)] 2 [] 0
 |none=>wd [(0,some (E.main a 0 1))] 1 [] 0
def UR(E:oF P α)(a a':α)(W':XW):Md->Prop
 |.rd=>W'.get 0=some (E.main a 0 1)/\∀o,E.sat a=some o->W'.get 1=some o
 |.pl=>W'.get 0=some (E.main a' 0 1)/\∀o,E.sat a'=some o->E.sat a≠none/\W'.get 1=some o
 |.mv=>∃b',(lw E a).next<=b'/\W'.get 0=some (E.main a' 0 b')/\∃o,E.sat a'=some o/\W'.get b'=some o
theorem zx{a:α}:(lw E a).next=(match E.sat a with|some _=>2|none=>1):=by
 unfold lw;split<;>rename_i h<;>simp only[h,dk]
theorem WX{a:α}{m:Nat}{o:ah}(h:(lw E a).get m=some o):(m=0/\o=E.main a 0 1)\/(m=1/\E.sat a=some o):=by
 unfold lw at h;split at h
 ·rename_i o' hs;have hm:m<2:=aL h;obtain⟨_,h2⟩:=bY h;have:m=0\/m=1:=by omega
  rcases this with rfl|rfl
  ·rw[ab]at h2;cases h2;exact .inl ⟨rfl,rfl⟩
  rw[aa (by decide),ab]at h2;cases h2;exact .inr ⟨rfl,hs⟩
 rename_i hs;have hm:m<1:=aL h;obtain⟨_,h2⟩:=bY h;have:m=0:=by omega
 subst this;rw[ab]at h2;cases h2;exact .inl ⟨rfl,rfl⟩
theorem FU{W:XW}{b:Nat}{x:Option ah}{m:Nat}{o:ah}(h:(xG W b x).get m=some o):W.get m=some o/\(x≠none->m≠b):=by
 cases x
 ·exact⟨h,fun q=>absurd rfl q⟩
 rcases XW.get_put h with⟨_,z⟩|⟨z1,z2⟩
 ·cases z
 exact⟨z2,fun _=>z1⟩
theorem Gb(W:XW)(b:Nat)(x:Option ah):bC W (xG W b x):=by
 cases x
 ·exact .refl _
 exact .put _ _ _
theorem bg.mono{f:FuncId}{args:List Value}{W:XW}{S T:aW->XW->Prop}(h:bg P f args W S)(k:∀e W',S e W'->T e W'):bg P f args W T:=fun ρ args' w m h1 h2 h3=>
 CallsIn.mono (h ρ args' w m h1 h2 h3) fun en w' ⟨e,W',q,r⟩=>⟨e,W',k e W' q,r⟩
theorem pU{f:FuncId}{xs:List Value}{W W':XW}{w b x2:Nat}{a a':α}{v:Value}(hat:tA E W w b a)(hx:cZ xs)(hv:d8 v)
 (hloc:bg P f (.pointer (some ⟨0,0,none⟩)::xs) (lw E a) fun e WL=>e=.ret v/\∃b',(E.sat a'≠none->(b'=1/\E.sat a≠none/\x2=b)\/((lw E a).next<=b'/\W.next<=x2/\x2<W'.next))/\WL.get 0=some (E.main a' 0 b')/\∀o,E.sat a'=some o->WL.get b'=some o)
 (hnext:W.next<=W'.next) (hobj:∀x o',W'.get x=some o'->(x=w/\o'=E.main a' w x2)\/(x=x2/\x≠w/\E.sat a'=some o')\/(W.get x=some o'/\x≠w/\(E.sat a≠none->x≠b))) :
 mV P f (.pointer (some ⟨w,0,none⟩)::xs) W (.ret v) W':=by
 obtain⟨hw,hs⟩:=hat;have hwn:=aL hw;have hne:E.sat a≠none->w≠b:=fun q=>by
  cases e:E.sat a with
  |none=>exact absurd e q
  |some o=>exact(hs o e).2
 have hbn:E.sat a≠none->b<W.next:=fun q=>by
  cases e:E.sat a with
  |none=>exact absurd e q
  |some o=>exact aL (hs o e).1
 have hk:∀m,m<(lw E a).next->m=0\/(m=1/\E.sat a≠none):=fun m hm=>by
  rw[zx]at hm;cases e:E.sat a with
  |none=>rw[e]at hm;left;exact Nat.lt_one_iff.1 hm
  |some o=>
   rw[e]at hm;have hm:m<2:=hm;by_cases h0:m=0
   ·exact .inl h0
   exact .inr ⟨by omega,by simp⟩
 have hk0:0<(lw E a).next:=by rw[zx];split<;>decide
 have hk1:E.sat a≠none->1<(lw E a).next:=fun q=>by
  rw[zx];split
  ·decide
  rename_i e;exact absurd e q
 obtain⟨θc,hθ⟩:∃θc:Nat->Option Nat,θc=fun n=>if n=w then some 0 else if n=b/\E.sat a≠none then some 1 else none:=⟨_,rfl⟩
 have t0:θc w=some 0:=by rw[hθ];exact if_pos rfl
 have t1:E.sat a≠none->θc b=some 1:=fun q=>by
  rw[hθ];show(if b=w then some 0 else if b=b/\E.sat a≠none then some 1 else none)=some 1;rw[if_neg (Ne.symm (hne q)),if_pos ⟨rfl,q⟩]
 have tc:∀n m,θc n=some m->m<(lw E a).next/\(if m=0 then w else b)=n:=fun n m h=>by
  rw[hθ]at h;simp only at h;split at h
  ·rename_i q;cases h;exact⟨hk0,q.symm⟩
  split at h
  ·rename_i q;cases h;exact⟨hk1 q.2,q.1.symm⟩
  cases h
 refine iP (k:=(lw E a).next) (fun m=>if m=0 then w else b) θc rfl (fun m m' h h' e=>?_) (fun m h=>?_) tc (fun m oL h=>?_) (av (bI t0) (hx _ aj)) hloc (fun eL WL' hS=>?_)
 ·rcases hk m h with rfl|⟨rfl,q⟩<;>rcases hk m' h' with rfl|⟨rfl,q'⟩
  ·rfl
  ·exact absurd e (hne q')
  ·exact absurd e.symm (hne q)
  rfl
 ·rcases hk m h with rfl|⟨rfl,q⟩
  ·exact hwn
  exact hbn q
 ·rcases WX h with⟨rfl,rfl⟩|⟨rfl,q⟩
  ·exact⟨hk0,_,hw,E.ren _ _ _ _ _ _ t0 t1⟩
  exact⟨hk1 (by rw[q];simp),_,(hs _ q).1,E.bare _ _ q _ aj⟩
 obtain⟨rfl,b',hb',g0,g1⟩:=hS;obtain⟨θ,hθ'⟩:∃θ:Nat->Option Nat,θ=fun m=>if m=0 then some w else if m=b'/\E.sat a'≠none then some x2 else none:=⟨_,rfl⟩
 have hb0:E.sat a'≠none->b'≠0:=fun q=>by rcases hb' q with h|h<;>omega
 have hx2:E.sat a'≠none->x2≠w:=fun q=>by
  rcases hb' q with⟨_,h,e⟩|h
  ·rw[e];exact Ne.symm (hne h)
  omega
 have u0:θ 0=some w:=by rw[hθ'];exact if_pos rfl
 have u1:E.sat a'≠none->θ b'=some x2:=fun q=>by
  rw[hθ'];show(if b'=0 then some w else if b'=b'/\E.sat a'≠none then some x2 else none)=some x2;rw[if_neg (hb0 q),if_pos ⟨rfl,q⟩]
 have uc:∀m x,θ m=some x->(m=0/\x=w)\/(m=b'/\E.sat a'≠none/\x=x2):=fun m x h=>by
  rw[hθ']at h;simp only at h;split at h
  ·rename_i q;cases h;exact .inl ⟨q,rfl⟩
  split at h
  ·rename_i q;cases h;exact .inr ⟨q.1,q.2,rfl⟩
  cases h
 refine⟨θ,fun m x h=>?_,fun m m' x h h'=>?_,fun x o' h=>?_,hv _ aj,hnext⟩
 ·rcases uc m x h with⟨rfl,rfl⟩|⟨rfl,q,rfl⟩
  ·exact .inl ⟨hk0,rfl⟩
  rcases hb' q with⟨e1,e2,e3⟩|h
  ·exact .inl ⟨by rw[e1];exact hk1 e2,by rw[e1,e3];rfl⟩
  exact .inr h
 ·rcases uc m x h with⟨rfl,rfl⟩|⟨rfl,q,rfl⟩<;>rcases uc m' _ h' with⟨rfl,e⟩|⟨rfl,q',e⟩
  ·rfl
  ·exact absurd e.symm (hx2 q')
  ·exact absurd e (hx2 q)
  rfl
 rcases hobj x o' h with⟨rfl,rfl⟩|⟨rfl,hxw,q⟩|⟨q1,q2,q3⟩
 ·exact .inl ⟨0,_,u0,g0,E.ren _ _ _ _ _ _ u0 u1⟩
 ·exact .inl ⟨b',_,u1 (by rw[q];simp),g1 _ q,E.bare _ _ q _ aj⟩
 refine .inr ⟨q1,aL q1,fun m hm=>?_⟩;rcases hk m hm with rfl|⟨rfl,q⟩
 ·exact fun e=>q2 e.symm
 exact fun e=>q3 q e.symm
theorem H9{f:FuncId}{p:PP α}(he:cS P f)(hb:∀xs a v a' md,p xs a=some (v,a',md)->cZ xs/\d8 v)
 (hl:∀xs a v a' md,p xs a=some (v,a',md)->bg P f (.pointer (some ⟨0,0,none⟩)::xs) (lw E a) fun e W'=>e=.ret v/\UR E a a' W' md):bS P f (qh E p):=by
 refine⟨he,fun args W e W' h=>?_,fun args W e W' hh=>?_⟩
 ·obtain⟨w,b,a,xs,_,_,h⟩:=Gn h;unfold tM at h;split at h
  ·cases h;exact .refl _
  ·split at h
   ·cases h;exact(bC.put _ _ _).trans (bC.put _ _ _)
   cases h;exact(Gb _ _ _).trans (bC.put _ _ _)
  ·split at h
   ·cases h;exact((Gb _ _ _).trans (bC.push _ _)).trans (bC.put _ _ _)
   cases h
  cases h
 obtain⟨w,b,a,xs,rfl,hat,h⟩:=Gn hh;clear hh;cases hp:p xs a with
 |none=>rw[hp]at h;cases h
 |some q=>
 obtain⟨v,a',md⟩:=q;rw[hp]at h;obtain⟨hbx,hbv⟩:=hb _ _ _ _ _ hp;have hloc:=hl _ _ _ _ _ hp;cases md with
 |rd=>
  cases h;refine pU (a':=a) (x2:=b) hat hbx hbv (hloc.mono fun e WL ⟨h1,h2,h3⟩=>⟨h1,1,fun q=>.inl ⟨rfl,q,rfl⟩,h2,h3⟩) (Nat.le_refl _) fun x o' h=>?_
  by_cases hx:x=w
  ·subst hx;exact .inl ⟨rfl,Option.some.inj (h.symm.trans hat.1)⟩
  by_cases hy:E.sat a≠none/\x=b
  ·obtain⟨hy,rfl⟩:=hy;cases e:E.sat a with
   |none=>exact absurd e hy
   |some o=>exact .inr (.inl ⟨rfl,hx,by rw[<-h,(hat.2 o e).1]⟩)
  exact .inr (.inr ⟨h,hx,fun q e=>hy ⟨q,e⟩⟩)
 |pl=>
  unfold tM at h;cases e':E.sat a' with
  |some o=>
   simp only[e']at h;cases h;refine pU (a':=a') (x2:=b) hat hbx hbv (hloc.mono fun e WL ⟨h1,h2,h3⟩=>⟨h1,1,fun q=>.inl ⟨rfl,(h3 o e').1,rfl⟩,h2,fun o h=>(h3 o h).2⟩) (Nat.le_refl _) fun x o' h=>?_
   rcases XW.get_put h with⟨rfl,q⟩|⟨q1,q2⟩
   ·cases q;exact .inl ⟨rfl,rfl⟩
   rcases XW.get_put q2 with⟨rfl,z⟩|⟨z1,z2⟩
   ·cases z;exact .inr (.inl ⟨rfl,q1,e'⟩)
   exact .inr (.inr ⟨z2,q1,fun _=>z1⟩)
  |none=>
   simp only[e']at h;cases h;have hsn:E.sat a=none\/E.sat a≠none:=by cases E.sat a<;>simp
   refine pU (a':=a') (x2:=0) hat hbx hbv (hloc.mono fun e WL ⟨h1,h2,h3⟩=>⟨h1,1,fun q=>absurd e' q,h2,fun o h=>(h3 o h).2⟩) ?_ fun x o' h=>?_
   ·unfold xG;split<;>exact Nat.le_refl _
   rcases XW.get_put h with⟨rfl,q⟩|⟨q1,q2⟩
   ·cases q;exact .inl ⟨rfl,rfl⟩
   have:=FU q2;exact .inr (.inr ⟨this.1,q1,this.2⟩)
 |mv=>
  unfold tM at h;cases e':E.sat a' with
  |none=>simp only[e']at h;cases h
  |some o=>
   simp only[e']at h;cases h;have hcn:(xG W b (E.sat a)).next=W.next:=by unfold xG;split<;>rfl
   refine pU (a':=a') (x2:=W.next) hat hbx hbv (hloc.mono fun e WL hS=>?_) ?_ fun x o' h=>?_
   ·obtain⟨h1,b',h2,h3,o2,h4,h5⟩:=hS;refine⟨h1,b',fun q=>.inr ⟨h2,Nat.le_refl _,?_⟩,h3,fun o h=>?_⟩
    ·show W.next<(xG W b (E.sat a)).next+1;rw[hcn];exact aci _
    rw[h5,<-h4,h]
   ·show W.next<=(xG W b (E.sat a)).next+1;rw[hcn];exact acU _
   rcases XW.get_put h with⟨rfl,q⟩|⟨q1,q2⟩
   ·cases q;exact .inl ⟨rfl,rfl⟩
   rcases XW.get_push q2 with⟨z1,z2⟩|⟨z1,z2⟩
   ·subst z2;exact .inr (.inl ⟨by rw[z1,hcn],q1,e'⟩)
   have:=FU z2;exact .inr (.inr ⟨this.1,q1,this.2⟩)
end
attribute [go_sem] Nat.reduceAdd Nat.reduceMul Nat.reduceSub
end Go.Proofs.YthlkgmdkabelpaaGreat.X
