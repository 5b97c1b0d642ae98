/-
  Packed by program (tools/pack.py) out of the texts L0 LA LB LC LD LF. No condition.
-/
import Derived.Test.YthlkgmdkabelpaaGreatTS
set_option linter.all false
namespace Go.Proofs.YthlkgmdkabelpaaGreat.X
open Go Go.RowKit
class Br(v:Value):Prop where
 h:dH v
class b7(l:List Value):Prop where
 h:cV l
section
variable {v:Value} {l a b:List Value}
instance:b7 []:=⟨gW⟩
instance [hv:Br v][hl:b7 l]:b7 (v::l):=⟨jB hv.h hl.h⟩
instance [ha:b7 a][hb:b7 b]:b7 (a++b):=⟨su ha.h hb.h⟩
instance {k:IntKind}{n:Int}:Br (.int k n):=⟨di 1 rfl⟩
instance {x:Bool}:Br (.bool x):=⟨di 1 rfl⟩
instance {s:ByteArray}:Br (.string s):=⟨di 1 rfl⟩
instance:Br (.pointer none):=⟨di 1 rfl⟩
instance {x y:Nat}:Br (.slice none x y):=⟨di 1 rfl⟩
instance:Br (.map none):=⟨di 1 rfl⟩
instance:Br .nilFunc:=⟨di 1 rfl⟩
instance:Br .nilIface:=⟨di 1 rfl⟩
instance [h:b7 l]:Br (.agg l.toArray):=⟨KF h.h⟩
instance [h:b7 l]:Br (.tuple l.toArray):=⟨ww h.h⟩
instance {t:TypeId}[h:Br v]:Br (.iface t v):=⟨FJ h.h⟩
instance {n:Nat}[h:b7 l]:Br (FZ l n):=⟨Ec h.h⟩
instance [h:b7 l]:Br (FP l):=⟨M0 h.h⟩
instance {f:FuncId}[ha:b7 a][hb:b7 b]:Br (.func (.func f) a.toArray b.toArray):=⟨fun T hT=>pk (ha.h T hT) (hb.h T hT)⟩
end
class El(α:Type) where
 enc:α->List Value
 m:Nat
 len:∀x,(enc x).length=m
 one:∀x,(enc x).all de=true
 br:∀x,b7 (enc x)
variable {α:Type} [El α]
def sl(l:List α):Value:=FZ (l.flatMap El.enc) l.length
abbrev ro(e:TypeId)(l:List α):ag:=.cells (l.flatMap El.enc) e (0,0)
def gs{β:Type}(n cap:Nat)(l:List β):Value:=.slice (some ⟨n,0,none⟩) l.length cap
instance {x:α}:b7 (El.enc x):=El.br x
instance {l:List α}:b7 (l.flatMap El.enc):=⟨iu (fun x=>(El.br x).h) l⟩
instance {l:List α}:Br (sl l):=⟨(inferInstance:Br (FZ (l.flatMap El.enc) l.length)).h⟩
theorem R9{l:List α}:de (sl l)=true:=rfl
theorem N8{x:α}:(El.enc x).all de=true:=El.one x
theorem Nt{x:α}:(El.enc x).length=El.m α:=El.len x
theorem cM{l:List α}:(l.flatMap El.enc).length=l.length*El.m α:=by
 induction l with
 |nil=>simp
 |cons a l ih=>rw[YB,Yh,El.len,ih,List.length_cons,Za,YX]
theorem Cm{l:List α}:(l.flatMap El.enc).all de=true:=by
 induction l with
 |nil=>rfl
 |cons a l ih=>rw[YB,ZD,El.one,ih];rfl
theorem xQ{l:List α}{k:Nat}:(l.flatMap El.enc).take (k*El.m α)=(l.take k).flatMap El.enc:=by
 induction l generalizing k with
 |nil=>simp
 |cons a l ih=>
  cases k with
  |zero=>simp
  |succ k=>rw[YB,Za,YX,List.take_append,El.len,Zh,List.take_of_length_le (by rw[El.len];omega),List.take_succ_cons,YB,ih]
theorem xY{l:List α}{k:Nat}:(l.flatMap El.enc).drop (k*El.m α)=(l.drop k).flatMap El.enc:=by
 induction l generalizing k with
 |nil=>simp
 |cons a l ih=>
  cases k with
  |zero=>simp
  |succ k=>rw[YB,Za,YX,<-Zo,ZC (El.len a),List.drop_succ_cons,ih]
theorem ot{l:List α}:(l.flatMap El.enc).take (l.length*El.m α)=l.flatMap El.enc:=by rw[xQ,List.take_length]
theorem zJ[Inhabited α]{l:List α}{i:Nat}(h:i<l.length):((l.flatMap El.enc).drop (i*El.m α)).take (El.m α)=El.enc (l.getD i default):=by
 rw[xY,Zv h,YB,Zq (El.len _),Yn,Yl h];rfl
class mJ(P:Program)(α:Type)[El α](e:outParam TypeId) where
 val:α->Value
 i:TypeInfo
 z:Value
 info:P.info? e=some i
 size:i.size=El.m α
 zero:ax P e=some z
 zsz:z.cells.size=El.m α
 ld:∀x,iM P e (El.enc x) 0=some (val x)
 cells:∀x,(val x).cells.toList=El.enc x
theorem mJ.sz{P:Program}{e:TypeId}[t:mJ P α e]:sz P e=some (El.m α):=by unfold X.sz;rw[t.info];exact congrArg some t.size
section
variable {P:Program} {e:TypeId} {W:XW} {l:List α}
theorem Ta:mP W (sl l) (some (.slice e))=some (.val (some (.int .i64 (l.length:Int)))):=rfl
theorem OI:nX (sl l)=some l.length:=rfl
theorem SP{m n:Nat}(hn:n=l.length)(hm:m=El.m α):eZ W m n (sl l)=some (l.flatMap El.enc):=by
 subst hn hm;show(let q:=(l.flatMap El.enc).toArray.toList.take (l.length*El.m α);bif Nat.beq q.length (l.length*El.m α)then some q else none)=_;rw[show(l.flatMap El.enc).toArray.toList=l.flatMap El.enc from rfl,ot];simp only[cM,YC,cond_true]
theorem Qa[t:mJ P α e][Inhabited α]{j:IntKind}{i:Nat}(h:i<l.length):kU P (some (.slice e)) (some (sl l)) (some (.int j (i:Int)))=some (.val (some (FP (El.enc (l.getD i default))))):=by
 show pc (l.flatMap El.enc).toArray.toList i l.length (sz P e)=_;rw[t.sz,show(l.flatMap El.enc).toArray.toList=l.flatMap El.enc from rfl];show(bif Nat.blt i l.length then val (FP (((l.flatMap El.enc).drop (i*El.m α)).take (El.m α)))else none)=_;rw[lj h,zJ h];rfl
def WA{α:Type}[El α](l:List α):Option Nat->Option Nat->Option Operand->Option XR
 |some a,some b,none=>bif Nat.ble a b&&Nat.ble b l.length then val (sl ((l.take b).drop a))else none
 |_,_,_=>none
theorem Qh[t:mJ P α e]{fr:XF}{lo hi mx:Option Operand}:gN P fr W (sl l) lo hi mx (some (.slice e))=WA l (cK fr 0 lo) (cK fr l.length hi) mx:=by
 show GQ (l.flatMap El.enc) l.length (sz P e) (cK fr 0 lo) (cK fr l.length hi) mx=_;rw[t.sz];cases cK fr 0 lo with
 |none=>rfl
 |some a=>
  cases cK fr l.length hi with
  |none=>rfl
  |some b=>
   cases mx with
   |some x=>rfl
   |none=>
    show(bif Nat.ble a b&&Nat.ble b l.length then val (FZ (((l.flatMap El.enc).drop (a*El.m α)).take ((b-a)*El.m α)) (b-a))else none)=(bif Nat.ble a b&&Nat.ble b l.length then _ else none);cases h:(Nat.ble a b&&Nat.ble b l.length)with
    |false=>rfl
    |true=>
     simp only[Yr]at h;have h1:=Nat.le_of_ble_eq_true h.1;have h2:=Nat.le_of_ble_eq_true h.2;rw[xY,xQ,List.drop_take];unfold sl;rw[Yk,Ym,Zc (by omega)]
end
theorem ei[Inhabited α]{l:List α}{i:Nat}(h:i<l.length):l.drop i=l.getD i default::l.drop (i+1):=by
 rw[Zv h,Yn,Yl h];rfl
def ci:Option ag->Option (List Value)
 |some (.cells c _ _)=>some c
 |_=>none
class Mo(e:aZ):Prop where
 h:qQ e
instance {v:Value}[h:Br v]:Mo (.ret v):=⟨h.h⟩
instance {v:Value}[h:Br v]:Mo (.pan v):=⟨h.h⟩
structure Fn(P:Program)(f:FuncId)(args:List Value)(e:aZ):Prop where
 en:cT P f
 ba:cV args
 be:qQ e
 lo:aT P f args (wd [] 0 [] 0) fun e' _=>e'=e
open Classical in
noncomputable def hk1(args:List Value)(e:aZ):HF:=fun a W=>if a=args then some (e,W)else none
theorem kZ{args:List Value}{e:aZ}{W:XW}:hk1 args e args W=some (e,W):=if_pos rfl
theorem nL{P:Program}{f:FuncId}{args:List Value}{e:aZ}(h:Fn P f args e):bQ P f (hk1 args e):=by
 have key:∀a W e' W',hk1 args e a W=some (e',W')->a=args/\e'=e/\W'=W:=fun a W e' W' q=>by
  unfold hk1 at q;split at q
  ·cases q;exact⟨by assumption,rfl,rfl⟩
  cases q
 refine⟨h.en,fun a W e' W' q=>?_,fun a W e' W' q=>?_⟩
 ·obtain⟨_,_,rfl⟩:=key _ _ _ _ q;exact .refl _
 obtain⟨rfl,rfl,rfl⟩:=key _ _ _ _ q;exact rN h.ba h.lo (fun e' W' hS=>hS) h.be
open Classical in
noncomputable def rQ(S:List Value->aZ->Prop):HF:=fun a W=>if h:∃e,S a e then some (h.choose,W)else none
theorem BG{S:List Value->aZ->Prop}{a:List Value}{e:aZ}{W:XW}(h:S a e)(hd:∀e',S a e'->e'=e):rQ S a W=some (e,W):=by
 have hx:∃e,S a e:=⟨e,h⟩;unfold rQ;rw[dif_pos hx,hd _ hx.choose_spec]
theorem zY{P:Program}{f:FuncId}{S:List Value->aZ->Prop}(he:cT P f)(h:∀a e,S a e->Fn P f a e):bQ P f (rQ S):=by
 have key:∀a W e' W',rQ S a W=some (e',W')->S a e'/\W'=W:=fun a W e' W' q=>by
  unfold rQ at q;split at q
  ·rename_i hx;cases q;exact⟨hx.choose_spec,rfl⟩
  cases q
 refine⟨he,fun a W e' W' q=>?_,fun a W e' W' q=>?_⟩
 ·obtain⟨_,rfl⟩:=key _ _ _ _ q;exact .refl _
 obtain⟨q1,rfl⟩:=key _ _ _ _ q;have k:=h _ _ q1;exact rN k.ba k.lo (fun e' W' hS=>hS) k.be
class kJ(P:Program):Prop where
 h:P.follows .mixedOrders=true
variable {P:Program} [hM:kJ P]
theorem b0:dX P (bc [] []):=⟨hM.h,eQ .nil .nil⟩
theorem bh{f:FuncId}{h:HF}(k:bQ P f h):dX P (bc [(f,h)] []):=⟨hM.h,eQ (.cons _ _ _ k .nil) .nil⟩
theorem ur{f f':FuncId}{h h':HF}(k:bQ P f h)(k':bQ P f' h'):dX P (bc [(f,h),(f',h')] []):=⟨hM.h,eQ (.cons _ _ _ k (.cons _ _ _ k' .nil)) .nil⟩
theorem b1{f:FuncId}{args:List Value}{e:aZ}(h:Fn P f args e):dX P (bc [(f,hk1 args e)] []):=⟨hM.h,eQ (.cons _ _ _ (nL h) .nil) .nil⟩
theorem b2{f f':FuncId}{args args':List Value}{e e':aZ}(h:Fn P f args e)(h':Fn P f' args' e'):dX P (bc [(f,hk1 args e),(f',hk1 args' e')] []):=⟨hM.h,eQ (.cons _ _ _ (nL h) (.cons _ _ _ (nL h') .nil)) .nil⟩
section
variable {N k:Nat} {c d r:Code} {s s':XS} {e:gg} {Q:XQ} {x:Operand} {id:Nat} {ops:Array Oper}
theorem rs(q:ay P N k d s' Q)(h:fE P (cd P (bc [] []) 1) N none ops ops.toList s=some (.code .norm s'):=by simp(disch:=first|decide|omega|(simp only[Yh,List.length_cons,List.length_nil,Yk,Ym,Yo]<;>omega)|(simp(disch:=decide) only[ae,ab,aa,ci.eq_1];done)) only[go_sem]<;>with_reducible rfl):ay P N k (.seq (.region id ops false) d) s Q:=ak (aE b0 h q)
theorem rS(q:ay P N k d s' (g9 P N k r Q))(h:fE P (cd P (bc [] []) 1) N none ops ops.toList s=some (.code .norm s'):=by simp(disch:=first|decide|omega|(simp only[Yh,List.length_cons,List.length_nil,Yk,Ym,Yo]<;>omega)|(simp(disch:=decide) only[ae,ab,aa,ci.eq_1];done)) only[go_sem]<;>with_reducible rfl):ay P N k (.seq (.seq (.region id ops false) d) r) s Q:=ak (ak (aE b0 h q))
theorem rl(q:Q .norm s')(h:fE P (cd P (bc [] []) 1) N none ops ops.toList s=some (.code .norm s'):=by simp(disch:=first|decide|omega|(simp only[Yh,List.length_cons,List.length_nil,Yk,Ym,Yo]<;>omega)|(simp(disch:=decide) only[ae,ab,aa,ci.eq_1];done)) only[go_sem]<;>with_reducible rfl):ay P N k (.region id ops false) s Q:=aE b0 h q
theorem rf{p:Prop}(f:p)(q:ay P N k d s' Q)(h:p->fE P (cd P (bc [] []) 1) N none ops ops.toList s=some (.code .norm s'):=by intro hf;simp(disch:=first|decide|omega|(simp only[Yh,List.length_cons,List.length_nil,Yk,Ym,Yo]<;>omega)|(simp(disch:=decide) only[ae,ab,aa,ci.eq_1];done)) only[hf,go_sem]<;>with_reducible rfl):ay P N k (.seq (.region id ops false) d) s Q:=ak (aE b0 (h f) q)
theorem rc{H:cC}(b:dX P H)(q:ay P N k d s' Q)(h:fE P (cd P H 1) N none ops ops.toList s=some (.code .norm s'):=by simp(disch:=first|decide|omega|(simp only[Yh,List.length_cons,List.length_nil,Yk,Ym,Yo]<;>omega)|(simp(disch:=decide) only[ae,ab,aa,ci.eq_1];done)) only[pb,bc,iy,gw,kZ,go_sem]<;>with_reducible rfl):ay P N k (.seq (.region id ops false) d) s Q:=ak (aE b h q)
theorem lB{H:cC}{p:Prop}(f:p)(b:dX P H)(q:ay P N k d s' Q)(h:p->fE P (cd P H 1) N none ops ops.toList s=some (.code .norm s'):=by intro hf;simp(disch:=first|decide|omega|(simp only[Yh,List.length_cons,List.length_nil,Yk,Ym,Yo]<;>omega)|(simp(disch:=decide) only[ae,ab,aa,ci.eq_1];done)) only[hf,pb,bc,iy,gw,kZ,go_sem]<;>with_reducible rfl):ay P N k (.seq (.region id ops false) d) s Q:=ak (aE b (h f) q)
theorem WD{H:cC}(b:dX P H)(q:ay P N k d s' (g9 P N k r Q))(h:fE P (cd P H 1) N none ops ops.toList s=some (.code .norm s'):=by simp(disch:=first|decide|omega|(simp only[Yh,List.length_cons,List.length_nil,Yk,Ym,Yo]<;>omega)|(simp(disch:=decide) only[ae,ab,aa,ci.eq_1];done)) only[pb,bc,iy,gw,kZ,go_sem]<;>with_reducible rfl):ay P N k (.seq (.seq (.region id ops false) d) r) s Q:=ak (ak (aE b h q))
theorem oQ{H:cC}(b:dX P H)(q:Q .norm s')(h:fE P (cd P H 1) N none ops ops.toList s=some (.code .norm s'):=by simp(disch:=first|decide|omega|(simp only[Yh,List.length_cons,List.length_nil,Yk,Ym,Yo]<;>omega)|(simp(disch:=decide) only[ae,ab,aa,ci.eq_1];done)) only[pb,bc,iy,gw,kZ,go_sem]<;>with_reducible rfl):ay P N k (.region id ops false) s Q:=aE b h q
theorem fK{P:Program}{all:Array Oper}{n:Nat}{rs:List bJ}(h1:Region.lexB .any all=true)(h2:jo rs n=true)(h3:ji P all (cJ all) rs rs 0=true):jJ P all n rs=true:=by
 unfold jJ;rw[h1,h2,h3];simp
theorem aI{P:Program}{all:Array Oper}{ms:List Nat}{rs l:List bJ}{r:bJ}{i:Nat}(h:ox P r i (dJ ms i rs 0) (jX ms i rs 0) (ia all r.s.fr r.o)=true)(h2:ji P all ms rs l (i+1)=true):ji P all ms rs (r::l) i=true:=by
 unfold ji;rw[h,h2];rfl
theorem dj{P:Program}{r:bJ}{i:Nat}{u:List Nat}{us:List (Nat×bJ)}{w:Option Bool}{t:TypeId}{x y:Operand}(ho:r.o.op=.indexAddr t x y)(hw:w=some true)(hu:(u.all fun n=>Nat.blt n r.s.W.next||Nat.ble r.s'.W.next n)=true)
 (hc:fq (kU P (P.underlying t) (ev r.s.fr x) (ev r.s.fr y))=true):ox P r i u us w=true:=by
 subst hw;unfold ox;rw[hu,ho];show(u.isEmpty||true&&(true&&fq (kU P (P.underlying t) (ev r.s.fr x) (ev r.s.fr y))||_))=true;rw[hc];simp
theorem rd{rs:List bJ}(q:ay P N k d s' Q)(h:aW P (cd P (bc [] []) 1) N none ops ops.toList s=some (rs,s'):=by simp(disch:=first|decide|omega|(simp only[Yh,List.length_cons,List.length_nil,Yk,Ym,Yo]<;>omega)|(simp(disch:=decide) only[ae,ab,aa,ci.eq_1];done)) only[aW.eq_1,aW.eq_2,iH.eq_1,dI.eq_1,dI.eq_2,go_sem]<;>with_reducible rfl)(hk:jJ P ops s.ds.length rs=true:=by
 refine fK (by kernel_rfl) (by kernel_rfl) ?_
 repeat (refine aI (by first|(refine dj (by with_reducible rfl) (by kernel_rfl) (by kernel_rfl) ?_;simp(disch:=first|decide|omega|(simp only[Yh,List.length_cons,List.length_nil,Yk,Ym,Yo]<;>omega)|(simp(disch:=decide) only[ae,ab,aa,ci.eq_1];done)) only[fq.eq_1,cond_true,go_sem];done)|kernel_rfl) ?_)
 rfl):ay P N k (.seq (.region id ops true) d) s Q:=ak (eu b0 h hk q)
theorem rX{rs:List bJ}{p:Prop}(f:p)(q:ay P N k d s' Q)(h:p->aW P (cd P (bc [] []) 1) N none ops ops.toList s=some (rs,s'):=by intro hf;simp(disch:=first|decide|omega|(simp only[Yh,List.length_cons,List.length_nil,Yk,Ym,Yo]<;>omega)|(simp(disch:=decide) only[ae,ab,aa,ci.eq_1];done)) only[hf,aW.eq_1,aW.eq_2,iH.eq_1,dI.eq_1,dI.eq_2,go_sem]<;>with_reducible rfl)(hk:jJ P ops s.ds.length rs=true:=by
 refine fK (by kernel_rfl) (by kernel_rfl) ?_
 repeat (refine aI (by first|(refine dj (by with_reducible rfl) (by kernel_rfl) (by kernel_rfl) ?_;simp(disch:=first|decide|omega|(simp only[Yh,List.length_cons,List.length_nil,Yk,Ym,Yo]<;>omega)|(simp(disch:=decide) only[ae,ab,aa,ci.eq_1];done)) only[fq.eq_1,cond_true,go_sem];done)|kernel_rfl) ?_)
 rfl):ay P N k (.seq (.region id ops true) d) s Q:=ak (eu b0 (h f) hk q)
theorem rD{rs:List bJ}(q:ay P N k d s' (g9 P N k r Q))(h:aW P (cd P (bc [] []) 1) N none ops ops.toList s=some (rs,s'):=by simp(disch:=first|decide|omega|(simp only[Yh,List.length_cons,List.length_nil,Yk,Ym,Yo]<;>omega)|(simp(disch:=decide) only[ae,ab,aa,ci.eq_1];done)) only[aW.eq_1,aW.eq_2,iH.eq_1,dI.eq_1,dI.eq_2,go_sem]<;>with_reducible rfl)(hk:jJ P ops s.ds.length rs=true:=by
 refine fK (by kernel_rfl) (by kernel_rfl) ?_
 repeat (refine aI (by first|(refine dj (by with_reducible rfl) (by kernel_rfl) (by kernel_rfl) ?_;simp(disch:=first|decide|omega|(simp only[Yh,List.length_cons,List.length_nil,Yk,Ym,Yo]<;>omega)|(simp(disch:=decide) only[ae,ab,aa,ci.eq_1];done)) only[fq.eq_1,cond_true,go_sem];done)|kernel_rfl) ?_)
 rfl):ay P N k (.seq (.seq (.region id ops true) d) r) s Q:=ak (ak (eu b0 h hk q))
theorem WN{rs:List bJ}{p:Prop}(f:p)(q:ay P N k d s' (g9 P N k r Q))(h:p->aW P (cd P (bc [] []) 1) N none ops ops.toList s=some (rs,s'):=by intro hf;simp(disch:=first|decide|omega|(simp only[Yh,List.length_cons,List.length_nil,Yk,Ym,Yo]<;>omega)|(simp(disch:=decide) only[ae,ab,aa,ci.eq_1];done)) only[hf,aW.eq_1,aW.eq_2,iH.eq_1,dI.eq_1,dI.eq_2,go_sem]<;>with_reducible rfl)(hk:jJ P ops s.ds.length rs=true:=by
 refine fK (by kernel_rfl) (by kernel_rfl) ?_
 repeat (refine aI (by first|(refine dj (by with_reducible rfl) (by kernel_rfl) (by kernel_rfl) ?_;simp(disch:=first|decide|omega|(simp only[Yh,List.length_cons,List.length_nil,Yk,Ym,Yo]<;>omega)|(simp(disch:=decide) only[ae,ab,aa,ci.eq_1];done)) only[fq.eq_1,cond_true,go_sem];done)|kernel_rfl) ?_)
 rfl):ay P N k (.seq (.seq (.region id ops true) d) r) s Q:=ak (ak (eu b0 (h f) hk q))
theorem Ia{H:cC}{rs:List bJ}(b:dX P H)(q:ay P N k d s' Q)(h:aW P (cd P H 1) N none ops ops.toList s=some (rs,s'):=by simp(disch:=first|decide|omega|(simp only[Yh,List.length_cons,List.length_nil,Yk,Ym,Yo]<;>omega)|(simp(disch:=decide) only[ae,ab,aa,ci.eq_1];done)) only[pb,bc,iy,gw,kZ,aW.eq_1,aW.eq_2,iH.eq_1,dI.eq_1,dI.eq_2,go_sem]<;>with_reducible rfl)(hk:jJ P ops s.ds.length rs=true:=by
 refine fK (by kernel_rfl) (by kernel_rfl) ?_
 repeat (refine aI (by first|(refine dj (by with_reducible rfl) (by kernel_rfl) (by kernel_rfl) ?_;simp(disch:=first|decide|omega|(simp only[Yh,List.length_cons,List.length_nil,Yk,Ym,Yo]<;>omega)|(simp(disch:=decide) only[ae,ab,aa,ci.eq_1];done)) only[fq.eq_1,cond_true,go_sem];done)|kernel_rfl) ?_)
 rfl):ay P N k (.seq (.region id ops true) d) s Q:=ak (eu b h hk q)
theorem ct(h:ay P N k c s Q)(hx:ev s.fr x=some (.bool true):=by simp(disch:=first|decide|omega|(simp only[Yh,List.length_cons,List.length_nil,Yk,Ym,Yo]<;>omega)|(simp(disch:=decide) only[ae,ab,aa,ci.eq_1];done)) only[go_sem]<;>with_reducible rfl):ay P N k (.cond x c d) s Q:=ri hx h
theorem cf(h:ay P N k d s Q)(hx:ev s.fr x=some (.bool false):=by simp(disch:=first|decide|omega|(simp only[Yh,List.length_cons,List.length_nil,Yk,Ym,Yo]<;>omega)|(simp(disch:=decide) only[ae,ab,aa,ci.eq_1];done)) only[go_sem]<;>with_reducible rfl):ay P N k (.cond x c d) s Q:=jW hx h
theorem cb{b:Bool}(h1:b=true->ay P N k c s Q)(h2:b=false->ay P N k d s Q)(hx:ev s.fr x=some (.bool b):=by simp(disch:=first|decide|omega|(simp only[Yh,List.length_cons,List.length_nil,Yk,Ym,Yo]<;>omega)|(simp(disch:=decide) only[ae,ab,aa,ci.eq_1];done)) only[go_sem]<;>with_reducible rfl):ay P N k (.cond x c d) s Q:=by
 cases b with
 |true=>exact ri hx (h1 rfl)
 |false=>exact jW hx (h2 rfl)
theorem cp{p:Prop}[Decidable p](h1:p->ay P N k c s Q)(h2:¬p->ay P N k d s Q)(hx:ev s.fr x=some (.bool (decide p)):=by simp(disch:=first|decide|omega|(simp only[Yh,List.length_cons,List.length_nil,Yk,Ym,Yo]<;>omega)|(simp(disch:=decide) only[ae,ab,aa,ci.eq_1];done)) only[go_sem]<;>with_reducible rfl):ay P N k (.cond x c d) s Q:=cb (fun e=>h1 (of_decide_eq_true e)) (fun e=>h2 (of_decide_eq_false e)) hx
end
def qL(P:Program)(R:List ResultVar)(fr:XF):Option (Option Value×XW)->Option XO
 |some (some v,W)=>some (.fin (.pan v) W)
 |some (none,W)=>uQ W (p9 P W fr R)
 |none=>none
theorem l6{P:Program}{fn:Func}{fr:XF}{o:Option (Option Value×XW)}:qL P fn.results.toList fr o=nU P fn fr o:=by
 unfold qL nU;cases o with
 |none=>rfl
 |some q=>
  obtain⟨v,W⟩:=q;cases v<;>rfl
def qO(P:Program)(R:List ResultVar)(E:aZ->XW->Prop):XQ:=fun ex s=>∃p e' W',ow ex=some p/\qL P R s.fr (dE (bc [] []) s.ds p s.W)=some (.fin e' W')/\E e' W'
theorem ir{f:FuncId}{fn:Func}{c:Code}{args:List Value}{e:aZ}{F:List (Nat×Option Value)}{N:Nat}{R:Array ResultVar}(hf:P.funcs[f]?=some fn)(hR:fn.results=R)(hc:fn.body=some c:=by rfl)(hN:fn.ntmps=N:=by rfl)(hn:gq fn=true:=by rfl)(hl:args.length<=fn.ntmps:=by exact Nat.le_of_ble_eq_true rfl)
 (hF:bA 0 args []=F:=by simp only[bA.eq_1,bA.eq_2,Nat.reduceAdd]<;>with_reducible rfl) [ha:b7 args] [he:Mo e] (h:ay P N 0 c ⟨an F,wd [] 0 [] 0,[]⟩ (qO P R.toList fun e' _=>e'=e)):Fn P f args e:=
 ⟨kP hf hc hn,ha.h,he.h,by subst hN hF hR;exact cy b0 hf hc hl (fh (fun ex s ⟨p,e',W',h1,h2,h3⟩=>⟨p,e',W',h1,by rw[<-l6];exact h2,h3⟩) h)⟩
section
variable {R:List ResultVar} {E:aZ->XW->Prop} {N k:Nat} {s:XS} {e:aZ} {W:XW} {Q:XQ}
theorem rt(q:E e W)(hQ:qO P R E .ret s->Q .ret s:=by exact fun h=>h)(h:qL P R s.fr (dE (bc [] []) s.ds none s.W)=some (.fin e W):=by simp(disch:=first|decide|omega|(simp only[Yh,List.length_cons,List.length_nil,Yk,Ym,Yo]<;>omega)|(simp(disch:=decide) only[ae,ab,aa,ci.eq_1];done)) only[qL.eq_1,qL.eq_2,go_sem]<;>with_reducible rfl):ay P N k .ret s Q:=ga (hQ ⟨_,e,W,rfl,h,q⟩)
end
section
variable {N k:Nat} {c d r:Code} {s:XS} {Q:XQ} {x:Operand}
theorem st(h:ay P N k c s (g9 P N k r Q))(hx:ev s.fr x=some (.bool true):=by simp(disch:=first|decide|omega|(simp only[Yh,List.length_cons,List.length_nil,Yk,Ym,Yo]<;>omega)|(simp(disch:=decide) only[ae,ab,aa,ci.eq_1];done)) only[go_sem]<;>with_reducible rfl):ay P N k (.seq (.cond x c d) r) s Q:=ak (ri hx h)
theorem sf(h:ay P N k d s (g9 P N k r Q))(hx:ev s.fr x=some (.bool false):=by simp(disch:=first|decide|omega|(simp only[Yh,List.length_cons,List.length_nil,Yk,Ym,Yo]<;>omega)|(simp(disch:=decide) only[ae,ab,aa,ci.eq_1];done)) only[go_sem]<;>with_reducible rfl):ay P N k (.seq (.cond x c d) r) s Q:=ak (jW hx h)
theorem sp{p:Prop}[Decidable p](h1:p->ay P N k c s (g9 P N k r Q))(h2:¬p->ay P N k d s (g9 P N k r Q))(hx:ev s.fr x=some (.bool (decide p)):=by simp(disch:=first|decide|omega|(simp only[Yh,List.length_cons,List.length_nil,Yk,Ym,Yo]<;>omega)|(simp(disch:=decide) only[ae,ab,aa,ci.eq_1];done)) only[go_sem]<;>with_reducible rfl):ay P N k (.seq (.cond x c d) r) s Q:=ak (cp h1 h2 hx)
theorem sb{b:Bool}(h1:b=true->ay P N k c s (g9 P N k r Q))(h2:b=false->ay P N k d s (g9 P N k r Q))(hx:ev s.fr x=some (.bool b):=by simp(disch:=first|decide|omega|(simp only[Yh,List.length_cons,List.length_nil,Yk,Ym,Yo]<;>omega)|(simp(disch:=decide) only[ae,ab,aa,ci.eq_1];done)) only[go_sem]<;>with_reducible rfl):ay P N k (.seq (.cond x c d) r) s Q:=ak (cb h1 h2 hx)
theorem sk(h:ay P N k r s Q):ay P N k .skip s (g9 P N k r Q):=ap h
end
def oP(v v':Value):Prop:=∀ρ x,VR ρ v x->VR ρ v' x
theorem iA{v:Value}:oP v v:=fun _ _ h=>h
theorem Rc{b:Nat}{α:Type}:oP (.slice none 0 0) (gs b aq ([]:List α)):=fun ρ x h=>by rw[h.of_flat 1 rfl];exact .sliceN _ _
theorem Cu{α:Type}[El α]:oP (.slice none 0 0) (sl ([]:List α)):=fun ρ x h=>by rw[h.of_flat 1 rfl];exact .frzE _ _
theorem MU{k:IntKind}{a b:Int}(h:a=b):oP (.int k a) (.int k b):=by subst h;exact iA
theorem QS{q:Prop}[Decidable q](h:q):oP (.bool true) (.bool (decide q)):=by rw[decide_eq_true h];exact iA
theorem SZ{q:Prop}[Decidable q](h:¬q):oP (.bool false) (.bool (decide q)):=by rw[decide_eq_false h];exact iA
theorem Se{p q:Prop}[Decidable p][Decidable q](h:p↔q):oP (.bool (decide p)) (.bool (decide q)):=by rw[decide_eq_decide.2 h];exact iA
theorem PK{α:Type}{n:Nat}{l:List α}:oP (gs n aH l) (gs n aq l):=fun ρ x h=>by
 unfold gs at h ⊢;obtain⟨_,q,_⟩|⟨i,hr,⟨hc,_⟩|⟨_,c,rfl,h1,h2,h3⟩|⟨_,h1,h2,a,rfl⟩|⟨q,_⟩⟩:=h.sliceOr
 ·exact absurd q (by decide)
 ·exact absurd hc (by decide)
 ·exact .sliceO _ _ _ _ _ i hr rfl h1 h2 h3
 ·rw[h1];exact .sliceE _ _ _ _ i hr rfl h2
 exact absurd q (by decide)
theorem Tn{α:Type}{b cap:Nat}{l l':List α}(h:l.length=l'.length):oP (gs b cap l) (gs b cap l'):=by unfold gs;rw[h];exact iA
def l7(F:List (Nat×Option Value)):List (Nat×Option Value)->Prop
 |[]=>True
 |(t,some v')::F'=>(t<511/\∃v,lk F t=some v/\oP v v')/\l7 F F'
 |(_,none)::F'=>l7 F F'
theorem l7.mem{F:List (Nat×Option Value)}:∀{F':List (Nat×Option Value)},l7 F F'->∀t v',(t,some v')∈F'->t<511/\∃v,lk F t=some v/\oP v v'
 |[],_,t,v,h=>by cases h
 |(t',some v')::F',h,t,v,hp=>by
  rcases List.mem_cons.1 hp with e|hp
  ·cases e;exact h.1
  exact l7.mem h.2 t v hp
 |(t',none)::F',h,t,v,hp=>by
  rcases List.mem_cons.1 hp with e|hp
  ·cases e
  exact l7.mem (F':=F') h t v hp
theorem IB{F:List (Nat×Option Value)}:l7 F []:=trivial
theorem sY{F F':List (Nat×Option Value)}{t:Nat}{v v':Value}(ht:t<511)(hl:lk F t=some v)(hv:oP v v')(hs:l7 F F'):l7 F ((t,some v')::F'):=⟨⟨ht,v,hl,hv⟩,hs⟩
def j3(n:Nat)(L:List (Nat×Option ag)):List (Nat×Option ag)->Prop
 |[]=>True
 |(m,some o')::L'=>((m<n/\m<16383/\lk L m=some o')\/n<=m)/\j3 n L L'
 |(_,none)::L'=>j3 n L L'
theorem j3.mem{n:Nat}{L:List (Nat×Option ag)}:∀{L':List (Nat×Option ag)},j3 n L L'->∀m o',(m,some o')∈L'->(m<n/\m<16383/\lk L m=some o')\/n<=m
 |[],_,t,v,h=>by cases h
 |(t',some v')::L',h,t,v,hp=>by
  rcases List.mem_cons.1 hp with e|hp
  ·cases e;exact h.1
  exact j3.mem h.2 t v hp
 |(t',none)::L',h,t,v,hp=>by
  rcases List.mem_cons.1 hp with e|hp
  ·cases e
  exact j3.mem (L':=L') h t v hp
theorem Sq{n:Nat}{L:List (Nat×Option ag)}:j3 n L []:=trivial
theorem Qj{n m:Nat}{L L':List (Nat×Option ag)}{o o':ag}(h:m<n)(h2:m<16383)(hl:lk L m=some o)(e:o=o')(hs:j3 n L L'):j3 n L ((m,some o')::L'):=⟨.inl ⟨h,h2,by rw[hl,e]⟩,hs⟩
theorem Qo{n m:Nat}{L L':List (Nat×Option ag)}{o':ag}(h:n<=m)(hs:j3 n L L'):j3 n L ((m,some o')::L'):=⟨.inr h,hs⟩
section
variable {P:Program} {k:Nat} {s s':XS} {F F':List (Nat×Option Value)} {L L':List (Nat×Option ag)} {n n' nl nl':Nat} {lg lg':List Nat} {ds ds':List b9}
theorem De(hf:∀t v',s'.fr.get t=some v'->∃v,s.fr.get t=some v/\oP v v')(hw:∀n o,s'.W.get n=some o->s.W.get n=some o\/s.W.next<=n)(hn:s.W.next<=s'.W.next)(hd:s'.ds=s.ds):aX P k s s':=fun N ρ0 W0 w0 e ex a w h0 h1 h2 hc=>by
 obtain⟨ρ,⟨g1,g2,g3,g4⟩,g5,g6⟩:=hc;have hw':∀n i,ρ n=some i->s'.W.get n≠none->s'.W.get n=s.W.get n:=fun n i q1 q2=>by
  cases e:s'.W.get n with
  |none=>exact absurd e q2
  |some o=>
   rcases hw n o e with r|r
   ·rw[r]
   rw[g5 n r]at q1;cases q1
 have himg:∀b,eX ρ s'.W.get b->eX ρ s.W.get b:=fun b ⟨n,i,q1,q2,q3⟩=>⟨n,i,q1,by rw[<-hw' n i q1 q2];exact q2,q3⟩
 exact⟨ρ,⟨⟨g1.le,g1.keeps,fun b hb=>g1.img b (himg b hb),fun n hn'=>(g1.dom n hn').imp id fun⟨q1,q2⟩=>⟨q1,Zi q2 hn⟩,Nat.le_trans g1.next hn,g1.fzn⟩,
  ⟨fun m i o q1 q2=>g2.obj m i o q1 (by rw[<-hw' m i q1 (by rw[q2];simp)];exact q2),fun m1 m2 i j q1 q2 q3 q4 q5=>g2.inj m1 m2 i j q1 q2 (by rw[<-hw' m1 i q1 q3];exact q3) (by rw[<-hw' m2 j q2 q4];exact q4) q5,fun b o q=>⟨(g2.frz b o q).1,fun q2=>(g2.frz b o q).2 (himg b q2)⟩⟩,
  ⟨g3.size,fun t v e=>by obtain⟨v0,r1,r2⟩:=hf t v e;exact r2 _ _ (g3.rep t v0 r1)⟩,by rw[hd];exact g4⟩,fun n hn'=>g5 n (Nat.le_trans hn hn'),g6⟩
theorem bg(hF:l7 F F':=by
 try dsimp only
 repeat' (first|exact IB|refine sY (by decide) (by repeat (first|exact ab|refine Eq.trans (aa (by decide)) ?_)) (by first|exact iA|exact Rc|exact Cu|exact PK|exact MU (by omega)|exact Tn (by first|rfl|omega|(simp only[Yo]<;>omega))|exact QS (by omega)|exact SZ (by omega)|exact Se (by omega)) ?_))
 (hL:j3 n L L':=by
  try dsimp only
  repeat' (first|exact Sq|refine Qj (by decide) (by decide) (by repeat (first|exact ab|refine Eq.trans (aa (by decide)) ?_)) rfl ?_|refine Qo (by decide) ?_)) (hn:n<=n':=by decide):aX P k ⟨an F,wd L n lg nl,ds⟩ ⟨an F',wd L' n' lg' nl',ds⟩:=by
 refine De (fun t v h=>?_) (fun m o h=>?_) hn rfl
 ·obtain⟨h1,v0,h2,h3⟩:=hF.mem _ _ (bP (fH h));exact⟨v0,by show(an F).get t=some v0;rw[fg h1];exact h2,h3⟩
 rcases hL.mem _ _ (bP (cq h).2)with⟨h1,h2,h3⟩|h1
 ·left;show(wd L n lg nl).get m=some o;rw[ae h1 h2];exact h3
 exact .inr h1
theorem vu{α:Type}[El α]{x cap:Nat}{c:List Value}{l l':List α}(hc:c=l.flatMap El.enc)(hl:l=l')(hb:l.length<=cap):TV (dq x c) (gs x cap l) (sl l'):=by
 subst hc hl;have:=oC (n:=x) (o:=0) (q:=(l.flatMap El.enc).length) (c:=l.flatMap El.enc) hb (fun e=>by rw[cM,e,Y3]);rwa [List.drop_zero,List.take_length]at this
theorem fR{α:Type}{θ:Nat->Option Nat}{n m cap:Nat}{l l':List α}(h:θ n=some m)(hl:l.length=l'.length):TV (aL θ) (gs n cap l) (gs m cap l'):=by
 unfold gs;rw[hl];exact ca h
def jD(P:Program)(x:Nat)(c:List Value)(n:Nat)(L:List (Nat×Option ag)):List (Nat×Option ag)->Prop
 |[]=>True
 |(m,some o')::L'=>(m≠x/\m<n/\m<16383/\∃o,lk L m=some o/\TO P (dq x c) o o')/\jD P x c n L L'
 |(_,none)::L'=>jD P x c n L L'
theorem jD.mem{x:Nat}{c:List Value}:∀{L':List (Nat×Option ag)},jD P x c n L L'->∀m o',(m,some o')∈L'->m≠x/\m<n/\m<16383/\∃o,lk L m=some o/\TO P (dq x c) o o'
 |[],_,t,v,h=>by cases h
 |(t',some v')::L',h,t,v,hp=>by
  rcases List.mem_cons.1 hp with e|hp
  ·cases e;exact h.1
  exact jD.mem h.2 t v hp
 |(t',none)::L',h,t,v,hp=>by
  rcases List.mem_cons.1 hp with e|hp
  ·cases e
  exact jD.mem (L':=L') h t v hp
theorem GI{x:Nat}{c:List Value}:jD P x c n L []:=trivial
theorem DV{x m:Nat}{c:List Value}(hs:jD P x c n L L'):jD P x c n L ((m,none)::L'):=hs
theorem DK{x m:Nat}{c:List Value}{o o':ag}(h0:m≠x)(h:m<n)(h2:m<16383)(hl:lk L m=some o)(e:TO P (dq x c) o o')(hs:jD P x c n L L'):jD P x c n L ((m,some o')::L'):=⟨⟨h0,h,h2,o,hl,e⟩,hs⟩
theorem sV{x:Nat}{c:List Value}{o:ag}:TO P (dq x c) o o:=fun ρ ρ' i ob ht ho=>ho.mono ⟨ht.2.1,ht.1⟩
theorem fz(x:Nat){c:List Value}{e:TypeId}{fr:Nat×Nat}(hx:lk L x=some (.cells c e fr):=by repeat (first|exact ab|refine Eq.trans (aa (by decide)) ?_))(hn:x<n:=by decide)(hn2:x<16383:=by decide)
 (hF:cY (dq x c) F F':=by
  try dsimp only
  repeat' (first|exact dx|refine bS (by decide) (by repeat (first|exact ab|refine Eq.trans (aa (by decide)) ?_)) (by first|exact gO|exact vu rfl (by first|rfl|simp) (by simp only[Yh,List.length_cons,List.length_nil,Yk,Ym,aq,aH]<;>omega)) ?_))
 (hL:jD P x c n L L':=by
  try dsimp only
  repeat' (first|exact GI|exact DV|refine DK (by decide) (by decide) (by decide) (by repeat (first|exact ab|refine Eq.trans (aa (by decide)) ?_)) (by first|exact sV|(refine cg ?_;repeat (first|exact aR|refine au (by first|exact gO|exact vu rfl (by first|rfl|simp) (by simp only[Yh,List.length_cons,List.length_nil,Yk,Ym,aq,aH]<;>omega)) ?_))) ?_)) (hnn:n<=n':=by decide) :
 aX P k ⟨an F,wd L n lg nl,[]⟩ ⟨an F',wd L' n' lg' nl',[]⟩:=by
 refine jT x (c:=c) (e:=e) (fr:=fr) (by show(wd L n lg nl).get x=_;rw[ae hn hn2];exact hx) ?_ hnn (fun t v' h=>?_) (fun m o' h=>?_) .nil
 ·show(wd L' n' lg' nl').get x=none;cases e:(wd L' n' lg' nl').get x with
  |none=>rfl
  |some o=>exact absurd rfl (hL.mem _ _ (bP (cq e).2)).1
 ·obtain⟨h1,v,h2,h3⟩:=hF.mem t v' (bP (fH h));exact⟨v,by show(an F).get t=some v;rw[fg h1];exact h2,h3⟩
 obtain⟨h0,h1,h2,o,h3,h4⟩:=hL.mem _ _ (bP (cq h).2);exact⟨o,by show(wd L n lg nl).get m=some o;rw[ae h1 h2];exact h3,h4⟩
theorem ah{R:List (Nat×Option Nat)}{x y:Nat}{v w:Option Nat}(h:lk R x=v)(hn:y≠x):lk ((y,w)::R) x=v:=(aa hn).trans h
theorem px{T:RT}{R:List (Nat×Option Nat)}{m x:Nat}{o w:ag}(hR:lk R x=some m)(h1:x<n)(h2:x<16383)(hl:lk L x=some o)(ho:TO P T o w)(hs:fT P T R n L L'):fT P T R n L ((m,some w)::L'):=bY x hR h1 h2 hl ho hs
theorem rn(R:List (Nat×Nat)){R1 R2:List (Nat×Option Nat)}(e1:R.map (fun p=>(p.1,some p.2))=R1:=by simp only[YM,Y9]<;>rfl)(e2:R.map (fun p=>(p.2,some p.1))=R2:=by simp only[YM,Y9]<;>rfl)
 (hR:jZ k n' R2 R1=true:=by decide) (hRi:∀p∈R2,p.1<n':=by decide) (hk:k<=n':=by decide)
 (hF:cY (aL (lk R1)) F F':=by
  try dsimp only
  repeat' (first|exact dx|refine bS (by decide) (by repeat (first|exact ab|refine Eq.trans (aa (by decide)) ?_)) (by first|exact tv_gv (by decide) (by first|rfl|simp)|exact ca (by decide)|exact bN (by decide)|exact cz (by decide)|exact Br.h _ aj) ?_))
 (hL:fT P (aL (lk R1)) R1 n L L':=by
  try dsimp only
  repeat' (first|exact gT|exact ln|refine px (by first|exact ab|exact ah ab (by decide)|exact ah (ah ab (by decide)) (by decide)|exact ah (ah (ah ab (by decide)) (by decide)) (by decide)|exact ah (ah (ah (ah ab (by decide)) (by decide)) (by decide)) (by decide)|exact ah (ah (ah (ah (ah ab (by decide)) (by decide)) (by decide)) (by decide)) (by decide)|exact ah (ah (ah (ah (ah (ah ab (by decide)) (by decide)) (by decide)) (by decide)) (by decide)) (by decide)) (by decide) (by decide) (by repeat (first|exact ab|refine Eq.trans (aa (by decide)) ?_)) (by first|exact bd aj (aF b7.h)|(refine cg ?_;repeat (first|exact aR|refine au (by first|exact tv_gv (by decide) (by first|rfl|simp)|exact ca (by decide)|exact bN (by decide)|exact cz (by decide)|exact Br.h _ aj) ?_))) ?_)) :
 aX P k ⟨an F,wd L n lg nl,[]⟩ ⟨an F',wd L' n' lg' nl',[]⟩:=fA R1 R2 hR hRi hk hF hL .nil
def mH(T T':RT)(F:List (Nat×Option Value)):List (Nat×Option Value)->Prop
 |[]=>True
 |(t,some w)::F'=>(t<511/\∃v w1,lk F t=some v/\TV T v w1/\TV T' w1 w)/\mH T T' F F'
 |(_,none)::F'=>False
theorem N4{T T':RT}:mH T T' F []:=trivial
theorem KJ{T T':RT}{t:Nat}{v w1 w:Value}(ht:t<511)(hl:lk F t=some v)(h1:TV T v w1)(h2:TV T' w1 w)(hs:mH T T' F F'):mH T T' F ((t,some w)::F'):=⟨⟨ht,v,w1,hl,h1,h2⟩,hs⟩
def zE:List (Nat×Option Value)->Bool
 |[]=>true
 |(t,_)::F=>F.all (fun p=>!(Nat.beq t p.1))&&zE F
theorem cY.weak{T:RT}{F1:List (Nat×Option Value)}{p:Nat×Option Value}:∀{F':List (Nat×Option Value)},cY T F1 F'->F'.all (fun q=>!(Nat.beq p.1 q.1))=true->cY T (p::F1) F'
 |[],_,_=>trivial
 |(t,w)::F',h,hk=>by
  simp only[List.all_cons,Yr,Y6]at hk;refine⟨fun u e=>?_,cY.weak h.2 hk.2⟩;obtain⟨h1,v,h2,h3⟩:=h.1 u e;refine⟨h1,v,?_,h3⟩;obtain⟨q,x⟩:=p;rw[aa (fun e=>by
   have:=hk.1;simp only at this;rw[show q=t from e,YC]at this;cases this)]
  exact h2
theorem mH.mid{T T':RT}:∀{F':List (Nat×Option Value)},mH T T' F F'->zE F'=true->∃F1,cY T F F1/\cY T' F1 F'
 |[],_,_=>⟨[],trivial,trivial⟩
 |(t,some w)::F',h,hk=>by
  unfold zE at hk;simp only[Yr]at hk;obtain⟨⟨h1,v,w1,h2,h3,h4⟩,h5⟩:=h;obtain⟨F1,g1,g2⟩:=mH.mid h5 hk.2;exact⟨(t,some w1)::F1,bS h1 h2 h3 g1,bS h1 ab h4 (cY.weak (p:=(t,some w1)) g2 hk.1)⟩
 |(t,none)::F',h,_=>h.elim
theorem yV(x:Nat)(R:List (Nat×Nat)){c:List Value}{e:TypeId}{fr:Nat×Nat}{R1 R2:List (Nat×Option Nat)}(hx:lk L x=some (.cells c e fr):=by repeat (first|exact ab|refine Eq.trans (aa (by decide)) ?_))(hn:x<n:=by decide)(hn2:n<16383:=by decide)
 (e1:R.map (fun p=>(p.1,some p.2))=R1:=by simp only[YM,Y9]<;>rfl) (e2:R.map (fun p=>(p.2,some p.1))=R2:=by simp only[YM,Y9]<;>rfl)
 (hR:jZ k n' R2 R1=true:=by decide) (hRi:∀p∈R2,p.1<n':=by decide) (hk:k<=n':=by decide) (hkey:zE F'=true:=by rfl)
 (hF:mH (dq x c) (aL (lk R1)) F F':=by
  try dsimp only
  repeat' (first|exact N4|refine KJ (by decide) (by repeat (first|exact ab|refine Eq.trans (aa (by decide)) ?_)) (by first|exact vu rfl (by first|rfl|simp) (by simp only[Yh,List.length_cons,List.length_nil,Yk,Ym,aq,aH]<;>omega)|exact gO) (by first|exact Br.h _ aj|exact fR (by decide) (by first|rfl|omega|(simp only[Yo]<;>omega)|simp)|exact ca (by decide)|exact bN (by decide)|exact cz (by decide)) ?_))
 (hL:fT P (aL (lk R1)) R1 n ((x,none)::L) L':=by
  try dsimp only
  repeat' (first|exact gT|exact ln|refine px (by first|exact ab|exact ah ab (by decide)|exact ah (ah ab (by decide)) (by decide)|exact ah (ah (ah ab (by decide)) (by decide)) (by decide)|exact ah (ah (ah (ah ab (by decide)) (by decide)) (by decide)) (by decide)|exact ah (ah (ah (ah (ah ab (by decide)) (by decide)) (by decide)) (by decide)) (by decide)|exact ah (ah (ah (ah (ah (ah ab (by decide)) (by decide)) (by decide)) (by decide)) (by decide)) (by decide)) (by decide) (by decide) (by repeat (first|exact ab|refine Eq.trans (aa (by decide)) ?_)) (by first|exact bd aj (aF b7.h)|(refine cg ?_;repeat (first|exact aR|refine au (by first|exact fR (by decide) (by first|rfl|omega|(simp only[Yo]<;>omega)|simp)|exact ca (by decide)|exact bN (by decide)|exact cz (by decide)|exact Br.h _ aj) ?_))) ?_)) :
 aX P k ⟨an F,wd L n lg nl,[]⟩ ⟨an F',wd L' n' lg' nl',[]⟩:=by
 obtain⟨F1,g1,g2⟩:=hF.mid hkey;refine aX.trans (wB (F':=F1) x hx hn hn2 g1 L (fun m o' h hm=>?_) .nil) (fA R1 R2 hR hRi hk g2 hL .nil);by_cases q:x=m
 ·subst q;rw[ab]at h;cases h
 rw[aa q]at h;exact⟨o',h,sV⟩
def AY(n:Nat):Nat->Option Nat:=fun m=>if m<n then some m else none
theorem lr{n m:Nat}(h:m<n):AY n m=some m:=if_pos h
def l8(P:Program)(T:RT)(n n':Nat)(L:List (Nat×Option ag)):List (Nat×Option ag)->Prop
 |[]=>True
 |(m,some w)::L'=>(m<n'/\m<n/\m<16383/\∃o,lk L m=some o/\TO P T o w)/\l8 P T n n' L L'
 |(_,none)::L'=>l8 P T n n' L L'
theorem l8.mem{T:RT}:∀{L':List (Nat×Option ag)},l8 P T n n' L L'->∀m o',(m,some o')∈L'->m<n'/\m<n/\m<16383/\∃o,lk L m=some o/\TO P T o o'
 |[],_,t,v,h=>by cases h
 |(t',some v')::L',h,t,v,hp=>by
  rcases List.mem_cons.1 hp with e|hp
  ·cases e;exact h.1
  exact l8.mem h.2 t v hp
 |(t',none)::L',h,t,v,hp=>by
  rcases List.mem_cons.1 hp with e|hp
  ·cases e
  exact l8.mem (L':=L') h t v hp
theorem Th{T:RT}:l8 P T n n' L []:=trivial
theorem Oi{T:RT}{m:Nat}{o w:ag}(h0:m<n')(h1:m<n)(h2:m<16383)(hl:lk L m=some o)(ho:TO P T o w)(hs:l8 P T n n' L L'):l8 P T n n' L ((m,some w)::L'):=⟨⟨h0,h1,h2,o,hl,ho⟩,hs⟩
theorem kp(hk:k<=n':=by decide)
 (hF:cY (aL (AY n')) F F':=by
  try dsimp only
  repeat' (first|exact dx|refine bS (by decide) (by repeat (first|exact ab|refine Eq.trans (aa (by decide)) ?_)) (by first|exact Br.h _ aj|exact fR (lr (by decide)) (by first|rfl|omega|(simp only[Yo]<;>omega)|simp)|exact ca (lr (by decide))|exact bN (lr (by decide))|exact cz (lr (by decide))) ?_))
 (hL:l8 P (aL (AY n')) n n' L L':=by
  try dsimp only
  repeat' (first|exact Th|refine Oi (by decide) (by decide) (by decide) (by repeat (first|exact ab|refine Eq.trans (aa (by decide)) ?_)) (by first|exact bd aj (aF b7.h)|(refine cg ?_;repeat (first|exact aR|refine au (by first|exact Br.h _ aj|exact fR (lr (by decide)) (by first|rfl|simp)|exact ca (lr (by decide))|exact bN (lr (by decide))|exact cz (lr (by decide))) ?_))) ?_)) :
 aX P k ⟨an F,wd L n lg nl,[]⟩ ⟨an F',wd L' n' lg' nl',[]⟩:=by
 refine u7 (AY n') (AY n') (fun a b h=>?_) (fun a b h=>?_) hk (fun t v' h=>?_) (fun m o' h=>?_) .nil
 ·unfold AY at h ⊢;split at h
  ·rename_i q;cases h;by_cases q2:a<k
   ·exact .inl ⟨q2,rfl⟩
   exact .inr ⟨by omega,if_pos q⟩
  cases h
 ·unfold AY at h;split at h
  ·rename_i q;exact q
  cases h
 ·obtain⟨h1,v,h2,h3⟩:=hF.mem t v' (bP (fH h));exact⟨v,by show(an F).get t=some v;rw[fg h1];exact h2,h3⟩
 obtain⟨h0,h1,h2,o,h3,h4⟩:=hL.mem m o' (bP (cq h).2);exact⟨m,o,lr h0,by show(wd L n lg nl).get m=some o;rw[ae h1 h2];exact h3,h4⟩
end
theorem cv{P:Program}{N k:Nat}{c:Code}{s:XS}{Q:XQ}(F':List (Nat×Option Value))(L':List (Nat×Option ag))(n':Nat)(h:ay P N k c ⟨an F',wd L' n' [] 0,[]⟩ Q)(hl:aX P k s ⟨an F',wd L' n' [] 0,[]⟩:=by exact bg):ay P N k c s Q:=eD hl h
def SQ(P:Program)(k:Nat)(S:XS)(Q:XQ):XQ
 |.norm,s=>aX P k s S
 |e,s=>Q e s
theorem jP{P:Program}{N k:Nat}{c r:Code}{s:XS}{Q:XQ}(S:XS)(h:ay P N k c s (SQ P k S Q))(q:ay P N k r S Q):ay P N k (.seq c r) s Q:=
 ak (fh (fun e s' h=>by
  cases e with
  |norm=>exact eD h q
  |_=>exact h) h)
theorem G0{P:Program}{N k:Nat}{c r:Code}{s:XS}{Q:XQ}(h:ay P N k c s (SQ P k s Q))(q:ay P N k r s Q):ay P N k (.seq c r) s Q:=jP s h q
section
variable {P:Program} {N k:Nat} {c d:Code} {s s':XS} {Q:XQ} {e:gg} {id:Nat}
def L8(P:Program)(k:Nat){α:Type}(I:α->XS)(V:α->Prop)(μ:α->Nat)(x:α)(Q:XQ):XQ
 |.norm,s'=>∃y,V y/\μ y<μ x/\aX P k s' (I y)
 |e,s'=>Q e s'
theorem lp{α:Type}(I:α->XS)(V:α->Prop)(μ:α->Nat)(x:α)(hv:V x)(h:∀x,V x->ay P N k c (I x) (L8 P k I V μ x Q))(h0:aX P k s (I x):=by exact bg):ay P N k (.loop c) s Q:=
 eD h0 (uZ (α:={ x:α // V x }) (fun x=>I x.1) (fun x=>μ x.1) (fun x=>fh (fun e s' q=>by
  cases e with
  |norm=>obtain⟨y,h1,h2,h3⟩:=q;exact⟨⟨y,h1⟩,h2,h3⟩
  |_=>exact q) (h x.1 x.2)) ⟨x,hv⟩)
theorem nx{α:Type}{I:α->XS}{V:α->Prop}{μ:α->Nat}{x:α}(y:α)(hv:V y)(hm:μ y<μ x:=by(try dsimp only);omega)(h:aX P k s (I y):=by exact bg):∃y,V y/\μ y<μ x/\aX P k s (I y):=⟨y,hv,hm,h⟩
theorem bs(h:ay P N k c s (mO id (g9 P N k d Q))):ay P N k (.seq (.block id c) d) s Q:=ak (aC h)
theorem fo{α:Type}[hM:kJ P](I:α->XS)(V:α->Prop)(μ:α->Nat)(x0:α)(hv:V x0){C:α->Prop}[hC:∀x,Decidable (C x)]{J:α->XS}{i1 B:Nat}{ops:Array Oper}{t:Operand}{body:Code}
 (hb:∀x,V x->C x->ay P N k body (J x) (L8 P k I V μ x (mO B Q))) (he:∀x,V x->¬C x->Q .norm (J x)) (h0:aX P k s (I x0):=by exact bg)
 (hc:∀x,fE P (cd P (bc [] []) 1) N none ops ops.toList (I x)=some (.code .norm (J x)):=by intro x;simp(disch:=first|decide|omega|(simp only[Yh,List.length_cons,List.length_nil,Yk,Ym,Yo]<;>omega)|(simp(disch:=decide) only[ae,ab,aa,ci.eq_1];done)) only[go_sem]<;>with_reducible rfl)
 (hx:∀x,ev (J x).fr t=some (.bool (decide (C x))):=by intro x;simp(disch:=first|decide|omega|(simp only[Yh,List.length_cons,List.length_nil,Yk,Ym,Yo]<;>omega)|(simp(disch:=decide) only[ae,ab,aa,ci.eq_1];done)) only[go_sem]<;>with_reducible rfl) :
 ay P N k (.block B (.loop (.seq (.seq (.region i1 ops false) (.cond t .skip (.exit B))) body))) s Q:=
 aC (lp I V μ x0 hv (h0:=h0) fun x v=>ak (ak (aE b0 (hc x) (cp (fun h=>ap (hb x v h)) (fun h=>nR (by show(if B=B then _ else _);rw[if_pos rfl];exact he x v h)) (hx x)))))
theorem bl(h:ay P N k c s (mO id Q)):ay P N k (.block id c) s Q:=aC h
def ul(id:Nat)(Q Q':XQ):Prop:=∀s,Q' .norm s->Q (.exit id) s
theorem NH:ul id (mO id Q) Q:=fun s h=>by show(if id=id then _ else _);rw[if_pos rfl];exact h
theorem JZ{j:Nat}{Q':XQ}(hj:id≠j)(h:ul id Q Q'):ul id (mO j Q) Q':=fun s q=>by show(if id=j then _ else _);rw[if_neg hj];exact h s q
theorem KT{Q':XQ}(h:ul id Q Q'):ul id (g9 P N k d Q) Q':=fun s q=>h s q
theorem OG{S:XS}{Q':XQ}(h:ul id Q Q'):ul id (SQ P k S Q) Q':=fun s q=>h s q
theorem Rs{α:Type}{I:α->XS}{V:α->Prop}{μ:α->Nat}{x:α}{Q':XQ}(h:ul id Q Q'):ul id (L8 P k I V μ x Q) Q':=fun s q=>h s q
theorem xe{Q':XQ}(h:Q' .norm s)(hQ:ul id Q Q':=by repeat (first|with_reducible exact NH|with_reducible apply KT|with_reducible apply Rs|with_reducible apply OG|with_reducible apply JZ (by decide))):ay P N k (.exit id) s Q:=nR (hQ _ h)
end
section
variable {α:Type} [El α] {W:XW} {e:TypeId} {b n len cap s by_:Nat} {l m:List α}
theorem oG{need:Nat}(h1:by_*need<=1099511627776)(h2:need<=1099511627776):ef by_ need=true:=by
 unfold ef;rw[Nat.mul_comm,nk h1,nk h2];rfl
theorem Hg:l.flatMap El.enc++m.flatMap El.enc=(l++m).flatMap El.enc:=List.flatMap_append.symm
variable {P:Program} {fr:XF}
theorem Ub{f:Nat}{fs:Array Field}{cs:List Value}:qP P f (some (.struct fs)) (some (FP cs))=xp P cs fs[f]?:=rfl
theorem TU:mP W (gs b cap l) (some (.slice e))=some (.val (some (.int .i64 (l.length:Int)))):=rfl
theorem OU:nX (gs b cap l)=some l.length:=rfl
theorem SB:de (gs b cap l)=true:=rfl
theorem RP(hn:n=l.length)(hg:ci (W.get b)=some (l.flatMap El.enc))(hs:s=El.m α):eZ W s n (gs b cap l)=some (l.flatMap El.enc):=by
 subst hn hs;cases hw:W.get b with
 |none=>rw[hw]at hg;cases hg
 |some o=>
  rw[hw]at hg;cases o with
  |cells c e fr=>
   cases hg;show(bif Nat.beq l.length 0 then some []else match W.get b with
    |some (.cells c _ _)=>let q:=(c.drop 0).take (l.length*El.m α);bif Nat.beq q.length (l.length*El.m α)then some q else none
    |_=>none)=_
   rw[hw];show(bif Nat.beq l.length 0 then some []else bif Nat.beq (((l.flatMap El.enc).drop 0).take (l.length*El.m α)).length (l.length*El.m α)then some (((l.flatMap El.enc).drop 0).take (l.length*El.m α))else none)=_;rw[List.drop_zero,ot,cM,YC];cases l with
   |nil=>rfl
   |cons x l=>rfl
  |_=>cases hg
theorem U6(hg:W.get b=some (ro e l))(hc:aN cap=true)(hn:n=m.length)(hs:s=El.m α)(hp:0<s)(hb:by_*(l.length+n)<=1099511627776)(hb2:l.length+n<=1099511627776) :
 rj W e s n by_ (m.flatMap El.enc) (gs b cap l)=some (.mod (gs W.next cap (l++m)) ((W.put b none).push (ro e (l++m)))):=by
 subst hn hs;have hcap:l.length<=cap:=by unfold aN at hc;have:=Nat.le_of_ble_eq_true hc;omega
 show qT (match W.get b with
  |some (.cells c e' fr)=>bif Nat.beq e e'&&Nat.beq c.length (l.length*El.m α)then(bif aN cap then(bif Nat.beq m.length 0&&Nat.ble l.length cap then ii (W.put b none) (.cells c e fr) l.length cap else none)else _)else none
  |_=>none) (bif Nat.beq m.length 0 then _ else bif Nat.blt 0 (El.m α)then nJ W l.length m.length cap (El.m α) by_ e (m.flatMap El.enc) (some ⟨b,0,none⟩)else none)=_
 rw[hg];show qT (bif Nat.beq e e&&Nat.beq (l.flatMap El.enc).length (l.length*El.m α)then(bif aN cap then(bif Nat.beq m.length 0&&Nat.ble l.length cap then ii (W.put b none) (.cells (l.flatMap El.enc) e (0,0)) l.length cap else none)else _)else none) _=_;rw[YC,cM,YC,hc,nk hcap];simp only[Bool.and_true,cond_true];rcases Nat.eq_zero_or_pos m.length with hm|hm
 ·rw[Yx hm,List.append_nil];rfl
 rw[fi (show m.length≠0 by omega),cond_false,cond_false,lj hp,cond_true];show nJ W l.length m.length cap (El.m α) by_ e (m.flatMap El.enc) (some ⟨b,0,none⟩)=_;have h1:Nat.ble (0+(l.length+m.length)*El.m α) (mz (W.get b))=false:=by rw[hg];refine s8 ?_;show(l.flatMap El.enc).length<_;rw[cM,Nat.zero_add,Zx];have:=Nat.mul_pos hm hp;omega
 show(bif aN cap||_ then(bif Nat.ble (0+(l.length+m.length)*El.m α) (mz (W.get b))&&_&&_ then _ else uS W b 0 l.length m.length cap (El.m α) by_ e (m.flatMap El.enc) (W.get b))else _)=_;rw[hc,Bool.true_or,cond_true,h1,Bool.false_and,Bool.false_and,cond_false,hg];show(bif aN cap&&Nat.beq e e&&Nat.ble (0+l.length*El.m α) (l.flatMap El.enc).length&&ef by_ (l.length+m.length)&&!mS (0,0) _ _&&(Nat.beq 0 0||_)&&Nat.beq (0%El.m α) 0 then ii (W.put b none) (.cells (((l.flatMap El.enc).drop 0).take (l.length*El.m α)++m.flatMap El.enc) e (0,0)) (l.length+m.length) cap else none)=_;rw[hc,YC,cM,Nat.zero_add,nk (Nat.le_refl _),oG hb hb2,Nat.zero_mod,List.drop_zero,ot,Hg];unfold gs;rw[Yh];rfl
theorem Wp(hg:W.get b=some (ro e l))(hc:aN cap=false)(hcl:cap=l.length)(hn:n=m.length)(hs:s=El.m α)(hb:by_*(l.length+n)<=1099511627776)(hb2:l.length+n<=1099511627776) :
 rj W e s n by_ (m.flatMap El.enc) (gs b cap l)=some (.mod (gs W.next aH (l++m)) ((W.put b none).push (ro e (l++m)))):=by
 subst hn hs hcl;show qT (match W.get b with
  |some (.cells c e' fr)=>bif Nat.beq e e'&&Nat.beq c.length (l.length*El.m α)then(bif aN l.length then _ else bif Nat.beq l.length l.length&&ef by_ (l.length+m.length)then ii (W.put b none) (.cells (c++m.flatMap El.enc) e fr) (l.length+m.length) aH else none)else none
  |_=>none) _=_
 rw[hg];show qT (bif Nat.beq e e&&Nat.beq (l.flatMap El.enc).length (l.length*El.m α)then(bif aN l.length then _ else bif Nat.beq l.length l.length&&ef by_ (l.length+m.length)then ii (W.put b none) (.cells (l.flatMap El.enc++m.flatMap El.enc) e (0,0)) (l.length+m.length) aH else none)else none) _=_;rw[YC,cM,YC,hc,YC,oG hb hb2,Hg];unfold gs;rw[Yh];rfl
end
section
variable {α:Type} [El α] {P:Program} {W:XW} {e:TypeId} {b cap i:Nat} {l:List α}
def ep(m b i:Nat):Value:=.pointer (some ⟨b,i*m,none⟩)
def WE(P:Program)(e:TypeId)(m i:Nat):Option ag->Option Value
 |some (.cells c _ _)=>iM P e c (i*m)
 |_=>none
def GJ(W:XW)(b m i:Nat)(v:Value)(s:Nat)(_:Option ag):Option XR:=tS W (some (ep m b i)) (some v) (some s)
theorem L6{m:Nat}:iQ P W e (ep m b i)=WE P e m i (W.get b):=by
 show(match W.get b with
  |some (.cells c _ _)=>iM P e c (i*m)
  |_=>none)=_
 cases W.get b with
 |none=>rfl
 |some o=>cases o<;>rfl
theorem L4{m s:Nat}{v:Value}:tS W (some (ep m b i)) (some v) (some s)=GJ W b m i v s (W.get b):=rfl
theorem IA[t:mJ P α e]{j:IntKind}(h:i<l.length):kU P (some (.slice e)) (some (gs b cap l)) (some (.int j (i:Int)))=some (.val (some (ep (El.m α) b i))):=by
 show mR b 0 i l.length (sz P e)=_;rw[t.sz];show(bif Nat.blt i l.length then val (.pointer (some ⟨b,0+i*El.m α,none⟩))else none)=_;rw[lj h,Nat.zero_add];rfl
theorem QO{c:List Value}{o m:Nat}{v:Value}(hs:sz P e=some m)(h:iM P e ((c.drop o).take m) 0=some v):iM P e c o=some v:=by
 unfold iM at h ⊢;rw[hs]at h ⊢;cases ha:bw P e with
 |none=>rw[ha]at h;cases h
 |some q=>
  rw[ha]at h;cases q with
  |true=>
   simp only at h ⊢;rw[List.drop_zero,List.take_take,Nat.min_self]at h;exact h
  |false=>
   simp only at h ⊢;rw[YT]at h;split at h
   ·rw[Y1,Nat.add_zero]at h;exact h
   cases h
theorem IK[t:mJ P α e][Inhabited α]{e':TypeId}{m:Nat}(hm:m=El.m α)(h:i<l.length):WE P e m i (some (ro e' l))=some (t.val (l.getD i default)):=by
 subst hm;exact QO t.sz (by rw[zJ h];exact t.ld _)
theorem Jd{y:α}(h:i<l.length):wr (l.flatMap El.enc) (i*El.m α) (El.enc y)=(l.set i y).flatMap El.enc:=by
 unfold wr;rw[xQ,El.len,show i*El.m α+El.m α=(i+1)*El.m α by rw[Za],xY,List.set_eq_take_append_cons_drop,if_pos h,Y5,YB]
theorem A3{v:Value}{s m:Nat}{y:α}(hg:W.get b=some (ro e l))(h:i<l.length)(hv:v.cells.toList=El.enc y)(hs:s=El.m α)(hm:m=El.m α)(o:Option ag):GJ W b m i v s o=some (.mod undef (W.put b (some (ro e (l.set i y))))):=by
 subst hs hm;show(bif Nat.beq v.cells.size (El.m α)then lZ undef (dV W b (i*El.m α) v.cells.toList)else none)=_;have hsz:v.cells.size=El.m α:=by rw[<-YU,hv,El.len]
 rw[hsz,YC,hv];show lZ undef (dV W b (i*El.m α) (El.enc y))=_;unfold dV;rw[hg];show lZ undef (bif Nat.ble (i*El.m α+(El.enc y).length) (l.flatMap El.enc).length&&!mS (0,0) _ _&&(El.enc y).all de then some (W.put b (some (.cells (wr (l.flatMap El.enc) (i*El.m α) (El.enc y)) e (0,0))))else none)=_;rw[El.len,cM,El.one,nk (by
  have:(i+1)*El.m α<=l.length*El.m α:=Zg _ h;rw[Za]at this;exact this),Jd h]
 rfl
theorem X6{N k:Nat}{c:Code}{Q:XQ}{F:List (Nat×Option Value)}{ds:List b9}(t b:Nat){fr:Nat×Nat}(h:ay P N k c ⟨an ((t,some (gs b aq ([]:List α)))::F),W,ds⟩ Q)(hb:W.get b=some (.cells [] e fr):=by simp(disch:=decide) only[ae,ab,aa]<;>rfl)(ht:t<511:=by decide)
 (hl:lk F t=some (gs b 0 ([]:List α)):=by repeat (first|exact ab|refine Eq.trans (aa (by decide)) ?_)):ay P N k c ⟨an F,W,ds⟩ Q:=by
 refine eD (fun N ρ0 W0 w0 ex0 ex a w h0 h1 h2 hc=>?_) h;obtain⟨ρ,⟨g1,g2,g3,g4⟩,g5,g6⟩:=hc;refine⟨ρ,⟨g1,g2,⟨g3.size,fun u v hv=>?_⟩,g4⟩,g5,g6⟩;replace hv:((an F).set t (some (gs b aq ([]:List α)))).get u=some v:=hv;rcases PT.set_some hv with⟨rfl,q⟩|⟨_,q⟩
 ·cases q;have hr:=g3.rep u (gs b 0 ([]:List α)) (by show(an F).get u=_;rw[fg ht];exact hl);obtain⟨_,q,_⟩|⟨i,hi,⟨hc,e1⟩|⟨hc,_⟩|⟨hc,_⟩|⟨_,_,a',e1⟩⟩:=VR.sliceOr (len:=0) (cap:=0) hr
  ·cases q
  ·obtain⟨ob,_,ho⟩:=g2.obj b i _ hi hb;cases ho with
   |cells _ _ _ c' fr' hz hrr hk hll hv hfz hq hm=>
    rw[e1];exact .sliceO _ _ _ _ _ i hi rfl (Nat.le_refl _) (by rw[<-hrr];exact Yq _) (by omega)
  ·cases hc
  ·cases hc
  obtain⟨ob,_,ho⟩:=g2.obj b i _ hi hb;cases ho with
  |cells _ _ _ c' fr' hz hrr hk hll hv hfz hq hm=>
   rw[e1];exact .sliceE _ _ _ _ i hi rfl (by rw[<-hrr];exact Yq _)
 exact g3.rep u v q
end
theorem mU{P:Program}[hM:kJ P]{N k:Nat}{d:Code}{s s':XS}{Q:XQ}{id:Nat}{ops:Array Oper}{H:cC}{rs:List bJ}{p:Prop}(f:p)(b:dX P H)(q:ay P N k d s' Q)(h:p->aW P (cd P H 1) N none ops ops.toList s=some (rs,s'):=by intro hf;simp(disch:=first|decide|omega|(simp only[Yh,List.length_cons,List.length_nil,Yk,Ym,Yo]<;>omega)|(simp(disch:=decide) only[ae,ab,aa,ci.eq_1];done)) only[hf,pb,bc,iy,gw,kZ,aW.eq_1,aW.eq_2,iH.eq_1,dI.eq_1,dI.eq_2,go_sem]<;>with_reducible rfl)(hk:jJ P ops s.ds.length rs=true:=by
 refine fK (by kernel_rfl) (by kernel_rfl) ?_
 repeat (refine aI (by first|(refine dj (by with_reducible rfl) (by kernel_rfl) (by kernel_rfl) ?_;simp(disch:=first|decide|omega|(simp only[Yh,List.length_cons,List.length_nil,Yk,Ym,Yo]<;>omega)|(simp(disch:=decide) only[ae,ab,aa,ci.eq_1];done)) only[fq.eq_1,cond_true,go_sem];done)|kernel_rfl) ?_)
 rfl):ay P N k (.seq (.region id ops true) d) s Q:=ak (eu b (h f) hk q)
theorem Mz{P:Program}[hM:kJ P]{N k:Nat}{s s':XS}{Q:XQ}{id:Nat}{ops:Array Oper}{H:cC}{rs:List bJ}{p:Prop}(f:p)(b:dX P H)(q:Q .norm s')(h:p->aW P (cd P H 1) N none ops ops.toList s=some (rs,s'):=by intro hf;simp(disch:=first|decide|omega|(simp only[Yh,List.length_cons,List.length_nil,Yk,Ym,Yo]<;>omega)|(simp(disch:=decide) only[ae,ab,aa,ci.eq_1];done)) only[hf,pb,bc,iy,gw,kZ,aW.eq_1,aW.eq_2,iH.eq_1,dI.eq_1,dI.eq_2,go_sem]<;>with_reducible rfl)(hk:jJ P ops s.ds.length rs=true:=by
 refine fK (by kernel_rfl) (by kernel_rfl) ?_
 repeat (refine aI (by first|(refine dj (by with_reducible rfl) (by kernel_rfl) (by kernel_rfl) ?_;simp(disch:=first|decide|omega|(simp only[Yh,List.length_cons,List.length_nil,Yk,Ym,Yo]<;>omega)|(simp(disch:=decide) only[ae,ab,aa,ci.eq_1];done)) only[fq.eq_1,cond_true,go_sem];done)|kernel_rfl) ?_)
 rfl):ay P N k (.region id ops true) s Q:=eu b (h f) hk q
section
variable {α:Type} [El α] {P:Program} {f:FuncId} {args:List Value} {e:TypeId} {l:List α}
structure Fr(P:Program)(f:FuncId)(args:List Value){α:Type}[El α](e:TypeId)(l:List α):Prop where
 en:cT P f
 ba:cV args
 lo:aT P f args (wd [] 0 [] 0) fun e' W'=>∃b,e'=.ret (gs b aq l)/\W'.get b=some (ro e l)
theorem Gj[hM:kJ P]{fn:Func}{c:Code}{F:List (Nat×Option Value)}{N:Nat}{R:Array ResultVar}(hf:P.funcs[f]?=some fn)(hR:fn.results=R)(hc:fn.body=some c:=by rfl)(hN:fn.ntmps=N:=by rfl)(hn:gq fn=true:=by rfl)(hl:args.length<=fn.ntmps:=by exact Nat.le_of_ble_eq_true rfl)
 (hF:bA 0 args []=F:=by simp only[bA.eq_1,bA.eq_2,Nat.reduceAdd]<;>with_reducible rfl) [ha:b7 args] (h:ay P N 0 c ⟨an F,wd [] 0 [] 0,[]⟩ (qO P R.toList fun e' W'=>∃b,e'=.ret (gs b aq l)/\W'.get b=some (ro e l))):Fr P f args e l:=
 ⟨kP hf hc hn,ha.h,by subst hN hF hR;exact cy b0 hf hc hl (fh (fun ex s ⟨p,e',W',h1,h2,h3⟩=>⟨p,e',W',h1,by rw[<-l6];exact h2,h3⟩) h)⟩
open Classical in
noncomputable def hkr(args:List Value)(e:TypeId)(l:List α):HF:=fun a W=>if a=args then some (.ret (gs W.next aq l),W.push (ro e l))else none
theorem Ah{W:XW}:hkr args e l args W=some (.ret (gs W.next aq l),W.push (ro e l)):=if_pos rfl
theorem rI[hb:∀x:α,b7 (El.enc x)](h:Fr P f args e l):bQ P f (hkr args e l):=by
 have key:∀a W e' W',hkr args e l a W=some (e',W')->a=args/\e'=.ret (gs W.next aq l)/\W'=W.push (ro e l):=fun a W e' W' q=>by
  unfold hkr at q;split at q
  ·cases q;exact⟨by assumption,rfl,rfl⟩
  cases q
 refine⟨h.en,fun a W e' W' q=>?_,fun a W e' W' q=>?_⟩
 ·obtain⟨_,_,rfl⟩:=key _ _ _ _ q;exact .push _ _
 obtain⟨rfl,rfl,rfl⟩:=key _ _ _ _ q;refine jq (k:=0) (fun _=>0) (fun _=>none) rfl (fun m _ h=>by omega) (fun m h=>by omega) (fun n m h=>by cases h) (fun m oL h=>by rw[XW.get_ge (Yq _)]at h;cases h) (h.ba _ aj) h.lo
  fun eL WL' hS=>?_
 obtain⟨b,rfl,hb'⟩:=hS;refine⟨fun m=>if m=b then some W.next else none,fun m x h=>?_,fun m m' x h h'=>?_,fun x o' h=>?_,?_,Zm _⟩
 ·by_cases hm:m=b
  ·rw[if_pos hm]at h;cases h;exact .inr ⟨Yq _,Nat.le_refl _,YJ _⟩
  rw[if_neg hm]at h;cases h
 ·by_cases hm:m=b
  ·by_cases hm':m'=b
   ·omega
   rw[if_neg hm']at h';cases h'
  rw[if_neg hm]at h;cases h
 ·rcases XW.get_push h with⟨rfl,rfl⟩|⟨q1,q2⟩
  ·exact .inl ⟨b,_,if_pos rfl,hb',bd aj (aF (inferInstance:b7 (l.flatMap El.enc)).h)⟩
  exact .inr ⟨q2,aM q2,fun m hm=>by omega⟩
 exact fR (if_pos rfl) rfl
end
section
variable {P:Program} {f:FuncId} {xs:List Value} {o o':ag} {e:aZ}
class lA(P:Program)(o:ag):Prop where
 h:gJ P o
instance {l:List Value}{e:TypeId}{fr:Nat×Nat}[h:b7 l]:lA P (.cells l e fr):=⟨aF h.h⟩
structure Fo(P:Program)(f:FuncId)(xs:List Value)(o:ag)(e:aZ)(o':ag):Prop where
 en:cT P f
 ba:cV xs
 be:qQ e
 bo:gJ P o
 bo':gJ P o'
 lo:aT P f (.pointer (some ⟨0,0,none⟩)::xs) (wd [(0,some o)] 1 [] 0) fun e' W'=>e'=e/\W'.get 0=some o'
theorem Fc[hM:kJ P]{fn:Func}{c:Code}{F:List (Nat×Option Value)}{N:Nat}{R:Array ResultVar}(hf:P.funcs[f]?=some fn)(hR:fn.results=R)(hc:fn.body=some c:=by rfl)(hN:fn.ntmps=N:=by rfl)(hn:gq fn=true:=by rfl)(hl:(Value.pointer (some ⟨0,0,none⟩)::xs).length<=fn.ntmps:=by exact Nat.le_of_ble_eq_true rfl)
 (hF:bA 0 (Value.pointer (some ⟨0,0,none⟩)::xs) []=F:=by simp only[bA.eq_1,bA.eq_2,Nat.reduceAdd]<;>with_reducible rfl) [ha:b7 xs] [he:Mo e] [ho:lA P o] [ho':lA P o'] (h:ay P N 1 c ⟨an F,wd [(0,some o)] 1 [] 0,[]⟩ (qO P R.toList fun e' W'=>e'=e/\W'.get 0=some o')):Fo P f xs o e o':=
 ⟨kP hf hc hn,ha.h,he.h,ho.h,ho'.h,by subst hN hF hR;exact cy b0 hf hc hl (fh (fun ex s ⟨p,e',W',h1,h2,h3⟩=>⟨p,e',W',h1,by rw[<-l6];exact h2,h3⟩) h)⟩
open Classical in
noncomputable def hko(xs:List Value)(o:ag)(e:aZ)(o':ag):HF:=fun a W=>if h:∃w,a=.pointer (some ⟨w,0,none⟩)::xs/\W.get w=some o then some (e,W.put h.choose (some o'))else none
theorem Qi{w:Nat}{W:XW}(hw:W.get w=some o):hko xs o e o' (.pointer (some ⟨w,0,none⟩)::xs) W=some (e,W.put w (some o')):=by
 have hx:∃w',(Value.pointer (some ⟨w,0,none⟩)::xs)=.pointer (some ⟨w',0,none⟩)::xs/\W.get w'=some o:=⟨w,rfl,hw⟩;unfold hko;rw[dif_pos hx];have:=hx.choose_spec.1;injection this with h1 _;injection h1 with h1;injection h1 with h1;injection h1 with h1 _;rw[<-h1]
theorem F9(h:Fo P f xs o e o'):bQ P f (hko xs o e o'):=by
 have key:∀a W e' W',hko xs o e o' a W=some (e',W')->∃w,a=.pointer (some ⟨w,0,none⟩)::xs/\W.get w=some o/\e'=e/\W'=W.put w (some o'):=fun a W e' W' q=>by
  unfold hko at q;split at q
  ·rename_i hx;cases q;exact⟨_,hx.choose_spec.1,hx.choose_spec.2,rfl,rfl⟩
  cases q
 refine⟨h.en,fun a W e' W' q=>?_,fun a W e' W' q=>?_⟩
 ·obtain⟨w,_,_,_,rfl⟩:=key _ _ _ _ q;exact .put _ _ _
 obtain⟨w,rfl,hw,rfl,rfl⟩:=key _ _ _ _ q;exact BQ hw h.bo (au (bN yW) (h.ba _ aj)) h.lo (fun e' W' hS=>hS) h.bo' h.be
theorem TK[hM:kJ P](h:Fo P f xs o e o'):dX P (bc [(f,hko xs o e o')] []):=bh (F9 h)
end
section
variable {P:Program} {f:FuncId} {xs:List Value} {α:Type} [El α] {e:TypeId} {cap:Nat} {l l':List α} {v:Value}
structure Fw(P:Program)(f:FuncId)(xs:List Value){α:Type}[El α](e:TypeId)(cap:Nat)(l:List α)(v:Value)(l':List α):Prop where
 en:cT P f
 ba:cV xs
 bv:dH v
 lo:aT P f (gs 0 cap l::xs) (wd [(0,some (ro e l))] 1 [] 0) fun e' W'=>e'=.ret v/\W'.get 0=some (ro e l')
theorem m3[hM:kJ P]{fn:Func}{c:Code}{F:List (Nat×Option Value)}{N:Nat}{R:Array ResultVar}(hf:P.funcs[f]?=some fn)(hR:fn.results=R)(hc:fn.body=some c:=by rfl)(hN:fn.ntmps=N:=by rfl)(hn:gq fn=true:=by rfl)(hl:(gs 0 cap l::xs).length<=fn.ntmps:=by exact Nat.le_of_ble_eq_true rfl)
 (hF:bA 0 (gs 0 cap l::xs) []=F:=by simp only[bA.eq_1,bA.eq_2,Nat.reduceAdd]<;>with_reducible rfl) [ha:b7 xs] [hv:Br v] (h:ay P N 1 c ⟨an F,wd [(0,some (ro e l))] 1 [] 0,[]⟩ (qO P R.toList fun e' W'=>e'=.ret v/\W'.get 0=some (ro e l'))):Fw P f xs e cap l v l':=
 ⟨kP hf hc hn,ha.h,hv.h,by subst hN hF hR;exact cy b0 hf hc hl (fh (fun ex s ⟨p,e',W',h1,h2,h3⟩=>⟨p,e',W',h1,by rw[<-l6];exact h2,h3⟩) h)⟩
open Classical in
noncomputable def hkw(xs:List Value)(e:TypeId)(cap:Nat)(l:List α)(v:Value)(l':List α):HF:=fun a W=>if h:∃w,a=gs w cap l::xs/\W.get w=some (ro e l)then some (.ret v,W.put h.choose (some (ro e l')))else none
theorem I8{b b' c:Nat}{r:List Value}(h:gs b c l::r=gs b' c l::r):b=b':=by
 unfold gs at h;injection h with h1 _;injection h1 with h1;injection h1 with h1;injection h1 with h1 _
theorem Sk{w:Nat}{W:XW}{l0:List α}(hw:W.get w=some (ro e l))(hl:l0.length=l.length):hkw xs e cap l v l' (gs w cap l0::xs) W=some (.ret v,W.put w (some (ro e l'))):=by
 have e0:gs w cap l0=gs w cap l:=by unfold gs;rw[hl]
 rw[e0];have hx:∃w',gs w cap l::xs=gs w' cap l::xs/\W.get w'=some (ro e l):=⟨w,rfl,hw⟩;unfold hkw;rw[dif_pos hx,<-I8 hx.choose_spec.1]
theorem SK(h:Fw P f xs e cap l v l'):bQ P f (hkw xs e cap l v l'):=by
 have key:∀a W e' W',hkw xs e cap l v l' a W=some (e',W')->∃w,a=gs w cap l::xs/\W.get w=some (ro e l)/\e'=.ret v/\W'=W.put w (some (ro e l')):=fun a W e' W' q=>by
  unfold hkw at q;split at q
  ·rename_i hx;cases q;exact⟨_,hx.choose_spec.1,hx.choose_spec.2,rfl,rfl⟩
  cases q
 refine⟨h.en,fun a W e' W' q=>?_,fun a W e' W' q=>?_⟩
 ·obtain⟨w,_,_,_,rfl⟩:=key _ _ _ _ q;exact .put _ _ _
 obtain⟨w,rfl,hw,rfl,rfl⟩:=key _ _ _ _ q;exact BQ hw (aF (inferInstance:b7 (l.flatMap El.enc)).h) (au (fR yW rfl) (h.ba _ aj)) h.lo (fun e' W' hS=>hS) (aF (inferInstance:b7 (l'.flatMap El.enc)).h) h.bv
theorem iN[hM:kJ P](h:Fw P f xs e cap l v l'):dX P (bc [(f,hkw xs e cap l v l')] []):=bh (SK h)
end
end Go.Proofs.YthlkgmdkabelpaaGreat.X
