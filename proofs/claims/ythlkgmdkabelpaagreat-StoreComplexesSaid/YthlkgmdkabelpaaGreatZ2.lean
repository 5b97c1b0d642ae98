/-
  Packed by program (tools/pack.py) out of the texts L0 LA LB LC LD LF. No condition.
-/
import Derived.Test.YthlkgmdkabelpaaGreatZ1
set_option linter.all false
namespace Go.Proofs.YthlkgmdkabelpaaGreat.X
open Go Go.RowKit
class Br(v:Value):Prop where
 h:d8 v
class b7(l:List Value):Prop where
 h:cZ l
section
variable {v:Value} {l a b:List Value}
instance:b7 []:=⟨iH⟩
instance [hv:Br v][hl:b7 l]:b7 (v::l):=⟨j7 hv.h hl.h⟩
instance [ha:b7 a][hb:b7 b]:b7 (a++b):=⟨tJ ha.h hb.h⟩
instance {k:IntKind}{n:Int}:Br (.int k n):=⟨dz 1 rfl⟩
instance {x:Bool}:Br (.bool x):=⟨dz 1 rfl⟩
instance {s:ByteArray}:Br (.string s):=⟨dz 1 rfl⟩
instance:Br (.pointer none):=⟨dz 1 rfl⟩
instance {x y:Nat}:Br (.slice none x y):=⟨dz 1 rfl⟩
instance:Br (.map none):=⟨dz 1 rfl⟩
instance:Br .nilFunc:=⟨dz 1 rfl⟩
instance:Br .nilIface:=⟨dz 1 rfl⟩
instance [h:b7 l]:Br (.agg l.toArray):=⟨M6 h.h⟩
instance [h:b7 l]:Br (.tuple l.toArray):=⟨xL h.h⟩
instance {t:TypeId}[h:Br v]:Br (.iface t v):=⟨Hw h.h⟩
instance {n:Nat}[h:b7 l]:Br (FZ l n):=⟨GG h.h⟩
instance [h:b7 l]:Br (FP l):=⟨Rn h.h⟩
instance {f:FuncId}[ha:b7 a][hb:b7 b]:Br (.func (.func f) a.toArray b.toArray):=⟨fun T hT=>rx (ha.h T hT) (hb.h T hT)⟩
end
class El(α:Type) where
 enc:α->List Value
 m:Nat
 len:∀x,(enc x).length=m
 one:∀x,(enc x).all dr=true
 br:∀x,b7 (enc x)
variable {α:Type} [El α]
def sl(l:List α):Value:=FZ (l.flatMap El.enc) l.length
abbrev ro(e:TypeId)(l:List α):ah:=.cells (l.flatMap El.enc) e (0,0)
def gs{β:Type}(n cap:Nat)(l:List β):Value:=.slice (some ⟨n,0,none⟩) l.length cap
instance {x:α}:b7 (El.enc x):=El.br x
instance {l:List α}:b7 (l.flatMap El.enc):=⟨iZ (fun x=>(El.br x).h) l⟩
instance {l:List α}:Br (sl l):=⟨(inferInstance:Br (FZ (l.flatMap El.enc) l.length)).h⟩
theorem Wp{l:List α}:dr (sl l)=true:=rfl
theorem SC{x:α}:(El.enc x).all dr=true:=El.one x
theorem TI{x:α}:(El.enc x).length=El.m α:=El.len x
theorem gL{l:List α}:(l.flatMap El.enc).length=l.length*El.m α:=by
 induction l with
 |nil=>simp
 |cons a l ih=>rw[ab7,abP,El.len,ih,List.length_cons,acM,acy]
theorem LG{l:List α}:(l.flatMap El.enc).all dr=true:=by
 induction l with
 |nil=>rfl
 |cons a l ih=>rw[ab7,ade,El.one,ih];rfl
theorem zZ{l:List α}{k:Nat}:(l.flatMap El.enc).take (k*El.m α)=(l.take k).flatMap El.enc:=by
 induction l generalizing k with
 |nil=>simp
 |cons a l ih=>
  cases k with
  |zero=>simp
  |succ k=>rw[ab7,acM,acy,List.take_append,El.len,Nat.add_sub_cancel_left,List.take_of_length_le (by rw[El.len];omega),List.take_succ_cons,ab7,ih]
theorem yW{l:List α}{k:Nat}:(l.flatMap El.enc).drop (k*El.m α)=(l.drop k).flatMap El.enc:=by
 induction l generalizing k with
 |nil=>simp
 |cons a l ih=>
  cases k with
  |zero=>simp
  |succ k=>rw[ab7,acM,acy,<-acG,List.drop_left' (El.len a),List.drop_succ_cons,ih]
theorem sN{l:List α}:(l.flatMap El.enc).take (l.length*El.m α)=l.flatMap El.enc:=by rw[zZ,List.take_length]
theorem BT[Inhabited α]{l:List α}{i:Nat}(h:i<l.length):((l.flatMap El.enc).drop (i*El.m α)).take (El.m α)=El.enc (l.getD i default):=by
 rw[yW,acF h,ab7,List.take_left' (El.len _),abV,abS h];rfl
class mu(P:Program)(α:Type)[El α](e:outParam TypeId) where
 val:α->Value
 i:TypeInfo
 z:Value
 info:P.info? e=some i
 size:i.size=El.m α
 zero:az P e=some z
 zsz:z.cells.size=El.m α
 ld:∀x,gA P e (El.enc x) 0=some (val x)
 cells:∀x,(val x).cells.toList=El.enc x
theorem mu.sz{P:Program}{e:TypeId}[t:mu P α e]:sz P e=some (El.m α):=by unfold X.sz;rw[t.info];exact congrArg some t.size
section
variable {P:Program} {e:TypeId} {W:XW} {l:List α}
theorem WV:nY W (sl l) (some (.slice e))=some (.val (some (.int .i64 (l.length:Int)))):=rfl
theorem RR:pE (sl l)=some l.length:=rfl
theorem U1{m n:Nat}(hn:n=l.length)(hm:m=El.m α):fE W m n (sl l)=some (l.flatMap El.enc):=by
 subst hn hm;show(let q:=(l.flatMap El.enc).toArray.toList.take (l.length*El.m α);bif Nat.beq q.length (l.length*El.m α)then some q else none)=_;rw[show(l.flatMap El.enc).toArray.toList=l.flatMap El.enc from rfl,sN];simp only[gL,acb,cond_true]
theorem Rx[t:mu P α e][Inhabited α]{j:IntKind}{i:Nat}(h:i<l.length):kY P (some (.slice e)) (some (sl l)) (some (.int j (i:Int)))=some (.val (some (FP (El.enc (l.getD i default))))):=by
 show qu (l.flatMap El.enc).toArray.toList i l.length (sz P e)=_;rw[t.sz,show(l.flatMap El.enc).toArray.toList=l.flatMap El.enc from rfl];show(bif Nat.blt i l.length then val (FP (((l.flatMap El.enc).drop (i*El.m α)).take (El.m α)))else none)=_;rw[mj h,BT h];rfl
def slE{α:Type}[El α](l:List α):Option Nat->Option Nat->Option Operand->Option XR
 |some a,some b,none=>bif Nat.ble a b&&Nat.ble b l.length then val (sl ((l.take b).drop a))else none
 |_,_,_=>none
theorem Xr[t:mu P α e]{fr:XF}{lo hi mx:Option Operand}:ir P fr W (sl l) lo hi mx (some (.slice e))=slE l (cR fr 0 lo) (cR fr l.length hi) mx:=by
 show LB (l.flatMap El.enc) l.length (sz P e) (cR fr 0 lo) (cR fr l.length hi) mx=_;rw[t.sz];cases cR fr 0 lo with
 |none=>rfl
 |some a=>
  cases cR fr l.length hi with
  |none=>rfl
  |some b=>
   cases mx with
   |some x=>rfl
   |none=>
    show(bif Nat.ble a b&&Nat.ble b l.length then val (FZ (((l.flatMap El.enc).drop (a*El.m α)).take ((b-a)*El.m α)) (b-a))else none)=(bif Nat.ble a b&&Nat.ble b l.length then _ else none);cases h:(Nat.ble a b&&Nat.ble b l.length)with
    |false=>rfl
    |true=>
     simp only[abZ]at h;have h1:=Nat.le_of_ble_eq_true h.1;have h2:=Nat.le_of_ble_eq_true h.2;rw[yW,zZ,List.drop_take];unfold sl;rw[abR,abT,acO (by omega)]
end
theorem ge[Inhabited α]{l:List α}{i:Nat}(h:i<l.length):l.drop i=l.getD i default::l.drop (i+1):=by
 rw[acF h,abV,abS h];rfl
def b9:Option ah->Option (List Value)
 |some (.cells c _ _)=>some c
 |_=>none
class rm(e:aW):Prop where
 h:pW e
instance {v:Value}[h:Br v]:rm (.ret v):=⟨h.h⟩
instance {v:Value}[h:Br v]:rm (.pan v):=⟨h.h⟩
structure Fn(P:Program)(f:FuncId)(args:List Value)(e:aW):Prop where
 en:cS P f
 ba:cZ args
 be:pW e
 lo:bg P f args (wd [] 0 [] 0) fun e' _=>e'=e
open Classical in
noncomputable def hk1(args:List Value)(e:aW):HF:=fun a W=>if a=args then some (e,W)else none
theorem fZ{args:List Value}{e:aW}{W:XW}:hk1 args e args W=some (e,W):=if_pos rfl
theorem fj{P:Program}{f:FuncId}{args:List Value}{e:aW}(h:Fn P f args e):bS P f (hk1 args e):=by
 have key:∀a W e' W',hk1 args e a W=some (e',W')->a=args/\e'=e/\W'=W:=fun a W e' W' q=>by
  unfold hk1 at q;split at q
  ·cases q;exact⟨by assumption,rfl,rfl⟩
  cases q
 refine⟨h.en,fun a W e' W' q=>?_,fun a W e' W' q=>?_⟩
 ·obtain⟨_,_,rfl⟩:=key _ _ _ _ q;exact .refl _
 obtain⟨rfl,rfl,rfl⟩:=key _ _ _ _ q;exact uC h.ba h.lo (fun e' W' hS=>hS) h.be
open Classical in
noncomputable def tY(S:List Value->aW->Prop):HF:=fun a W=>if h:∃e,S a e then some (h.choose,W)else none
theorem EI{S:List Value->aW->Prop}{a:List Value}{e:aW}{W:XW}(h:S a e)(hd:∀e',S a e'->e'=e):tY S a W=some (e,W):=by
 have hx:∃e,S a e:=⟨e,h⟩;unfold tY;rw[dif_pos hx,hd _ hx.choose_spec]
theorem Cx{P:Program}{f:FuncId}{S:List Value->aW->Prop}(he:cS P f)(h:∀a e,S a e->Fn P f a e):bS P f (tY S):=by
 have key:∀a W e' W',tY S a W=some (e',W')->S a e'/\W'=W:=fun a W e' W' q=>by
  unfold tY at q;split at q
  ·rename_i hx;cases q;exact⟨hx.choose_spec,rfl⟩
  cases q
 refine⟨he,fun a W e' W' q=>?_,fun a W e' W' q=>?_⟩
 ·obtain⟨_,rfl⟩:=key _ _ _ _ q;exact .refl _
 obtain⟨q1,rfl⟩:=key _ _ _ _ q;have k:=h _ _ q1;exact uC k.ba k.lo (fun e' W' hS=>hS) k.be
class kz(P:Program):Prop where
 h:P.follows .mixedOrders=true
variable {P:Program} [hM:kz P]
theorem b0:dv P (aJ [] []):=⟨hM.h,eP .nil .nil⟩
theorem bh{f:FuncId}{h:HF}(k:bS P f h):dv P (aJ [(f,h)] []):=⟨hM.h,eP (.cons _ _ _ k .nil) .nil⟩
theorem oZ{f f':FuncId}{h h':HF}(k:bS P f h)(k':bS P f' h'):dv P (aJ [(f,h),(f',h')] []):=⟨hM.h,eP (.cons _ _ _ k (.cons _ _ _ k' .nil)) .nil⟩
theorem b1{f:FuncId}{args:List Value}{e:aW}(h:Fn P f args e):dv P (aJ [(f,hk1 args e)] []):=⟨hM.h,eP (.cons _ _ _ (fj h) .nil) .nil⟩
theorem b2{f f':FuncId}{args args':List Value}{e e':aW}(h:Fn P f args e)(h':Fn P f' args' e'):dv P (aJ [(f,hk1 args e),(f',hk1 args' e')] []):=⟨hM.h,eP (.cons _ _ _ (fj h) (.cons _ _ _ (fj h') .nil)) .nil⟩
section
variable {N k:Nat} {c d r:Code} {s s':XS} {e:gV} {Q:XQ} {x:Operand} {id:Nat} {ops:Array Oper}
theorem rs(q:ar P N k d s' Q)(h:fR P (bc P (aJ [] []) 1) N none ops ops.toList s=some (.code .norm s'):=by simp(disch:=first|decide|omega|(simp only[abP,List.length_cons,List.length_nil,abR,abT,abX]<;>omega)|(simp(disch:=decide) only[ae,ab,aa,b9.eq_1];done)) only[go_sem]<;>with_reducible rfl):ar P N k (.seq (.region id ops false) d) s Q:=ai (aG b0 h q)
theorem rS(q:ar P N k d s' (iV P N k r Q))(h:fR P (bc P (aJ [] []) 1) N none ops ops.toList s=some (.code .norm s'):=by simp(disch:=first|decide|omega|(simp only[abP,List.length_cons,List.length_nil,abR,abT,abX]<;>omega)|(simp(disch:=decide) only[ae,ab,aa,b9.eq_1];done)) only[go_sem]<;>with_reducible rfl):ar P N k (.seq (.seq (.region id ops false) d) r) s Q:=ai (ai (aG b0 h q))
theorem rl(q:Q .norm s')(h:fR P (bc P (aJ [] []) 1) N none ops ops.toList s=some (.code .norm s'):=by simp(disch:=first|decide|omega|(simp only[abP,List.length_cons,List.length_nil,abR,abT,abX]<;>omega)|(simp(disch:=decide) only[ae,ab,aa,b9.eq_1];done)) only[go_sem]<;>with_reducible rfl):ar P N k (.region id ops false) s Q:=aG b0 h q
theorem rf{p:Prop}(f:p)(q:ar P N k d s' Q)(h:p->fR P (bc P (aJ [] []) 1) N none ops ops.toList s=some (.code .norm s'):=by intro hf;simp(disch:=first|decide|omega|(simp only[abP,List.length_cons,List.length_nil,abR,abT,abX]<;>omega)|(simp(disch:=decide) only[ae,ab,aa,b9.eq_1];done)) only[hf,go_sem]<;>with_reducible rfl):ar P N k (.seq (.region id ops false) d) s Q:=ai (aG b0 (h f) q)
theorem rc{H:ci}(b:dv P H)(q:ar P N k d s' Q)(h:fR P (bc P H 1) N none ops ops.toList s=some (.code .norm s'):=by simp(disch:=first|decide|omega|(simp only[abP,List.length_cons,List.length_nil,abR,abT,abX]<;>omega)|(simp(disch:=decide) only[ae,ab,aa,b9.eq_1];done)) only[jF,aJ,eF,dN,fZ,go_sem]<;>with_reducible rfl):ar P N k (.seq (.region id ops false) d) s Q:=ai (aG b h q)
theorem eO{H:ci}{p:Prop}(f:p)(b:dv P H)(q:ar P N k d s' Q)(h:p->fR P (bc P H 1) N none ops ops.toList s=some (.code .norm s'):=by intro hf;simp(disch:=first|decide|omega|(simp only[abP,List.length_cons,List.length_nil,abR,abT,abX]<;>omega)|(simp(disch:=decide) only[ae,ab,aa,b9.eq_1];done)) only[hf,jF,aJ,eF,dN,fZ,go_sem]<;>with_reducible rfl):ar P N k (.seq (.region id ops false) d) s Q:=ai (aG b (h f) q)
theorem TQ{H:ci}(b:dv P H)(q:ar P N k d s' (iV P N k r Q))(h:fR P (bc P H 1) N none ops ops.toList s=some (.code .norm s'):=by simp(disch:=first|decide|omega|(simp only[abP,List.length_cons,List.length_nil,abR,abT,abX]<;>omega)|(simp(disch:=decide) only[ae,ab,aa,b9.eq_1];done)) only[jF,aJ,eF,dN,fZ,go_sem]<;>with_reducible rfl):ar P N k (.seq (.seq (.region id ops false) d) r) s Q:=ai (ai (aG b h q))
theorem qb{H:ci}(b:dv P H)(q:Q .norm s')(h:fR P (bc P H 1) N none ops ops.toList s=some (.code .norm s'):=by simp(disch:=first|decide|omega|(simp only[abP,List.length_cons,List.length_nil,abR,abT,abX]<;>omega)|(simp(disch:=decide) only[ae,ab,aa,b9.eq_1];done)) only[jF,aJ,eF,dN,fZ,go_sem]<;>with_reducible rfl):ar P N k (.region id ops false) s Q:=aG b h q
theorem fX{P:Program}{all:Array Oper}{n:Nat}{rs:List bp}(h1:Region.lexB .any all=true)(h2:iR rs n=true)(h3:jY P all (bG all) rs rs 0=true):jG P all n rs=true:=by
 unfold jG;rw[h1,h2,h3];simp
theorem aQ{P:Program}{all:Array Oper}{ms:List Nat}{rs l:List bp}{r:bp}{i:Nat}(h:nc P r i (dg ms i rs 0) (jr ms i rs 0) (gQ all r.s.fr r.o)=true)(h2:jY P all ms rs l (i+1)=true):jY P all ms rs (r::l) i=true:=by
 unfold jY;rw[h,h2];rfl
theorem dj{P:Program}{r:bp}{i:Nat}{u:List Nat}{us:List (Nat×bp)}{w:Option Bool}{t:TypeId}{x y:Operand}(ho:r.o.op=.indexAddr t x y)(hw:w=some true)(hu:(u.all fun n=>Nat.blt n r.s.W.next||Nat.ble r.s'.W.next n)=true)
 (hc:fT (kY P (P.underlying t) (ev r.s.fr x) (ev r.s.fr y))=true):nc P r i u us w=true:=by
 subst hw;unfold nc;rw[hu,ho];show(u.isEmpty||true&&(true&&fT (kY P (P.underlying t) (ev r.s.fr x) (ev r.s.fr y))||_))=true;rw[hc];simp
theorem rd{rs:List bp}(q:ar P N k d s' Q)(h:aY P (bc P (aJ [] []) 1) N none ops ops.toList s=some (rs,s'):=by simp(disch:=first|decide|omega|(simp only[abP,List.length_cons,List.length_nil,abR,abT,abX]<;>omega)|(simp(disch:=decide) only[ae,ab,aa,b9.eq_1];done)) only[aY.eq_1,aY.eq_2,fV.eq_1,cW.eq_1,cW.eq_2,go_sem]<;>with_reducible rfl)(hk:jG P ops s.ds.length rs=true:=by
 refine fX (by kernel_rfl) (by kernel_rfl) ?_
 repeat (refine aQ (by first|(refine dj (by with_reducible rfl) (by kernel_rfl) (by kernel_rfl) ?_;simp(disch:=first|decide|omega|(simp only[abP,List.length_cons,List.length_nil,abR,abT,abX]<;>omega)|(simp(disch:=decide) only[ae,ab,aa,b9.eq_1];done)) only[fT.eq_1,cond_true,go_sem];done)|kernel_rfl) ?_)
 rfl):ar P N k (.seq (.region id ops true) d) s Q:=ai (eM b0 h hk q)
theorem tu{rs:List bp}{p:Prop}(f:p)(q:ar P N k d s' Q)(h:p->aY P (bc P (aJ [] []) 1) N none ops ops.toList s=some (rs,s'):=by intro hf;simp(disch:=first|decide|omega|(simp only[abP,List.length_cons,List.length_nil,abR,abT,abX]<;>omega)|(simp(disch:=decide) only[ae,ab,aa,b9.eq_1];done)) only[hf,aY.eq_1,aY.eq_2,fV.eq_1,cW.eq_1,cW.eq_2,go_sem]<;>with_reducible rfl)(hk:jG P ops s.ds.length rs=true:=by
 refine fX (by kernel_rfl) (by kernel_rfl) ?_
 repeat (refine aQ (by first|(refine dj (by with_reducible rfl) (by kernel_rfl) (by kernel_rfl) ?_;simp(disch:=first|decide|omega|(simp only[abP,List.length_cons,List.length_nil,abR,abT,abX]<;>omega)|(simp(disch:=decide) only[ae,ab,aa,b9.eq_1];done)) only[fT.eq_1,cond_true,go_sem];done)|kernel_rfl) ?_)
 rfl):ar P N k (.seq (.region id ops true) d) s Q:=ai (eM b0 (h f) hk q)
theorem rD{rs:List bp}(q:ar P N k d s' (iV P N k r Q))(h:aY P (bc P (aJ [] []) 1) N none ops ops.toList s=some (rs,s'):=by simp(disch:=first|decide|omega|(simp only[abP,List.length_cons,List.length_nil,abR,abT,abX]<;>omega)|(simp(disch:=decide) only[ae,ab,aa,b9.eq_1];done)) only[aY.eq_1,aY.eq_2,fV.eq_1,cW.eq_1,cW.eq_2,go_sem]<;>with_reducible rfl)(hk:jG P ops s.ds.length rs=true:=by
 refine fX (by kernel_rfl) (by kernel_rfl) ?_
 repeat (refine aQ (by first|(refine dj (by with_reducible rfl) (by kernel_rfl) (by kernel_rfl) ?_;simp(disch:=first|decide|omega|(simp only[abP,List.length_cons,List.length_nil,abR,abT,abX]<;>omega)|(simp(disch:=decide) only[ae,ab,aa,b9.eq_1];done)) only[fT.eq_1,cond_true,go_sem];done)|kernel_rfl) ?_)
 rfl):ar P N k (.seq (.seq (.region id ops true) d) r) s Q:=ai (ai (eM b0 h hk q))
theorem LO{rs:List bp}{p:Prop}(f:p)(q:ar P N k d s' (iV P N k r Q))(h:p->aY P (bc P (aJ [] []) 1) N none ops ops.toList s=some (rs,s'):=by intro hf;simp(disch:=first|decide|omega|(simp only[abP,List.length_cons,List.length_nil,abR,abT,abX]<;>omega)|(simp(disch:=decide) only[ae,ab,aa,b9.eq_1];done)) only[hf,aY.eq_1,aY.eq_2,fV.eq_1,cW.eq_1,cW.eq_2,go_sem]<;>with_reducible rfl)(hk:jG P ops s.ds.length rs=true:=by
 refine fX (by kernel_rfl) (by kernel_rfl) ?_
 repeat (refine aQ (by first|(refine dj (by with_reducible rfl) (by kernel_rfl) (by kernel_rfl) ?_;simp(disch:=first|decide|omega|(simp only[abP,List.length_cons,List.length_nil,abR,abT,abX]<;>omega)|(simp(disch:=decide) only[ae,ab,aa,b9.eq_1];done)) only[fT.eq_1,cond_true,go_sem];done)|kernel_rfl) ?_)
 rfl):ar P N k (.seq (.seq (.region id ops true) d) r) s Q:=ai (ai (eM b0 (h f) hk q))
theorem Hi{H:ci}{rs:List bp}(b:dv P H)(q:ar P N k d s' Q)(h:aY P (bc P H 1) N none ops ops.toList s=some (rs,s'):=by simp(disch:=first|decide|omega|(simp only[abP,List.length_cons,List.length_nil,abR,abT,abX]<;>omega)|(simp(disch:=decide) only[ae,ab,aa,b9.eq_1];done)) only[jF,aJ,eF,dN,fZ,aY.eq_1,aY.eq_2,fV.eq_1,cW.eq_1,cW.eq_2,go_sem]<;>with_reducible rfl)(hk:jG P ops s.ds.length rs=true:=by
 refine fX (by kernel_rfl) (by kernel_rfl) ?_
 repeat (refine aQ (by first|(refine dj (by with_reducible rfl) (by kernel_rfl) (by kernel_rfl) ?_;simp(disch:=first|decide|omega|(simp only[abP,List.length_cons,List.length_nil,abR,abT,abX]<;>omega)|(simp(disch:=decide) only[ae,ab,aa,b9.eq_1];done)) only[fT.eq_1,cond_true,go_sem];done)|kernel_rfl) ?_)
 rfl):ar P N k (.seq (.region id ops true) d) s Q:=ai (eM b h hk q)
theorem ct(h:ar P N k c s Q)(hx:ev s.fr x=some (.bool true):=by simp(disch:=first|decide|omega|(simp only[abP,List.length_cons,List.length_nil,abR,abT,abX]<;>omega)|(simp(disch:=decide) only[ae,ab,aa,b9.eq_1];done)) only[go_sem]<;>with_reducible rfl):ar P N k (.cond x c d) s Q:=t7 hx h
theorem cf(h:ar P N k d s Q)(hx:ev s.fr x=some (.bool false):=by simp(disch:=first|decide|omega|(simp only[abP,List.length_cons,List.length_nil,abR,abT,abX]<;>omega)|(simp(disch:=decide) only[ae,ab,aa,b9.eq_1];done)) only[go_sem]<;>with_reducible rfl):ar P N k (.cond x c d) s Q:=kO hx h
theorem cb{b:Bool}(h1:b=true->ar P N k c s Q)(h2:b=false->ar P N k d s Q)(hx:ev s.fr x=some (.bool b):=by simp(disch:=first|decide|omega|(simp only[abP,List.length_cons,List.length_nil,abR,abT,abX]<;>omega)|(simp(disch:=decide) only[ae,ab,aa,b9.eq_1];done)) only[go_sem]<;>with_reducible rfl):ar P N k (.cond x c d) s Q:=by
 cases b with
 |true=>exact t7 hx (h1 rfl)
 |false=>exact kO hx (h2 rfl)
theorem cp{p:Prop}[Decidable p](h1:p->ar P N k c s Q)(h2:¬p->ar P N k d s Q)(hx:ev s.fr x=some (.bool (decide p)):=by simp(disch:=first|decide|omega|(simp only[abP,List.length_cons,List.length_nil,abR,abT,abX]<;>omega)|(simp(disch:=decide) only[ae,ab,aa,b9.eq_1];done)) only[go_sem]<;>with_reducible rfl):ar P N k (.cond x c d) s Q:=cb (fun e=>h1 (of_decide_eq_true e)) (fun e=>h2 (of_decide_eq_false e)) hx
end
def kC(P:Program)(R:List ResultVar)(fr:XF):Option (Option Value×XW)->Option XO
 |some (some v,W)=>some (.fin (.pan v) W)
 |some (none,W)=>wI W (rL P W fr R)
 |none=>none
theorem lB{P:Program}{fn:Func}{fr:XF}{o:Option (Option Value×XW)}:kC P fn.results.toList fr o=pK P fn fr o:=by
 unfold kC pK;cases o with
 |none=>rfl
 |some q=>
  obtain⟨v,W⟩:=q;cases v<;>rfl
def qL(P:Program)(R:List ResultVar)(E:aW->XW->Prop):XQ:=fun ex s=>∃p e' W',oH ex=some p/\kC P R s.fr (cU (aJ [] []) s.ds p s.W)=some (.fin e' W')/\E e' W'
theorem fY{f:FuncId}{fn:Func}{c:Code}{args:List Value}{e:aW}{F:List (Nat×Option Value)}{N:Nat}{R:Array ResultVar}(hf:P.funcs[f]?=some fn)(hR:fn.results=R)(hc:fn.body=some c:=by rfl)(hN:fn.ntmps=N:=by rfl)(hn:fh fn=true:=by rfl)(hl:args.length<=fn.ntmps:=by exact Nat.le_of_ble_eq_true rfl)
 (hF:bk 0 args []=F:=by simp only[bk.eq_1,bk.eq_2,Nat.reduceAdd]<;>with_reducible rfl) [ha:b7 args] [he:rm e] (h:ar P N 0 c ⟨ao F,wd [] 0 [] 0,[]⟩ (qL P R.toList fun e' _=>e'=e)):Fn P f args e:=
 ⟨lV hf hc hn,ha.h,he.h,by subst hN hF hR;exact cH b0 hf hc hl (fu (fun ex s ⟨p,e',W',h1,h2,h3⟩=>⟨p,e',W',h1,by rw[<-lB];exact h2,h3⟩) h)⟩
section
variable {R:List ResultVar} {E:aW->XW->Prop} {N k:Nat} {s:XS} {e:aW} {W:XW} {Q:XQ}
theorem rt(q:E e W)(hQ:qL P R E .ret s->Q .ret s:=by exact fun h=>h)(h:kC P R s.fr (cU (aJ [] []) s.ds none s.W)=some (.fin e W):=by simp(disch:=first|decide|omega|(simp only[abP,List.length_cons,List.length_nil,abR,abT,abX]<;>omega)|(simp(disch:=decide) only[ae,ab,aa,b9.eq_1];done)) only[kC.eq_1,kC.eq_2,go_sem]<;>with_reducible rfl):ar P N k .ret s Q:=fQ (hQ ⟨_,e,W,rfl,h,q⟩)
end
section
variable {N k:Nat} {c d r:Code} {s:XS} {Q:XQ} {x:Operand}
theorem st(h:ar P N k c s (iV P N k r Q))(hx:ev s.fr x=some (.bool true):=by simp(disch:=first|decide|omega|(simp only[abP,List.length_cons,List.length_nil,abR,abT,abX]<;>omega)|(simp(disch:=decide) only[ae,ab,aa,b9.eq_1];done)) only[go_sem]<;>with_reducible rfl):ar P N k (.seq (.cond x c d) r) s Q:=ai (t7 hx h)
theorem sf(h:ar P N k d s (iV P N k r Q))(hx:ev s.fr x=some (.bool false):=by simp(disch:=first|decide|omega|(simp only[abP,List.length_cons,List.length_nil,abR,abT,abX]<;>omega)|(simp(disch:=decide) only[ae,ab,aa,b9.eq_1];done)) only[go_sem]<;>with_reducible rfl):ar P N k (.seq (.cond x c d) r) s Q:=ai (kO hx h)
theorem sp{p:Prop}[Decidable p](h1:p->ar P N k c s (iV P N k r Q))(h2:¬p->ar P N k d s (iV P N k r Q))(hx:ev s.fr x=some (.bool (decide p)):=by simp(disch:=first|decide|omega|(simp only[abP,List.length_cons,List.length_nil,abR,abT,abX]<;>omega)|(simp(disch:=decide) only[ae,ab,aa,b9.eq_1];done)) only[go_sem]<;>with_reducible rfl):ar P N k (.seq (.cond x c d) r) s Q:=ai (cp h1 h2 hx)
theorem sb{b:Bool}(h1:b=true->ar P N k c s (iV P N k r Q))(h2:b=false->ar P N k d s (iV P N k r Q))(hx:ev s.fr x=some (.bool b):=by simp(disch:=first|decide|omega|(simp only[abP,List.length_cons,List.length_nil,abR,abT,abX]<;>omega)|(simp(disch:=decide) only[ae,ab,aa,b9.eq_1];done)) only[go_sem]<;>with_reducible rfl):ar P N k (.seq (.cond x c d) r) s Q:=ai (cb h1 h2 hx)
theorem sk(h:ar P N k r s Q):ar P N k .skip s (iV P N k r Q):=ap h
end
def qk(v v':Value):Prop:=∀ρ x,VR ρ v x->VR ρ v' x
theorem i8{v:Value}:qk v v:=fun _ _ h=>h
theorem WG{b:Nat}{α:Type}:qk (.slice none 0 0) (gs b aq ([]:List α)):=fun ρ x h=>by rw[h.of_flat 1 rfl];exact .sliceN _ _
theorem Eu{α:Type}[El α]:qk (.slice none 0 0) (sl ([]:List α)):=fun ρ x h=>by rw[h.of_flat 1 rfl];exact .frzE _ _
theorem Tm{k:IntKind}{a b:Int}(h:a=b):qk (.int k a) (.int k b):=by subst h;exact i8
theorem TT{q:Prop}[Decidable q](h:q):qk (.bool true) (.bool (decide q)):=by rw[decide_eq_true h];exact i8
theorem X7{q:Prop}[Decidable q](h:¬q):qk (.bool false) (.bool (decide q)):=by rw[decide_eq_false h];exact i8
theorem UH{p q:Prop}[Decidable p][Decidable q](h:p↔q):qk (.bool (decide p)) (.bool (decide q)):=by rw[decide_eq_decide.2 h];exact i8
theorem Qy{α:Type}{n:Nat}{l:List α}:qk (gs n bf l) (gs n aq l):=fun ρ x h=>by
 unfold gs at h ⊢;obtain⟨_,q,_⟩|⟨i,hr,⟨hc,_⟩|⟨_,c,rfl,h1,h2,h3⟩|⟨_,h1,h2,a,rfl⟩|⟨q,_⟩⟩:=h.sliceOr
 ·exact absurd q (by decide)
 ·exact absurd hc (by decide)
 ·exact .sliceO _ _ _ _ _ i hr rfl h1 h2 h3
 ·rw[h1];exact .sliceE _ _ _ _ i hr rfl h2
 exact absurd q (by decide)
theorem Vv{α:Type}{b cap:Nat}{l l':List α}(h:l.length=l'.length):qk (gs b cap l) (gs b cap l'):=by unfold gs;rw[h];exact i8
def ng(F:List (Nat×Option Value)):List (Nat×Option Value)->Prop
 |[]=>True
 |(t,some v')::F'=>(t<511/\∃v,lk F t=some v/\qk v v')/\ng F F'
 |(_,none)::F'=>ng F F'
theorem ng.mem{F:List (Nat×Option Value)}:∀{F':List (Nat×Option Value)},ng F F'->∀t v',(t,some v')∈F'->t<511/\∃v,lk F t=some v/\qk v v'
 |[],_,t,v,h=>by cases h
 |(t',some v')::F',h,t,v,hp=>by
  rcases List.mem_cons.1 hp with e|hp
  ·cases e;exact h.1
  exact ng.mem h.2 t v hp
 |(t',none)::F',h,t,v,hp=>by
  rcases List.mem_cons.1 hp with e|hp
  ·cases e
  exact ng.mem (F':=F') h t v hp
theorem KB{F:List (Nat×Option Value)}:ng F []:=trivial
theorem u9{F F':List (Nat×Option Value)}{t:Nat}{v v':Value}(ht:t<511)(hl:lk F t=some v)(hv:qk v v')(hs:ng F F'):ng F ((t,some v')::F'):=⟨⟨ht,v,hl,hv⟩,hs⟩
def kQ(n:Nat)(L:List (Nat×Option ah)):List (Nat×Option ah)->Prop
 |[]=>True
 |(m,some o')::L'=>((m<n/\m<16383/\lk L m=some o')\/n<=m)/\kQ n L L'
 |(_,none)::L'=>kQ n L L'
theorem kQ.mem{n:Nat}{L:List (Nat×Option ah)}:∀{L':List (Nat×Option ah)},kQ n L L'->∀m o',(m,some o')∈L'->(m<n/\m<16383/\lk L m=some o')\/n<=m
 |[],_,t,v,h=>by cases h
 |(t',some v')::L',h,t,v,hp=>by
  rcases List.mem_cons.1 hp with e|hp
  ·cases e;exact h.1
  exact kQ.mem h.2 t v hp
 |(t',none)::L',h,t,v,hp=>by
  rcases List.mem_cons.1 hp with e|hp
  ·cases e
  exact kQ.mem (L':=L') h t v hp
theorem VK{n:Nat}{L:List (Nat×Option ah)}:kQ n L []:=trivial
theorem XL{n m:Nat}{L L':List (Nat×Option ah)}{o o':ah}(h:m<n)(h2:m<16383)(hl:lk L m=some o)(e:o=o')(hs:kQ n L L'):kQ n L ((m,some o')::L'):=⟨.inl ⟨h,h2,by rw[hl,e]⟩,hs⟩
theorem TP{n m:Nat}{L L':List (Nat×Option ah)}{o':ah}(h:n<=m)(hs:kQ n L L'):kQ n L ((m,some o')::L'):=⟨.inr h,hs⟩
section
variable {P:Program} {k:Nat} {s s':XS} {F F':List (Nat×Option Value)} {L L':List (Nat×Option ah)} {n n' nl nl':Nat} {lg lg':List Nat} {ds ds':List cq}
theorem Gu(hf:∀t v',s'.fr.get t=some v'->∃v,s.fr.get t=some v/\qk v v')(hw:∀n o,s'.W.get n=some o->s.W.get n=some o\/s.W.next<=n)(hn:s.W.next<=s'.W.next)(hd:s'.ds=s.ds):bz P k s s':=fun N ρ0 W0 w0 e ex a w h0 h1 h2 hc=>by
 obtain⟨ρ,⟨g1,g2,g3,g4⟩,g5,g6⟩:=hc;have hw':∀n i,ρ n=some i->s'.W.get n≠none->s'.W.get n=s.W.get n:=fun n i q1 q2=>by
  cases e:s'.W.get n with
  |none=>exact absurd e q2
  |some o=>
   rcases hw n o e with r|r
   ·rw[r]
   rw[g5 n r]at q1;cases q1
 have himg:∀b,d9 ρ s'.W.get b->d9 ρ s.W.get b:=fun b ⟨n,i,q1,q2,q3⟩=>⟨n,i,q1,by rw[<-hw' n i q1 q2];exact q2,q3⟩
 exact⟨ρ,⟨⟨g1.le,g1.keeps,fun b hb=>g1.img b (himg b hb),fun n hn'=>(g1.dom n hn').imp id fun⟨q1,q2⟩=>⟨q1,acW q2 hn⟩,acx g1.next hn,g1.fzn⟩,
  ⟨fun m i o q1 q2=>g2.obj m i o q1 (by rw[<-hw' m i q1 (by rw[q2];simp)];exact q2),fun m1 m2 i j q1 q2 q3 q4 q5=>g2.inj m1 m2 i j q1 q2 (by rw[<-hw' m1 i q1 q3];exact q3) (by rw[<-hw' m2 j q2 q4];exact q4) q5,fun b o q=>⟨(g2.frz b o q).1,fun q2=>(g2.frz b o q).2 (himg b q2)⟩⟩,
  ⟨g3.size,fun t v e=>by obtain⟨v0,r1,r2⟩:=hf t v e;exact r2 _ _ (g3.rep t v0 r1)⟩,by rw[hd];exact g4⟩,fun n hn'=>g5 n (acx hn hn'),g6⟩
theorem bL(hF:ng F F':=by
 try dsimp only
 repeat' (first|exact KB|refine u9 (by decide) (by repeat (first|exact ab|refine Eq.trans (aa (by decide)) ?_)) (by first|exact i8|exact WG|exact Eu|exact Qy|exact Tm (by omega)|exact Vv (by first|rfl|omega|(simp only[abX]<;>omega))|exact TT (by omega)|exact X7 (by omega)|exact UH (by omega)) ?_))
 (hL:kQ n L L':=by
  try dsimp only
  repeat' (first|exact VK|refine XL (by decide) (by decide) (by repeat (first|exact ab|refine Eq.trans (aa (by decide)) ?_)) rfl ?_|refine TP (by decide) ?_)) (hn:n<=n':=by decide):bz P k ⟨ao F,wd L n lg nl,ds⟩ ⟨ao F',wd L' n' lg' nl',ds⟩:=by
 refine Gu (fun t v h=>?_) (fun m o h=>?_) hn rfl
 ·obtain⟨h1,v0,h2,h3⟩:=hF.mem _ _ (bK (eQ h));exact⟨v0,by show(ao F).get t=some v0;rw[e9 h1];exact h2,h3⟩
 rcases hL.mem _ _ (bK (bY h).2)with⟨h1,h2,h3⟩|h1
 ·left;show(wd L n lg nl).get m=some o;rw[ae h1 h2];exact h3
 exact .inr h1
theorem s8{α:Type}[El α]{x cap:Nat}{c:List Value}{l l':List α}(hc:c=l.flatMap El.enc)(hl:l=l')(hb:l.length<=cap):TV (dL x c) (gs x cap l) (sl l'):=by
 subst hc hl;have:=uJ (n:=x) (o:=0) (q:=(l.flatMap El.enc).length) (c:=l.flatMap El.enc) hb (fun e=>by rw[gL,e,acH]);rwa [List.drop_zero,List.take_length]at this
theorem ga{α:Type}{θ:Nat->Option Nat}{n m cap:Nat}{l l':List α}(h:θ n=some m)(hl:l.length=l'.length):TV (aP θ) (gs n cap l) (gs m cap l'):=by
 unfold gs;rw[hl];exact cC h
def jt(P:Program)(x:Nat)(c:List Value)(n:Nat)(L:List (Nat×Option ah)):List (Nat×Option ah)->Prop
 |[]=>True
 |(m,some o')::L'=>(m≠x/\m<n/\m<16383/\∃o,lk L m=some o/\TO P (dL x c) o o')/\jt P x c n L L'
 |(_,none)::L'=>jt P x c n L L'
theorem jt.mem{x:Nat}{c:List Value}:∀{L':List (Nat×Option ah)},jt P x c n L L'->∀m o',(m,some o')∈L'->m≠x/\m<n/\m<16383/\∃o,lk L m=some o/\TO P (dL x c) o o'
 |[],_,t,v,h=>by cases h
 |(t',some v')::L',h,t,v,hp=>by
  rcases List.mem_cons.1 hp with e|hp
  ·cases e;exact h.1
  exact jt.mem h.2 t v hp
 |(t',none)::L',h,t,v,hp=>by
  rcases List.mem_cons.1 hp with e|hp
  ·cases e
  exact jt.mem (L':=L') h t v hp
theorem D5{x:Nat}{c:List Value}:jt P x c n L []:=trivial
theorem Ae{x m:Nat}{c:List Value}(hs:jt P x c n L L'):jt P x c n L ((m,none)::L'):=hs
theorem zG{x m:Nat}{c:List Value}{o o':ah}(h0:m≠x)(h:m<n)(h2:m<16383)(hl:lk L m=some o)(e:TO P (dL x c) o o')(hs:jt P x c n L L'):jt P x c n L ((m,some o')::L'):=⟨⟨h0,h,h2,o,hl,e⟩,hs⟩
theorem rB{x:Nat}{c:List Value}{o:ah}:TO P (dL x c) o o:=fun ρ ρ' i ob ht ho=>ho.mono ⟨ht.2.1,ht.1⟩
theorem fz(x:Nat){c:List Value}{e:TypeId}{fr:Nat×Nat}(hx:lk L x=some (.cells c e fr):=by repeat (first|exact ab|refine Eq.trans (aa (by decide)) ?_))(hn:x<n:=by decide)(hn2:x<16383:=by decide)
 (hF:cY (dL x c) F F':=by
  try dsimp only
  repeat' (first|exact di|refine bR (by decide) (by repeat (first|exact ab|refine Eq.trans (aa (by decide)) ?_)) (by first|exact gJ|exact s8 rfl (by first|rfl|simp) (by simp only[abP,List.length_cons,List.length_nil,abR,abT,aq,bf]<;>omega)) ?_))
 (hL:jt P x c n L L':=by
  try dsimp only
  repeat' (first|exact D5|exact Ae|refine zG (by decide) (by decide) (by decide) (by repeat (first|exact ab|refine Eq.trans (aa (by decide)) ?_)) (by first|exact rB|(refine cm ?_;repeat (first|exact aR|refine av (by first|exact gJ|exact s8 rfl (by first|rfl|simp) (by simp only[abP,List.length_cons,List.length_nil,abR,abT,aq,bf]<;>omega)) ?_))) ?_)) (hnn:n<=n':=by decide) :
 bz P k ⟨ao F,wd L n lg nl,[]⟩ ⟨ao F',wd L' n' lg' nl',[]⟩:=by
 refine kI x (c:=c) (e:=e) (fr:=fr) (by show(wd L n lg nl).get x=_;rw[ae hn hn2];exact hx) ?_ hnn (fun t v' h=>?_) (fun m o' h=>?_) .nil
 ·show(wd L' n' lg' nl').get x=none;cases e:(wd L' n' lg' nl').get x with
  |none=>rfl
  |some o=>exact absurd rfl (hL.mem _ _ (bK (bY e).2)).1
 ·obtain⟨h1,v,h2,h3⟩:=hF.mem t v' (bK (eQ h));exact⟨v,by show(ao F).get t=some v;rw[e9 h1];exact h2,h3⟩
 obtain⟨h0,h1,h2,o,h3,h4⟩:=hL.mem _ _ (bK (bY h).2);exact⟨o,by show(wd L n lg nl).get m=some o;rw[ae h1 h2];exact h3,h4⟩
theorem ag{R:List (Nat×Option Nat)}{x y:Nat}{v w:Option Nat}(h:lk R x=v)(hn:y≠x):lk ((y,w)::R) x=v:=(aa hn).trans h
theorem oN{T:RT}{R:List (Nat×Option Nat)}{m x:Nat}{o w:ah}(hR:lk R x=some m)(h1:x<n)(h2:x<16383)(hl:lk L x=some o)(ho:TO P T o w)(hs:gc P T R n L L'):gc P T R n L ((m,some w)::L'):=aN x hR h1 h2 hl ho hs
theorem rn(R:List (Nat×Nat)){R1 R2:List (Nat×Option Nat)}(e1:R.map (fun p=>(p.1,some p.2))=R1:=by simp only[ack,acI]<;>rfl)(e2:R.map (fun p=>(p.2,some p.1))=R2:=by simp only[ack,acI]<;>rfl)
 (hR:ke k n' R2 R1=true:=by decide) (hRi:∀p∈R2,p.1<n':=by decide) (hk:k<=n':=by decide)
 (hF:cY (aP (lk R1)) F F':=by
  try dsimp only
  repeat' (first|exact di|refine bR (by decide) (by repeat (first|exact ab|refine Eq.trans (aa (by decide)) ?_)) (by first|exact tv_gv (by decide) (by first|rfl|simp)|exact cC (by decide)|exact bI (by decide)|exact cI (by decide)|exact Br.h _ aj) ?_))
 (hL:gc P (aP (lk R1)) R1 n L L':=by
  try dsimp only
  repeat' (first|exact dP|exact kb|refine oN (by first|exact ab|exact ag ab (by decide)|exact ag (ag ab (by decide)) (by decide)|exact ag (ag (ag ab (by decide)) (by decide)) (by decide)|exact ag (ag (ag (ag ab (by decide)) (by decide)) (by decide)) (by decide)|exact ag (ag (ag (ag (ag ab (by decide)) (by decide)) (by decide)) (by decide)) (by decide)|exact ag (ag (ag (ag (ag (ag ab (by decide)) (by decide)) (by decide)) (by decide)) (by decide)) (by decide)) (by decide) (by decide) (by repeat (first|exact ab|refine Eq.trans (aa (by decide)) ?_)) (by first|exact aT aj (aB b7.h)|(refine cm ?_;repeat (first|exact aR|refine av (by first|exact tv_gv (by decide) (by first|rfl|simp)|exact cC (by decide)|exact bI (by decide)|exact cI (by decide)|exact Br.h _ aj) ?_))) ?_)) :
 bz P k ⟨ao F,wd L n lg nl,[]⟩ ⟨ao F',wd L' n' lg' nl',[]⟩:=fI R1 R2 hR hRi hk hF hL .nil
def nS(T T':RT)(F:List (Nat×Option Value)):List (Nat×Option Value)->Prop
 |[]=>True
 |(t,some w)::F'=>(t<511/\∃v w1,lk F t=some v/\TV T v w1/\TV T' w1 w)/\nS T T' F F'
 |(_,none)::F'=>False
theorem Tb{T T':RT}:nS T T' F []:=trivial
theorem Oi{T T':RT}{t:Nat}{v w1 w:Value}(ht:t<511)(hl:lk F t=some v)(h1:TV T v w1)(h2:TV T' w1 w)(hs:nS T T' F F'):nS T T' F ((t,some w)::F'):=⟨⟨ht,v,w1,hl,h1,h2⟩,hs⟩
def BS:List (Nat×Option Value)->Bool
 |[]=>true
 |(t,_)::F=>F.all (fun p=>!(Nat.beq t p.1))&&BS F
theorem cY.weak{T:RT}{F1:List (Nat×Option Value)}{p:Nat×Option Value}:∀{F':List (Nat×Option Value)},cY T F1 F'->F'.all (fun q=>!(Nat.beq p.1 q.1))=true->cY T (p::F1) F'
 |[],_,_=>trivial
 |(t,w)::F',h,hk=>by
  simp only[List.all_cons,abZ,acJ]at hk;refine⟨fun u e=>?_,cY.weak h.2 hk.2⟩;obtain⟨h1,v,h2,h3⟩:=h.1 u e;refine⟨h1,v,?_,h3⟩;obtain⟨q,x⟩:=p;rw[aa (fun e=>by
   have:=hk.1;simp only at this;rw[show q=t from e,acb]at this;cases this)]
  exact h2
theorem nS.mid{T T':RT}:∀{F':List (Nat×Option Value)},nS T T' F F'->BS F'=true->∃F1,cY T F F1/\cY T' F1 F'
 |[],_,_=>⟨[],trivial,trivial⟩
 |(t,some w)::F',h,hk=>by
  unfold BS at hk;simp only[abZ]at hk;obtain⟨⟨h1,v,w1,h2,h3,h4⟩,h5⟩:=h;obtain⟨F1,g1,g2⟩:=nS.mid h5 hk.2;exact⟨(t,some w1)::F1,bR h1 h2 h3 g1,bR h1 ab h4 (cY.weak (p:=(t,some w1)) g2 hk.1)⟩
 |(t,none)::F',h,_=>h.elim
theorem Ea(x:Nat)(R:List (Nat×Nat)){c:List Value}{e:TypeId}{fr:Nat×Nat}{R1 R2:List (Nat×Option Nat)}(hx:lk L x=some (.cells c e fr):=by repeat (first|exact ab|refine Eq.trans (aa (by decide)) ?_))(hn:x<n:=by decide)(hn2:n<16383:=by decide)
 (e1:R.map (fun p=>(p.1,some p.2))=R1:=by simp only[ack,acI]<;>rfl) (e2:R.map (fun p=>(p.2,some p.1))=R2:=by simp only[ack,acI]<;>rfl)
 (hR:ke k n' R2 R1=true:=by decide) (hRi:∀p∈R2,p.1<n':=by decide) (hk:k<=n':=by decide) (hkey:BS F'=true:=by rfl)
 (hF:nS (dL x c) (aP (lk R1)) F F':=by
  try dsimp only
  repeat' (first|exact Tb|refine Oi (by decide) (by repeat (first|exact ab|refine Eq.trans (aa (by decide)) ?_)) (by first|exact s8 rfl (by first|rfl|simp) (by simp only[abP,List.length_cons,List.length_nil,abR,abT,aq,bf]<;>omega)|exact gJ) (by first|exact Br.h _ aj|exact ga (by decide) (by first|rfl|omega|(simp only[abX]<;>omega)|simp)|exact cC (by decide)|exact bI (by decide)|exact cI (by decide)) ?_))
 (hL:gc P (aP (lk R1)) R1 n ((x,none)::L) L':=by
  try dsimp only
  repeat' (first|exact dP|exact kb|refine oN (by first|exact ab|exact ag ab (by decide)|exact ag (ag ab (by decide)) (by decide)|exact ag (ag (ag ab (by decide)) (by decide)) (by decide)|exact ag (ag (ag (ag ab (by decide)) (by decide)) (by decide)) (by decide)|exact ag (ag (ag (ag (ag ab (by decide)) (by decide)) (by decide)) (by decide)) (by decide)|exact ag (ag (ag (ag (ag (ag ab (by decide)) (by decide)) (by decide)) (by decide)) (by decide)) (by decide)) (by decide) (by decide) (by repeat (first|exact ab|refine Eq.trans (aa (by decide)) ?_)) (by first|exact aT aj (aB b7.h)|(refine cm ?_;repeat (first|exact aR|refine av (by first|exact ga (by decide) (by first|rfl|omega|(simp only[abX]<;>omega)|simp)|exact cC (by decide)|exact bI (by decide)|exact cI (by decide)|exact Br.h _ aj) ?_))) ?_)) :
 bz P k ⟨ao F,wd L n lg nl,[]⟩ ⟨ao F',wd L' n' lg' nl',[]⟩:=by
 obtain⟨F1,g1,g2⟩:=hF.mid hkey;refine bz.trans (xQ (F':=F1) x hx hn hn2 g1 L (fun m o' h hm=>?_) .nil) (fI R1 R2 hR hRi hk g2 hL .nil);by_cases q:x=m
 ·subst q;rw[ab]at h;cases h
 rw[aa q]at h;exact⟨o',h,rB⟩
def Dt(n:Nat):Nat->Option Nat:=fun m=>if m<n then some m else none
theorem mw{n m:Nat}(h:m<n):Dt n m=some m:=if_pos h
def ne(P:Program)(T:RT)(n n':Nat)(L:List (Nat×Option ah)):List (Nat×Option ah)->Prop
 |[]=>True
 |(m,some w)::L'=>(m<n'/\m<n/\m<16383/\∃o,lk L m=some o/\TO P T o w)/\ne P T n n' L L'
 |(_,none)::L'=>ne P T n n' L L'
theorem ne.mem{T:RT}:∀{L':List (Nat×Option ah)},ne P T n n' L L'->∀m o',(m,some o')∈L'->m<n'/\m<n/\m<16383/\∃o,lk L m=some o/\TO P T o o'
 |[],_,t,v,h=>by cases h
 |(t',some v')::L',h,t,v,hp=>by
  rcases List.mem_cons.1 hp with e|hp
  ·cases e;exact h.1
  exact ne.mem h.2 t v hp
 |(t',none)::L',h,t,v,hp=>by
  rcases List.mem_cons.1 hp with e|hp
  ·cases e
  exact ne.mem (L':=L') h t v hp
theorem XN{T:RT}:ne P T n n' L []:=trivial
theorem Q5{T:RT}{m:Nat}{o w:ah}(h0:m<n')(h1:m<n)(h2:m<16383)(hl:lk L m=some o)(ho:TO P T o w)(hs:ne P T n n' L L'):ne P T n n' L ((m,some w)::L'):=⟨⟨h0,h1,h2,o,hl,ho⟩,hs⟩
theorem kp(hk:k<=n':=by decide)
 (hF:cY (aP (Dt n')) F F':=by
  try dsimp only
  repeat' (first|exact di|refine bR (by decide) (by repeat (first|exact ab|refine Eq.trans (aa (by decide)) ?_)) (by first|exact Br.h _ aj|exact ga (mw (by decide)) (by first|rfl|omega|(simp only[abX]<;>omega)|simp)|exact cC (mw (by decide))|exact bI (mw (by decide))|exact cI (mw (by decide))) ?_))
 (hL:ne P (aP (Dt n')) n n' L L':=by
  try dsimp only
  repeat' (first|exact XN|refine Q5 (by decide) (by decide) (by decide) (by repeat (first|exact ab|refine Eq.trans (aa (by decide)) ?_)) (by first|exact aT aj (aB b7.h)|(refine cm ?_;repeat (first|exact aR|refine av (by first|exact Br.h _ aj|exact ga (mw (by decide)) (by first|rfl|simp)|exact cC (mw (by decide))|exact bI (mw (by decide))|exact cI (mw (by decide))) ?_))) ?_)) :
 bz P k ⟨ao F,wd L n lg nl,[]⟩ ⟨ao F',wd L' n' lg' nl',[]⟩:=by
 refine wU (Dt n') (Dt n') (fun a b h=>?_) (fun a b h=>?_) hk (fun t v' h=>?_) (fun m o' h=>?_) .nil
 ·unfold Dt at h ⊢;split at h
  ·rename_i q;cases h;by_cases q2:a<k
   ·exact .inl ⟨q2,rfl⟩
   exact .inr ⟨by omega,if_pos q⟩
  cases h
 ·unfold Dt at h;split at h
  ·rename_i q;exact q
  cases h
 ·obtain⟨h1,v,h2,h3⟩:=hF.mem t v' (bK (eQ h));exact⟨v,by show(ao F).get t=some v;rw[e9 h1];exact h2,h3⟩
 obtain⟨h0,h1,h2,o,h3,h4⟩:=hL.mem m o' (bK (bY h).2);exact⟨m,o,mw h0,by show(wd L n lg nl).get m=some o;rw[ae h1 h2];exact h3,h4⟩
end
theorem cv{P:Program}{N k:Nat}{c:Code}{s:XS}{Q:XQ}(F':List (Nat×Option Value))(L':List (Nat×Option ah))(n':Nat)(h:ar P N k c ⟨ao F',wd L' n' [] 0,[]⟩ Q)(hl:bz P k s ⟨ao F',wd L' n' [] 0,[]⟩:=by exact bL):ar P N k c s Q:=eR hl h
def Wk(P:Program)(k:Nat)(S:XS)(Q:XQ):XQ
 |.norm,s=>bz P k s S
 |e,s=>Q e s
theorem lA{P:Program}{N k:Nat}{c r:Code}{s:XS}{Q:XQ}(S:XS)(h:ar P N k c s (Wk P k S Q))(q:ar P N k r S Q):ar P N k (.seq c r) s Q:=
 ai (fu (fun e s' h=>by
  cases e with
  |norm=>exact eR h q
  |_=>exact h) h)
theorem Ll{P:Program}{N k:Nat}{c r:Code}{s:XS}{Q:XQ}(h:ar P N k c s (Wk P k s Q))(q:ar P N k r s Q):ar P N k (.seq c r) s Q:=lA s h q
section
variable {P:Program} {N k:Nat} {c d:Code} {s s':XS} {Q:XQ} {e:gV} {id:Nat}
def PG(P:Program)(k:Nat){α:Type}(I:α->XS)(V:α->Prop)(μ:α->Nat)(x:α)(Q:XQ):XQ
 |.norm,s'=>∃y,V y/\μ y<μ x/\bz P k s' (I y)
 |e,s'=>Q e s'
theorem lp{α:Type}(I:α->XS)(V:α->Prop)(μ:α->Nat)(x:α)(hv:V x)(h:∀x,V x->ar P N k c (I x) (PG P k I V μ x Q))(h0:bz P k s (I x):=by exact bL):ar P N k (.loop c) s Q:=
 eR h0 (ww (α:={ x:α // V x }) (fun x=>I x.1) (fun x=>μ x.1) (fun x=>fu (fun e s' q=>by
  cases e with
  |norm=>obtain⟨y,h1,h2,h3⟩:=q;exact⟨⟨y,h1⟩,h2,h3⟩
  |_=>exact q) (h x.1 x.2)) ⟨x,hv⟩)
theorem nx{α:Type}{I:α->XS}{V:α->Prop}{μ:α->Nat}{x:α}(y:α)(hv:V y)(hm:μ y<μ x:=by(try dsimp only);omega)(h:bz P k s (I y):=by exact bL):∃y,V y/\μ y<μ x/\bz P k s (I y):=⟨y,hv,hm,h⟩
theorem bs(h:ar P N k c s (nQ id (iV P N k d Q))):ar P N k (.seq (.block id c) d) s Q:=ai (aK h)
theorem fo{α:Type}[hM:kz P](I:α->XS)(V:α->Prop)(μ:α->Nat)(x0:α)(hv:V x0){C:α->Prop}[hC:∀x,Decidable (C x)]{J:α->XS}{i1 B:Nat}{ops:Array Oper}{t:Operand}{body:Code}
 (hb:∀x,V x->C x->ar P N k body (J x) (PG P k I V μ x (nQ B Q))) (he:∀x,V x->¬C x->Q .norm (J x)) (h0:bz P k s (I x0):=by exact bL)
 (hc:∀x,fR P (bc P (aJ [] []) 1) N none ops ops.toList (I x)=some (.code .norm (J x)):=by intro x;simp(disch:=first|decide|omega|(simp only[abP,List.length_cons,List.length_nil,abR,abT,abX]<;>omega)|(simp(disch:=decide) only[ae,ab,aa,b9.eq_1];done)) only[go_sem]<;>with_reducible rfl)
 (hx:∀x,ev (J x).fr t=some (.bool (decide (C x))):=by intro x;simp(disch:=first|decide|omega|(simp only[abP,List.length_cons,List.length_nil,abR,abT,abX]<;>omega)|(simp(disch:=decide) only[ae,ab,aa,b9.eq_1];done)) only[go_sem]<;>with_reducible rfl) :
 ar P N k (.block B (.loop (.seq (.seq (.region i1 ops false) (.cond t .skip (.exit B))) body))) s Q:=
 aK (lp I V μ x0 hv (h0:=h0) fun x v=>ai (ai (aG b0 (hc x) (cp (fun h=>ap (hb x v h)) (fun h=>pL (by show(if B=B then _ else _);rw[if_pos rfl];exact he x v h)) (hx x)))))
theorem bl(h:ar P N k c s (nQ id Q)):ar P N k (.block id c) s Q:=aK h
def vW(id:Nat)(Q Q':XQ):Prop:=∀s,Q' .norm s->Q (.exit id) s
theorem Sn:vW id (nQ id Q) Q:=fun s h=>by show(if id=id then _ else _);rw[if_pos rfl];exact h
theorem Od{j:Nat}{Q':XQ}(hj:id≠j)(h:vW id Q Q'):vW id (nQ j Q) Q':=fun s q=>by show(if id=j then _ else _);rw[if_neg hj];exact h s q
theorem NT{Q':XQ}(h:vW id Q Q'):vW id (iV P N k d Q) Q':=fun s q=>h s q
theorem SY{S:XS}{Q':XQ}(h:vW id Q Q'):vW id (Wk P k S Q) Q':=fun s q=>h s q
theorem WR{α:Type}{I:α->XS}{V:α->Prop}{μ:α->Nat}{x:α}{Q':XQ}(h:vW id Q Q'):vW id (PG P k I V μ x Q) Q':=fun s q=>h s q
theorem xe{Q':XQ}(h:Q' .norm s)(hQ:vW id Q Q':=by repeat (first|with_reducible exact Sn|with_reducible apply NT|with_reducible apply WR|with_reducible apply SY|with_reducible apply Od (by decide))):ar P N k (.exit id) s Q:=pL (hQ _ h)
end
section
variable {α:Type} [El α] {W:XW} {e:TypeId} {b n len cap s by_:Nat} {l m:List α}
theorem uB{need:Nat}(h1:by_*need<=1099511627776)(h2:need<=1099511627776):fi by_ need=true:=by
 unfold fi;rw[Nat.mul_comm,ox h1,ox h2];rfl
theorem Jq:l.flatMap El.enc++m.flatMap El.enc=(l++m).flatMap El.enc:=List.flatMap_append.symm
variable {P:Program} {fr:XF}
theorem VT{f:Nat}{fs:Array Field}{cs:List Value}:sR P f (some (.struct fs)) (some (FP cs))=yE P cs fs[f]?:=rfl
theorem UI:nY W (gs b cap l) (some (.slice e))=some (.val (some (.int .i64 (l.length:Int)))):=rfl
theorem Tk:pE (gs b cap l)=some l.length:=rfl
theorem WP:dr (gs b cap l)=true:=rfl
theorem Xy(hn:n=l.length)(hg:b9 (W.get b)=some (l.flatMap El.enc))(hs:s=El.m α):fE W s n (gs b cap l)=some (l.flatMap El.enc):=by
 subst hn hs;cases hw:W.get b with
 |none=>rw[hw]at hg;cases hg
 |some o=>
  rw[hw]at hg;cases o with
  |cells c e fr=>
   cases hg;show(bif Nat.beq l.length 0 then some []else match W.get b with
    |some (.cells c _ _)=>let q:=(c.drop 0).take (l.length*El.m α);bif Nat.beq q.length (l.length*El.m α)then some q else none
    |_=>none)=_
   rw[hw];show(bif Nat.beq l.length 0 then some []else bif Nat.beq (((l.flatMap El.enc).drop 0).take (l.length*El.m α)).length (l.length*El.m α)then some (((l.flatMap El.enc).drop 0).take (l.length*El.m α))else none)=_;rw[List.drop_zero,sN,gL,acb];cases l with
   |nil=>rfl
   |cons x l=>rfl
  |_=>cases hg
theorem Yf(hg:W.get b=some (ro e l))(hc:bd cap=true)(hn:n=m.length)(hs:s=El.m α)(hp:0<s)(hb:by_*(l.length+n)<=1099511627776)(hb2:l.length+n<=1099511627776) :
 tW W e s n by_ (m.flatMap El.enc) (gs b cap l)=some (.mod (gs W.next cap (l++m)) ((W.put b none).push (ro e (l++m)))):=by
 subst hn hs;have hcap:l.length<=cap:=by unfold bd at hc;have:=Nat.le_of_ble_eq_true hc;omega
 show tN (match W.get b with
  |some (.cells c e' fr)=>bif Nat.beq e e'&&Nat.beq c.length (l.length*El.m α)then(bif bd cap then(bif Nat.beq m.length 0&&Nat.ble l.length cap then iQ (W.put b none) (.cells c e fr) l.length cap else none)else _)else none
  |_=>none) (bif Nat.beq m.length 0 then _ else bif Nat.blt 0 (El.m α)then pa W l.length m.length cap (El.m α) by_ e (m.flatMap El.enc) (some ⟨b,0,none⟩)else none)=_
 rw[hg];show tN (bif Nat.beq e e&&Nat.beq (l.flatMap El.enc).length (l.length*El.m α)then(bif bd cap then(bif Nat.beq m.length 0&&Nat.ble l.length cap then iQ (W.put b none) (.cells (l.flatMap El.enc) e (0,0)) l.length cap else none)else _)else none) _=_;rw[acb,gL,acb,hc,ox hcap];simp only[Bool.and_true,cond_true];rcases adc m.length with hm|hm
 ·rw[ace hm,List.append_nil];rfl
 rw[gz (show m.length≠0 by omega),cond_false,cond_false,mj hp,cond_true];show pa W l.length m.length cap (El.m α) by_ e (m.flatMap El.enc) (some ⟨b,0,none⟩)=_;have h1:Nat.ble (0+(l.length+m.length)*El.m α) (nU (W.get b))=false:=by rw[hg];refine BQ ?_;show(l.flatMap El.enc).length<_;rw[gL,Nat.zero_add,ac7];have:=Nat.mul_pos hm hp;omega
 show(bif bd cap||_ then(bif Nat.ble (0+(l.length+m.length)*El.m α) (nU (W.get b))&&_&&_ then _ else wZ W b 0 l.length m.length cap (El.m α) by_ e (m.flatMap El.enc) (W.get b))else _)=_;rw[hc,Bool.true_or,cond_true,h1,Bool.false_and,Bool.false_and,cond_false,hg];show(bif bd cap&&Nat.beq e e&&Nat.ble (0+l.length*El.m α) (l.flatMap El.enc).length&&fi by_ (l.length+m.length)&&!nX (0,0) _ _&&(Nat.beq 0 0||_)&&Nat.beq (0%El.m α) 0 then iQ (W.put b none) (.cells (((l.flatMap El.enc).drop 0).take (l.length*El.m α)++m.flatMap El.enc) e (0,0)) (l.length+m.length) cap else none)=_;rw[hc,acb,gL,Nat.zero_add,ox (Nat.le_refl _),uB hb hb2,Nat.zero_mod,List.drop_zero,sN,Jq];unfold gs;rw[abP];rfl
theorem ZR(hg:W.get b=some (ro e l))(hc:bd cap=false)(hcl:cap=l.length)(hn:n=m.length)(hs:s=El.m α)(hb:by_*(l.length+n)<=1099511627776)(hb2:l.length+n<=1099511627776) :
 tW W e s n by_ (m.flatMap El.enc) (gs b cap l)=some (.mod (gs W.next bf (l++m)) ((W.put b none).push (ro e (l++m)))):=by
 subst hn hs hcl;show tN (match W.get b with
  |some (.cells c e' fr)=>bif Nat.beq e e'&&Nat.beq c.length (l.length*El.m α)then(bif bd l.length then _ else bif Nat.beq l.length l.length&&fi by_ (l.length+m.length)then iQ (W.put b none) (.cells (c++m.flatMap El.enc) e fr) (l.length+m.length) bf else none)else none
  |_=>none) _=_
 rw[hg];show tN (bif Nat.beq e e&&Nat.beq (l.flatMap El.enc).length (l.length*El.m α)then(bif bd l.length then _ else bif Nat.beq l.length l.length&&fi by_ (l.length+m.length)then iQ (W.put b none) (.cells (l.flatMap El.enc++m.flatMap El.enc) e (0,0)) (l.length+m.length) bf else none)else none) _=_;rw[acb,gL,acb,hc,acb,uB hb hb2,Jq];unfold gs;rw[abP];rfl
end
section
variable {α:Type} [El α] {P:Program} {W:XW} {e:TypeId} {b cap i:Nat} {l:List α}
def ep(m b i:Nat):Value:=.pointer (some ⟨b,i*m,none⟩)
def ldR(P:Program)(e:TypeId)(m i:Nat):Option ah->Option Value
 |some (.cells c _ _)=>gA P e c (i*m)
 |_=>none
def Kt(W:XW)(b m i:Nat)(v:Value)(s:Nat)(_:Option ah):Option XR:=vq W (some (ep m b i)) (some v) (some s)
theorem Pa{m:Nat}:jB P W e (ep m b i)=ldR P e m i (W.get b):=by
 show(match W.get b with
  |some (.cells c _ _)=>gA P e c (i*m)
  |_=>none)=_
 cases W.get b with
 |none=>rfl
 |some o=>cases o<;>rfl
theorem Pz{m s:Nat}{v:Value}:vq W (some (ep m b i)) (some v) (some s)=Kt W b m i v s (W.get b):=rfl
theorem KR[t:mu P α e]{j:IntKind}(h:i<l.length):kY P (some (.slice e)) (some (gs b cap l)) (some (.int j (i:Int)))=some (.val (some (ep (El.m α) b i))):=by
 show m3 b 0 i l.length (sz P e)=_;rw[t.sz];show(bif Nat.blt i l.length then val (.pointer (some ⟨b,0+i*El.m α,none⟩))else none)=_;rw[mj h,Nat.zero_add];rfl
theorem T7{c:List Value}{o m:Nat}{v:Value}(hs:sz P e=some m)(h:gA P e ((c.drop o).take m) 0=some v):gA P e c o=some v:=by
 unfold gA at h ⊢;rw[hs]at h ⊢;cases ha:bH P e with
 |none=>rw[ha]at h;cases h
 |some q=>
  rw[ha]at h;cases q with
  |true=>
   simp only at h ⊢;rw[List.drop_zero,List.take_take,Nat.min_self]at h;exact h
  |false=>
   simp only at h ⊢;rw[acw]at h;split at h
   ·rw[acC,Nat.add_zero]at h;exact h
   cases h
theorem LN[t:mu P α e][Inhabited α]{e':TypeId}{m:Nat}(hm:m=El.m α)(h:i<l.length):ldR P e m i (some (ro e' l))=some (t.val (l.getD i default)):=by
 subst hm;exact T7 t.sz (by rw[BT h];exact t.ld _)
theorem KP{y:α}(h:i<l.length):wr (l.flatMap El.enc) (i*El.m α) (El.enc y)=(l.set i y).flatMap El.enc:=by
 unfold wr;rw[zZ,El.len,show i*El.m α+El.m α=(i+1)*El.m α by rw[acM],yW,List.set_eq_take_append_cons_drop,if_pos h,acT,ab7]
theorem Ej{v:Value}{s m:Nat}{y:α}(hg:W.get b=some (ro e l))(h:i<l.length)(hv:v.cells.toList=El.enc y)(hs:s=El.m α)(hm:m=El.m α)(o:Option ah):Kt W b m i v s o=some (.mod undef (W.put b (some (ro e (l.set i y))))):=by
 subst hs hm;show(bif Nat.beq v.cells.size (El.m α)then mW undef (eI W b (i*El.m α) v.cells.toList)else none)=_;have hsz:v.cells.size=El.m α:=by rw[<-acv,hv,El.len]
 rw[hsz,acb,hv];show mW undef (eI W b (i*El.m α) (El.enc y))=_;unfold eI;rw[hg];show mW undef (bif Nat.ble (i*El.m α+(El.enc y).length) (l.flatMap El.enc).length&&!nX (0,0) _ _&&(El.enc y).all dr then some (W.put b (some (.cells (wr (l.flatMap El.enc) (i*El.m α) (El.enc y)) e (0,0))))else none)=_;rw[El.len,gL,El.one,ox (by
  have:(i+1)*El.m α<=l.length*El.m α:=acL _ h;rw[acM]at this;exact this),KP h]
 rfl
theorem op0{N k:Nat}{c:Code}{Q:XQ}{F:List (Nat×Option Value)}{ds:List cq}(t b:Nat){fr:Nat×Nat}(h:ar P N k c ⟨ao ((t,some (gs b aq ([]:List α)))::F),W,ds⟩ Q)(hb:W.get b=some (.cells [] e fr):=by simp(disch:=decide) only[ae,ab,aa]<;>rfl)(ht:t<511:=by decide)
 (hl:lk F t=some (gs b 0 ([]:List α)):=by repeat (first|exact ab|refine Eq.trans (aa (by decide)) ?_)):ar P N k c ⟨ao F,W,ds⟩ Q:=by
 refine eR (fun N ρ0 W0 w0 ex0 ex a w h0 h1 h2 hc=>?_) h;obtain⟨ρ,⟨g1,g2,g3,g4⟩,g5,g6⟩:=hc;refine⟨ρ,⟨g1,g2,⟨g3.size,fun u v hv=>?_⟩,g4⟩,g5,g6⟩;replace hv:((ao F).set t (some (gs b aq ([]:List α)))).get u=some v:=hv;rcases PT.set_some hv with⟨rfl,q⟩|⟨_,q⟩
 ·cases q;have hr:=g3.rep u (gs b 0 ([]:List α)) (by show(ao F).get u=_;rw[e9 ht];exact hl);obtain⟨_,q,_⟩|⟨i,hi,⟨hc,e1⟩|⟨hc,_⟩|⟨hc,_⟩|⟨_,_,a',e1⟩⟩:=VR.sliceOr (len:=0) (cap:=0) hr
  ·cases q
  ·obtain⟨ob,_,ho⟩:=g2.obj b i _ hi hb;cases ho with
   |cells _ _ _ c' fr' hz hrr hk hll hv hfz hq hm=>
    rw[e1];exact .sliceO _ _ _ _ _ i hi rfl (Nat.le_refl _) (by rw[<-hrr];exact abW _) (by omega)
  ·cases hc
  ·cases hc
  obtain⟨ob,_,ho⟩:=g2.obj b i _ hi hb;cases ho with
  |cells _ _ _ c' fr' hz hrr hk hll hv hfz hq hm=>
   rw[e1];exact .sliceE _ _ _ _ i hi rfl (by rw[<-hrr];exact abW _)
 exact g3.rep u v q
end
theorem kT{P:Program}[hM:kz P]{N k:Nat}{d:Code}{s s':XS}{Q:XQ}{id:Nat}{ops:Array Oper}{H:ci}{rs:List bp}{p:Prop}(f:p)(b:dv P H)(q:ar P N k d s' Q)(h:p->aY P (bc P H 1) N none ops ops.toList s=some (rs,s'):=by intro hf;simp(disch:=first|decide|omega|(simp only[abP,List.length_cons,List.length_nil,abR,abT,abX]<;>omega)|(simp(disch:=decide) only[ae,ab,aa,b9.eq_1];done)) only[hf,jF,aJ,eF,dN,fZ,aY.eq_1,aY.eq_2,fV.eq_1,cW.eq_1,cW.eq_2,go_sem]<;>with_reducible rfl)(hk:jG P ops s.ds.length rs=true:=by
 refine fX (by kernel_rfl) (by kernel_rfl) ?_
 repeat (refine aQ (by first|(refine dj (by with_reducible rfl) (by kernel_rfl) (by kernel_rfl) ?_;simp(disch:=first|decide|omega|(simp only[abP,List.length_cons,List.length_nil,abR,abT,abX]<;>omega)|(simp(disch:=decide) only[ae,ab,aa,b9.eq_1];done)) only[fT.eq_1,cond_true,go_sem];done)|kernel_rfl) ?_)
 rfl):ar P N k (.seq (.region id ops true) d) s Q:=ai (eM b (h f) hk q)
theorem O6{P:Program}[hM:kz P]{N k:Nat}{s s':XS}{Q:XQ}{id:Nat}{ops:Array Oper}{H:ci}{rs:List bp}{p:Prop}(f:p)(b:dv P H)(q:Q .norm s')(h:p->aY P (bc P H 1) N none ops ops.toList s=some (rs,s'):=by intro hf;simp(disch:=first|decide|omega|(simp only[abP,List.length_cons,List.length_nil,abR,abT,abX]<;>omega)|(simp(disch:=decide) only[ae,ab,aa,b9.eq_1];done)) only[hf,jF,aJ,eF,dN,fZ,aY.eq_1,aY.eq_2,fV.eq_1,cW.eq_1,cW.eq_2,go_sem]<;>with_reducible rfl)(hk:jG P ops s.ds.length rs=true:=by
 refine fX (by kernel_rfl) (by kernel_rfl) ?_
 repeat (refine aQ (by first|(refine dj (by with_reducible rfl) (by kernel_rfl) (by kernel_rfl) ?_;simp(disch:=first|decide|omega|(simp only[abP,List.length_cons,List.length_nil,abR,abT,abX]<;>omega)|(simp(disch:=decide) only[ae,ab,aa,b9.eq_1];done)) only[fT.eq_1,cond_true,go_sem];done)|kernel_rfl) ?_)
 rfl):ar P N k (.region id ops true) s Q:=eM b (h f) hk q
section
variable {α:Type} [El α] {P:Program} {f:FuncId} {args:List Value} {e:TypeId} {l:List α}
structure Fr(P:Program)(f:FuncId)(args:List Value){α:Type}[El α](e:TypeId)(l:List α):Prop where
 en:cS P f
 ba:cZ args
 lo:bg P f args (wd [] 0 [] 0) fun e' W'=>∃b,e'=.ret (gs b aq l)/\W'.get b=some (ro e l)
theorem Pw[hM:kz P]{fn:Func}{c:Code}{F:List (Nat×Option Value)}{N:Nat}{R:Array ResultVar}(hf:P.funcs[f]?=some fn)(hR:fn.results=R)(hc:fn.body=some c:=by rfl)(hN:fn.ntmps=N:=by rfl)(hn:fh fn=true:=by rfl)(hl:args.length<=fn.ntmps:=by exact Nat.le_of_ble_eq_true rfl)
 (hF:bk 0 args []=F:=by simp only[bk.eq_1,bk.eq_2,Nat.reduceAdd]<;>with_reducible rfl) [ha:b7 args] (h:ar P N 0 c ⟨ao F,wd [] 0 [] 0,[]⟩ (qL P R.toList fun e' W'=>∃b,e'=.ret (gs b aq l)/\W'.get b=some (ro e l))):Fr P f args e l:=
 ⟨lV hf hc hn,ha.h,by subst hN hF hR;exact cH b0 hf hc hl (fu (fun ex s ⟨p,e',W',h1,h2,h3⟩=>⟨p,e',W',h1,by rw[<-lB];exact h2,h3⟩) h)⟩
open Classical in
noncomputable def hkr(args:List Value)(e:TypeId)(l:List α):HF:=fun a W=>if a=args then some (.ret (gs W.next aq l),W.push (ro e l))else none
theorem EJ{W:XW}:hkr args e l args W=some (.ret (gs W.next aq l),W.push (ro e l)):=if_pos rfl
theorem xJ[hb:∀x:α,b7 (El.enc x)](h:Fr P f args e l):bS P f (hkr args e l):=by
 have key:∀a W e' W',hkr args e l a W=some (e',W')->a=args/\e'=.ret (gs W.next aq l)/\W'=W.push (ro e l):=fun a W e' W' q=>by
  unfold hkr at q;split at q
  ·cases q;exact⟨by assumption,rfl,rfl⟩
  cases q
 refine⟨h.en,fun a W e' W' q=>?_,fun a W e' W' q=>?_⟩
 ·obtain⟨_,_,rfl⟩:=key _ _ _ _ q;exact .push _ _
 obtain⟨rfl,rfl,rfl⟩:=key _ _ _ _ q;refine iP (k:=0) (fun _=>0) (fun _=>none) rfl (fun m _ h=>by omega) (fun m h=>by omega) (fun n m h=>by cases h) (fun m oL h=>by rw[XW.get_ge (abW _)]at h;cases h) (h.ba _ aj) h.lo
  fun eL WL' hS=>?_
 obtain⟨b,rfl,hb'⟩:=hS;refine⟨fun m=>if m=b then some W.next else none,fun m x h=>?_,fun m m' x h h'=>?_,fun x o' h=>?_,?_,acU _⟩
 ·by_cases hm:m=b
  ·rw[if_pos hm]at h;cases h;exact .inr ⟨abW _,Nat.le_refl _,aci _⟩
  rw[if_neg hm]at h;cases h
 ·by_cases hm:m=b
  ·by_cases hm':m'=b
   ·omega
   rw[if_neg hm']at h';cases h'
  rw[if_neg hm]at h;cases h
 ·rcases XW.get_push h with⟨rfl,rfl⟩|⟨q1,q2⟩
  ·exact .inl ⟨b,_,if_pos rfl,hb',aT aj (aB (inferInstance:b7 (l.flatMap El.enc)).h)⟩
  exact .inr ⟨q2,aL q2,fun m hm=>by omega⟩
 exact ga (if_pos rfl) rfl
end
section
variable {P:Program} {f:FuncId} {xs:List Value} {o o':ah} {e:aW}
class jO(P:Program)(o:ah):Prop where
 h:gX P o
instance {l:List Value}{e:TypeId}{fr:Nat×Nat}[h:b7 l]:jO P (.cells l e fr):=⟨aB h.h⟩
structure Fo(P:Program)(f:FuncId)(xs:List Value)(o:ah)(e:aW)(o':ah):Prop where
 en:cS P f
 ba:cZ xs
 be:pW e
 bo:gX P o
 bo':gX P o'
 lo:bg P f (.pointer (some ⟨0,0,none⟩)::xs) (wd [(0,some o)] 1 [] 0) fun e' W'=>e'=e/\W'.get 0=some o'
theorem nZ[hM:kz P]{fn:Func}{c:Code}{F:List (Nat×Option Value)}{N:Nat}{R:Array ResultVar}(hf:P.funcs[f]?=some fn)(hR:fn.results=R)(hc:fn.body=some c:=by rfl)(hN:fn.ntmps=N:=by rfl)(hn:fh fn=true:=by rfl)(hl:(Value.pointer (some ⟨0,0,none⟩)::xs).length<=fn.ntmps:=by exact Nat.le_of_ble_eq_true rfl)
 (hF:bk 0 (Value.pointer (some ⟨0,0,none⟩)::xs) []=F:=by simp only[bk.eq_1,bk.eq_2,Nat.reduceAdd]<;>with_reducible rfl) [ha:b7 xs] [he:rm e] [ho:jO P o] [ho':jO P o'] (h:ar P N 1 c ⟨ao F,wd [(0,some o)] 1 [] 0,[]⟩ (qL P R.toList fun e' W'=>e'=e/\W'.get 0=some o')):Fo P f xs o e o':=
 ⟨lV hf hc hn,ha.h,he.h,ho.h,ho'.h,by subst hN hF hR;exact cH b0 hf hc hl (fu (fun ex s ⟨p,e',W',h1,h2,h3⟩=>⟨p,e',W',h1,by rw[<-lB];exact h2,h3⟩) h)⟩
open Classical in
noncomputable def hko(xs:List Value)(o:ah)(e:aW)(o':ah):HF:=fun a W=>if h:∃w,a=.pointer (some ⟨w,0,none⟩)::xs/\W.get w=some o then some (e,W.put h.choose (some o'))else none
theorem JE{w:Nat}{W:XW}(hw:W.get w=some o):hko xs o e o' (.pointer (some ⟨w,0,none⟩)::xs) W=some (e,W.put w (some o')):=by
 have hx:∃w',(Value.pointer (some ⟨w,0,none⟩)::xs)=.pointer (some ⟨w',0,none⟩)::xs/\W.get w'=some o:=⟨w,rfl,hw⟩;unfold hko;rw[dif_pos hx];have:=hx.choose_spec.1;injection this with h1 _;injection h1 with h1;injection h1 with h1;injection h1 with h1 _;rw[<-h1]
theorem DT(h:Fo P f xs o e o'):bS P f (hko xs o e o'):=by
 have key:∀a W e' W',hko xs o e o' a W=some (e',W')->∃w,a=.pointer (some ⟨w,0,none⟩)::xs/\W.get w=some o/\e'=e/\W'=W.put w (some o'):=fun a W e' W' q=>by
  unfold hko at q;split at q
  ·rename_i hx;cases q;exact⟨_,hx.choose_spec.1,hx.choose_spec.2,rfl,rfl⟩
  cases q
 refine⟨h.en,fun a W e' W' q=>?_,fun a W e' W' q=>?_⟩
 ·obtain⟨w,_,_,_,rfl⟩:=key _ _ _ _ q;exact .put _ _ _
 obtain⟨w,rfl,hw,rfl,rfl⟩:=key _ _ _ _ q;exact DQ hw h.bo (av (bI A9) (h.ba _ aj)) h.lo (fun e' W' hS=>hS) h.bo' h.be
theorem lL[hM:kz P](h:Fo P f xs o e o'):dv P (aJ [(f,hko xs o e o')] []):=bh (DT h)
end
section
variable {P:Program} {f:FuncId} {xs:List Value} {α:Type} [El α] {e:TypeId} {cap:Nat} {l l':List α} {v:Value}
structure Fw(P:Program)(f:FuncId)(xs:List Value){α:Type}[El α](e:TypeId)(cap:Nat)(l:List α)(v:Value)(l':List α):Prop where
 en:cS P f
 ba:cZ xs
 bv:d8 v
 lo:bg P f (gs 0 cap l::xs) (wd [(0,some (ro e l))] 1 [] 0) fun e' W'=>e'=.ret v/\W'.get 0=some (ro e l')
theorem oq[hM:kz P]{fn:Func}{c:Code}{F:List (Nat×Option Value)}{N:Nat}{R:Array ResultVar}(hf:P.funcs[f]?=some fn)(hR:fn.results=R)(hc:fn.body=some c:=by rfl)(hN:fn.ntmps=N:=by rfl)(hn:fh fn=true:=by rfl)(hl:(gs 0 cap l::xs).length<=fn.ntmps:=by exact Nat.le_of_ble_eq_true rfl)
 (hF:bk 0 (gs 0 cap l::xs) []=F:=by simp only[bk.eq_1,bk.eq_2,Nat.reduceAdd]<;>with_reducible rfl) [ha:b7 xs] [hv:Br v] (h:ar P N 1 c ⟨ao F,wd [(0,some (ro e l))] 1 [] 0,[]⟩ (qL P R.toList fun e' W'=>e'=.ret v/\W'.get 0=some (ro e l'))):Fw P f xs e cap l v l':=
 ⟨lV hf hc hn,ha.h,hv.h,by subst hN hF hR;exact cH b0 hf hc hl (fu (fun ex s ⟨p,e',W',h1,h2,h3⟩=>⟨p,e',W',h1,by rw[<-lB];exact h2,h3⟩) h)⟩
open Classical in
noncomputable def hkw(xs:List Value)(e:TypeId)(cap:Nat)(l:List α)(v:Value)(l':List α):HF:=fun a W=>if h:∃w,a=gs w cap l::xs/\W.get w=some (ro e l)then some (.ret v,W.put h.choose (some (ro e l')))else none
theorem LE{b b' c:Nat}{r:List Value}(h:gs b c l::r=gs b' c l::r):b=b':=by
 unfold gs at h;injection h with h1 _;injection h1 with h1;injection h1 with h1;injection h1 with h1 _
theorem T3{w:Nat}{W:XW}{l0:List α}(hw:W.get w=some (ro e l))(hl:l0.length=l.length):hkw xs e cap l v l' (gs w cap l0::xs) W=some (.ret v,W.put w (some (ro e l'))):=by
 have e0:gs w cap l0=gs w cap l:=by unfold gs;rw[hl]
 rw[e0];have hx:∃w',gs w cap l::xs=gs w' cap l::xs/\W.get w'=some (ro e l):=⟨w,rfl,hw⟩;unfold hkw;rw[dif_pos hx,<-LE hx.choose_spec.1]
theorem Wm(h:Fw P f xs e cap l v l'):bS P f (hkw xs e cap l v l'):=by
 have key:∀a W e' W',hkw xs e cap l v l' a W=some (e',W')->∃w,a=gs w cap l::xs/\W.get w=some (ro e l)/\e'=.ret v/\W'=W.put w (some (ro e l')):=fun a W e' W' q=>by
  unfold hkw at q;split at q
  ·rename_i hx;cases q;exact⟨_,hx.choose_spec.1,hx.choose_spec.2,rfl,rfl⟩
  cases q
 refine⟨h.en,fun a W e' W' q=>?_,fun a W e' W' q=>?_⟩
 ·obtain⟨w,_,_,_,rfl⟩:=key _ _ _ _ q;exact .put _ _ _
 obtain⟨w,rfl,hw,rfl,rfl⟩:=key _ _ _ _ q;exact DQ hw (aB (inferInstance:b7 (l.flatMap El.enc)).h) (av (ga A9 rfl) (h.ba _ aj)) h.lo (fun e' W' hS=>hS) (aB (inferInstance:b7 (l'.flatMap El.enc)).h) h.bv
theorem jy[hM:kz P](h:Fw P f xs e cap l v l'):dv P (aJ [(f,hkw xs e cap l v l')] []):=bh (Wm h)
end
end Go.Proofs.YthlkgmdkabelpaaGreat.X
