/-
  Packed by program (tools/pack.py) out of the texts L1 L2 L3 LE L4 L5 L6 L7 L8. No condition.
-/
import Derived.Test.YthlkgmdkabelpaaGreatZ2
import Derived.Test.YthlkgmdkabelpaaGreatZF
set_option linter.all false
namespace Go.Proofs.YthlkgmdkabelpaaGreat.X
open Go Go.RowKit
instance:kz Tryz.prog:=⟨mixed⟩
attribute [go_sem] WV RR U1 Rx Wp SC TI gL LG sN
attribute [go_sem high] Yf ZR Xr Xy UI Tk WP
theorem UN{α β:Type}{p:α×β}:(p.1,p.2)=p:=rfl
theorem NW{α:Type}[El α]{l:List α}:(sl l).cells=#[sl l]:=rfl
theorem NY{α:Type}{b c:Nat}{l:List α}:(gs b c l).cells=#[gs b c l]:=rfl
attribute [go_sem ↓ high] NW NY
attribute [go_sem] UN VT zB slE.eq_1 List.drop_zero List.take_length
@[go_sem] theorem ev_c17 {fr:XF} {k:IntKind}:ev fr (.const (.int k 17))=some (.int k ((17:Nat):Int)):=rfl
@[go_sem] theorem ev_c18 {fr:XF} {k:IntKind}:ev fr (.const (.int k 18))=some (.int k ((18:Nat):Int)):=rfl
@[go_sem] theorem ev_c19 {fr:XF} {k:IntKind}:ev fr (.const (.int k 19))=some (.int k ((19:Nat):Int)):=rfl
@[go_sem] theorem ev_c21 {fr:XF} {k:IntKind}:ev fr (.const (.int k 21))=some (.int k ((21:Nat):Int)):=rfl
@[go_sem] theorem ev_c22 {fr:XF} {k:IntKind}:ev fr (.const (.int k 22))=some (.int k ((22:Nat):Int)):=rfl
@[go_sem] theorem ev_c23 {fr:XF} {k:IntKind}:ev fr (.const (.int k 23))=some (.int k ((23:Nat):Int)):=rfl
@[go_sem] theorem ev_c24 {fr:XF} {k:IntKind}:ev fr (.const (.int k 24))=some (.int k ((24:Nat):Int)):=rfl
@[go_sem] theorem ev_c25 {fr:XF} {k:IntKind}:ev fr (.const (.int k 25))=some (.int k ((25:Nat):Int)):=rfl
@[go_sem] theorem ev_c27 {fr:XF} {k:IntKind}:ev fr (.const (.int k 27))=some (.int k ((27:Nat):Int)):=rfl
@[go_sem] theorem ev_c28 {fr:XF} {k:IntKind}:ev fr (.const (.int k 28))=some (.int k ((28:Nat):Int)):=rfl
@[go_sem] theorem ev_c29 {fr:XF} {k:IntKind}:ev fr (.const (.int k 29))=some (.int k ((29:Nat):Int)):=rfl
@[go_sem] theorem ev_c35 {fr:XF} {k:IntKind}:ev fr (.const (.int k 35))=some (.int k ((35:Nat):Int)):=rfl
@[go_sem] theorem ev_c36 {fr:XF} {k:IntKind}:ev fr (.const (.int k 36))=some (.int k ((36:Nat):Int)):=rfl
@[go_sem] theorem ev_c40 {fr:XF} {k:IntKind}:ev fr (.const (.int k 40))=some (.int k ((40:Nat):Int)):=rfl
@[go_sem] theorem ev_c50 {fr:XF} {k:IntKind}:ev fr (.const (.int k 50))=some (.int k ((50:Nat):Int)):=rfl
@[go_sem] theorem ev_c59 {fr:XF} {k:IntKind}:ev fr (.const (.int k 59))=some (.int k ((59:Nat):Int)):=rfl
@[go_sem] theorem ev_c60 {fr:XF} {k:IntKind}:ev fr (.const (.int k 60))=some (.int k ((60:Nat):Int)):=rfl
@[go_sem] theorem want_undef {w:Bool}:va w (some undef)=some false:=by cases w<;>rfl
theorem neD{a b:Int}:(a !=b)=decide (a≠b):=by by_cases h:a=b<;>simp[h]
theorem eqD{a b:Int}:(a==b)=decide (a=b):=by by_cases h:a=b<;>simp[h]
theorem JN{a b:Nat}(h:b<=a):(a:Int)-(b:Int)=((a-b:Nat):Int):=by omega
attribute [go_sem] neD eqD JN
instance:El Int:=⟨fun a=>[.int .i64 a],1,fun _=>rfl,fun _=>rfl,fun _=>inferInstance⟩
noncomputable instance:mu Tryz.prog Int 3:=⟨fun a=>.int .i64 a,Tryz.t3,.int .i64 0,PC,rfl,O8,rfl,fun _=>by kernel_rfl,fun _=>rfl⟩
@[go_sem] theorem val_int {a:Int}:mu.val Tryz.prog a=.int .i64 a:=rfl
@[go_sem] theorem enc_int {a:Int}:El.enc a=[Value.int .i64 a]:=rfl
@[go_sem] theorem m_int:El.m Int=1:=rfl
def lexB:List Int->List Int->Bool
 |x::a,y::b=>if x=y then lexB a b else decide (x<y)
 |_,_=>false
def zt(a b:List Int):Bool:=if a.length=b.length then lexB a b else decide (a.length<b.length)
theorem At(a b:List Int)(ha:a.length<=1000000)(hb:b.length<=1000000):Fn Tryz.prog 98 [sl a,sl b] (.ret (.bool (zt a b))):=by
 refine fY Tryz.func98 Tryz.results98 (h:=?_);refine rs ?_;refine rS ?_;refine cp (fun h=>?_) (fun h=>?_)
 ·refine rs ?_;refine rt ?_;unfold zt;rw[if_neg (by omega)];simp
 refine sk (rS ?_);refine fo (fun i:Nat=>⟨ao [(0,some (sl a)),(1,some (sl b)),(5,some (.int .i64 (i:Nat)))],wd [] 0 [] 0,[]⟩) (fun i=>i<=a.length/\lexB (a.drop i) (b.drop i)=zt a b) (fun i=>a.length-i) 0 ⟨by omega,by unfold zt;rw[if_pos (by omega)];rfl⟩ (fun i hi h=>?_) (fun i hi h=>?_)
 ·rw[ge (l:=a) (by omega),ge (l:=b) (by omega)]at hi;refine bs (rd ?_);refine cp (fun h2=>?_) (fun h2=>?_)
  ·refine rd ?_;refine rt ?_;rw[<-hi.2,lexB,if_neg h2]
  refine ap (rl ?_);refine nx (i+1) ⟨by omega,?_⟩;rw[<-hi.2,lexB,if_pos (Decidable.not_not.1 h2)]
 refine rs ?_;refine rt ?_;rw[<-hi.2,aco (by omega)];rfl
instance {α:Type}[El α]:El (List α):=⟨fun a=>[sl a],1,fun _=>rfl,fun _=>rfl,fun _=>inferInstance⟩
noncomputable instance:mu Tryz.prog (List Int) 35:=⟨sl,Tryz.t35,.slice none 0 0,JH,rfl,La,rfl,fun _=>by kernel_rfl,fun _=>rfl⟩
@[go_sem] theorem val_ints {a:List Int}:mu.val Tryz.prog a=sl a:=rfl
@[go_sem] theorem enc_list {α:Type} [El α] {a:List α}:El.enc a=[sl a]:=rfl
@[go_sem] theorem m_list {α:Type} [El α]:El.m (List α)=1:=rfl
theorem bj{α:Type}[Inhabited α]{l:List α}{i:Nat}(h:i<l.length):l.getD i default∈l:=by
 rw[abV,abS h];exact List.getElem_mem h
def A7(all:List (List Int))(s:List Int)(lo hi:Nat):Nat:=
 if h:lo<hi then(if zt (all.getD ((lo+hi)/2) default) s then A7 all s ((lo+hi)/2+1) hi else A7 all s lo ((lo+hi)/2))else lo
termination_by hi-lo
theorem BV{all:List (List Int)}{s:List Int}:∀(d lo hi:Nat),hi-lo<=d->lo<=hi->A7 all s lo hi<=hi
 |d,lo,hi,hd,h=>by
  rw[A7];split
  ·rename_i hlt;cases d with
   |zero=>omega
   |succ d=>
    split
    ·exact BV d _ _ (by omega) (by omega)
    exact acx (BV d _ _ (by omega) (by omega)) (by omega)
  exact h
def lc(l:List (List Int))(s:List Int):Nat:=A7 l s 0 l.length
def wL(l:List (List Int))(s:List Int):Bool:=decide (lc l s<l.length)&&!zt s (l.getD (lc l s) default)
theorem Cm(l:List (List Int))(s:List Int)(hl:l.length<=1000000)(hs:s.length<=1000000)(he:∀t∈l,t.length<=1000000):Fn Tryz.prog 60 [sl l,sl s] (.ret (.tuple #[.int .i64 (lc l s:Nat),.bool (wL l s)])):=by
 refine fY Tryz.func60 Tryz.results60 (h:=?_);refine rs ?_;refine rs ?_;refine rs ?_;refine ai ?_;refine fo (fun x:Nat×Nat=>⟨ao [(0,some (sl l)),(1,some (sl s)),(6,some (.int .i64 (x.1:Nat))),(7,some (.int .i64 (x.2:Nat)))],wd [] 0 [] 0,[]⟩) (fun x=>x.1<=x.2/\x.2<=l.length/\A7 l s x.1 x.2=lc l s) (fun x=>x.2-x.1) (0,l.length) ⟨by omega,by omega,rfl⟩ (fun x hv h=>?_) (fun x hv h=>?_)
 ·obtain⟨i,j⟩:=x;obtain⟨h1,h2,h3⟩:=hv;simp only at h h1 h2 h3;rw[A7,dif_pos (by omega)]at h3;refine aK ?_;refine rs ?_;refine rc (b1 (At (l.getD ((i+j)/2) default) s (he _ (bj (by omega))) hs)) ?_;refine cb (fun h4=>?_) (fun h4=>?_)
  ·rw[if_pos h4]at h3;refine rl ?_;exact nx ((i+j)/2+1,j) ⟨by omega,h2,h3⟩
  rw[if_neg (by rw[h4];simp)]at h3;refine rl ?_;exact nx (i,(i+j)/2) ⟨by dsimp only;omega,by dsimp only;omega,h3⟩
 obtain⟨i,j⟩:=x;obtain⟨h1,h2,h3⟩:=hv;simp only at h h1 h2 h3;rw[A7,dif_neg (by omega)]at h3;by_cases h4:i<l.length
 ·refine rc (b1 (At s (l.getD i default) hs (he _ (bj h4)))) ?_;refine rt ?_;rw[<-h3,wL,<-h3,decide_eq_true h4,Bool.true_and]
 refine rs ?_;refine rt ?_;rw[<-h3,wL,<-h3,decide_eq_false h4,Bool.false_and]
@[go_sem high] theorem fold_int {x:Int}:gq (.cells [.int .i64 x] 3 (0,0)) 1 1=some (.new (ro 3 [x]) fun k=>gs k 1 [x]):=rfl
@[go_sem high] theorem fold_int0:gq (.cells [] 3 (0,0)) 0 0=some (.new (ro 3 ([]:List Int)) fun k=>gs k 0 ([]:List Int)):=rfl
def jj(x:Int):List Int->Nat
 |[]=>0
 |y::l=>if y<x then jj x l+1 else 0
theorem zp(x:Int):∀l,jj x l<=l.length
 |[]=>Nat.le_refl _
 |y::l=>by
  unfold jj;split
  ·rw[List.length_cons];have:=zp x l;omega
  exact abW _
def wC(x:Int)(out:List Int):List Int:=out.take (jj x out)++x::out.drop (jj x out)
theorem Ou{x:Int}{out:List Int}:(wC x out).length=out.length+1:=by
 unfold wC;have:=zp x out;rw[abP,List.length_cons,abR,abT];omega
def qv:List Int->List Int->Option (List Int)
 |[],out=>some out
 |x::l,out=>if out.getD (jj x out) default=x/\jj x out<out.length then qv l out else if x<0\/9<(wC x out).length then none else qv l (wC x out)
def rK(l:List Int):List Int×Bool:=match qv l []with
 |some out=>(out,true)
 |none=>([],false)
theorem XJ{x:Int}{o:List Int}:o.take (jj x o)++x::o.drop (jj x o)=wC x o:=rfl
theorem Xh(l:List Int)(hl:l.length<=1000000):Fn Tryz.prog 59 [sl l] (.ret (.tuple #[sl (rK l).1,.bool (rK l).2])):=by
 refine fY Tryz.func59 Tryz.results59 (h:=?_);refine rs ?_;refine rs ?_;refine rS ?_;refine fo (fun x:Nat×List Int=>⟨ao [(0,some (sl l)),(4,some (sl x.2)),(5,some (.int .i64 (x.1:Nat)))],wd [] 0 [] 0,[]⟩) (fun x=>x.1<=l.length/\x.2.length<=9/\qv (l.drop x.1) x.2=qv l []) (fun x=>l.length-x.1) (0,[]) ⟨by omega,by decide,rfl⟩ (fun x hv h=>?_) (fun x hv h=>?_)
 ·obtain⟨i,o⟩:=x;obtain⟨h1,h2,h3⟩:=hv;simp only at h h1 h2 h3;rw[ge (by omega),qv]at h3;generalize hx:l.getD i default=x at h3;have hp:=zp x o;have hln:=Ou (x:=x) (out:=o);refine bs (rs ?_);refine lA ⟨ao [(0,some (sl l)),(4,some (sl o)),(5,some (.int .i64 (i:Nat))),(6,some (.int .i64 (jj x o:Nat)))],wd [] 0 [] 0,[]⟩ (aK ?_) ?_
  ·refine lp (fun k:Nat=>⟨ao [(0,some (sl l)),(4,some (sl o)),(5,some (.int .i64 (i:Nat))),(6,some (.int .i64 (k:Nat)))],wd [] 0 [] 0,[]⟩) (fun k=>k<=o.length/\k+jj x (o.drop k)=jj x o) (fun k=>o.length-k) 0 ⟨by omega,by simp⟩ (fun k hv=>?_);obtain⟨h4,h5⟩:=hv;by_cases h6:k<o.length
   ·rw[ge h6,jj]at h5;refine rD ?_;refine cp (fun h7=>?_) (fun h7=>?_)
    ·rw[if_pos (hx▸h7)]at h5;refine ap (aK ?_);refine rl ?_;exact nx (k+1) ⟨by omega,by omega⟩
    rw[if_neg (hx▸h7)]at h5;refine xe ?_;exact bL
   rw[aco (by omega),jj]at h5;refine rD ?_;refine cf ?_;refine xe ?_;exact bL
  by_cases h4:jj x o<o.length/\o.getD (jj x o) default=x
  ·refine rD ?_;refine ct ?_;refine xe ?_;refine rl ?_;rw[if_pos ⟨h4.2,h4.1⟩]at h3;exact nx (i+1,o) ⟨by omega,h2,h3⟩
  rw[if_neg (fun q=>h4 ⟨q.2,q.1⟩)]at h3;refine Ll ?_ ?_
  ·by_cases h6:jj x o<o.length
   ·have h7:o.getD (jj x o) default≠l.getD i default:=fun q=>h4 ⟨h6,hx▸q⟩
    refine rd ?_;refine cf ?_;exact ap bL
   refine rd ?_;refine cf ?_;exact ap bL
  refine rd ?_;refine rs ?_;rw[hx,XJ];by_cases h5:x<0\/9<(wC x o).length
  ·rw[if_pos h5]at h3;by_cases h6:x<0<;>(
    refine rs ?_;refine ct ?_;refine rs ?_;refine cv [(2,some (sl ([]:List Int))),(3,some (.bool false))] [] 9 ?_;refine rt ?_;unfold rK;rw[<-h3])
  rw[if_neg h5]at h3;have h6:¬x<0:=fun q=>h5 (.inl q)
  refine rs ?_;refine cf ?_;refine ap (rl ?_);exact nx (i+1,wC x o) ⟨by omega,by dsimp only;omega,h3⟩ (h:=Ea 4 [])
 refine rs ?_;refine rt ?_;obtain⟨h1,h2,h3⟩:=hv;rw[aco (by omega),qv]at h3;unfold rK;rw[<-h3]
abbrev Sd:=Int×Int
instance:El Sd:=⟨fun s=>[.int .i64 s.1,.int .i64 s.2],2,fun _=>rfl,fun _=>rfl,fun _=>inferInstance⟩
structure Ce where
 id:Int
 dim:Int
 sd:List Sd
instance:Inhabited Ce:=⟨⟨0,0,[]⟩⟩
instance:El Ce:=⟨fun c=>[.int .i64 c.id,.int .i64 c.dim,sl c.sd],3,fun _=>rfl,fun _=>rfl,fun _=>inferInstance⟩
noncomputable instance:mu Tryz.prog Sd 60:=⟨fun s=>.agg #[.int .i64 s.1,.int .i64 s.2],Tryz.t60,.agg #[.int .i64 0,.int .i64 0],LW,rfl,Mq,rfl,fun _=>by kernel_rfl,fun _=>rfl⟩
@[go_sem] theorem val_sd {s:Sd}:mu.val Tryz.prog s=.agg #[.int .i64 s.1,.int .i64 s.2]:=rfl
@[go_sem] theorem enc_sd {s:Sd}:El.enc s=[Value.int .i64 s.1,.int .i64 s.2]:=rfl
@[go_sem] theorem m_sd:El.m Sd=2:=rfl
@[go_sem high] theorem fold_sd {a b:Int}:gq (.cells [.int .i64 a,.int .i64 b] 60 (0,0)) 1 1=some (.new (ro 60 [((a,b):Sd)]) fun k=>gs k 1 [((a,b):Sd)]):=rfl
@[go_sem high] theorem fold_sd0:gq (.cells [] 60 (0,0)) 0 0=some (.new (ro 60 ([]:List Sd)) fun k=>gs k 0 ([]:List Sd)):=rfl
def mc(x:Int):List Sd->Nat
 |[]=>0
 |y::l=>if y.1<=x then mc x l+1 else 0
theorem yZ(x:Int):∀l,mc x l<=l.length
 |[]=>Nat.le_refl _
 |y::l=>by
  unfold mc;split
  ·rw[List.length_cons];have:=yZ x l;omega
  exact abW _
def mT(x:Sd)(out:List Sd):List Sd:=out.take (mc x.1 out)++x::out.drop (mc x.1 out)
theorem Sg{x:Sd}{o:List Sd}:o.take (mc x.1 o)++x::o.drop (mc x.1 o)=mT x o:=rfl
theorem Ef{x:Sd}{out:List Sd}:(mT x out).length=out.length+1:=by
 unfold mT;have:=yZ x.1 out;rw[abP,List.length_cons,abR,abT];omega
def fF:List Sd->List Sd->List Sd
 |[],out=>out
 |x::l,out=>fF l (mT x out)
theorem j4:∀{l out:List Sd},(fF l out).length=l.length+out.length
 |[],out=>by unfold fF;simp
 |x::l,out=>by unfold fF;rw[j4,Ef,List.length_cons];omega
theorem B5(l:List Sd)(hl:l.length<=1000000):Fn Tryz.prog 61 [sl l] (.ret (sl (fF l []))):=by
 refine fY Tryz.func61 Tryz.results61 (h:=?_);refine rs ?_;refine rs ?_;refine rS ?_;refine fo (fun x:Nat×List Sd=>⟨ao [(0,some (sl l)),(3,some (sl x.2)),(4,some (.int .i64 (x.1:Nat)))],wd [] 0 [] 0,[]⟩) (fun x=>x.1<=l.length/\x.2.length=x.1/\fF (l.drop x.1) x.2=fF l []) (fun x=>l.length-x.1) (0,[]) ⟨by omega,rfl,rfl⟩ (fun x hv h=>?_) (fun x hv h=>?_)
 ·obtain⟨i,o⟩:=x;obtain⟨h1,h2,h3⟩:=hv;simp only at h h1 h2 h3;rw[ge (by omega),fF]at h3;generalize hx:l.getD i default=x at h3;have hp:=yZ x.1 o;have hln:=Ef (x:=x) (out:=o);refine bs (rs ?_);refine lA ⟨ao [(0,some (sl l)),(3,some (sl o)),(4,some (.int .i64 (i:Nat))),(5,some (.int .i64 (mc x.1 o:Nat)))],wd [] 0 [] 0,[]⟩ (aK ?_) ?_
  ·refine lp (fun k:Nat=>⟨ao [(0,some (sl l)),(3,some (sl o)),(4,some (.int .i64 (i:Nat))),(5,some (.int .i64 (k:Nat)))],wd [] 0 [] 0,[]⟩) (fun k=>k<=o.length/\k+mc x.1 (o.drop k)=mc x.1 o) (fun k=>o.length-k) 0 ⟨by omega,by simp⟩ (fun k hv=>?_);obtain⟨h4,h5⟩:=hv;by_cases h6:k<o.length
   ·rw[ge h6,mc]at h5;refine rD ?_;refine cp (fun h7=>?_) (fun h7=>?_)
    ·rw[if_pos (hx▸h7)]at h5;refine ap (aK ?_);refine rl ?_;exact nx (k+1) ⟨by omega,by omega⟩
    rw[if_neg (hx▸h7)]at h5;refine xe ?_;exact bL
   rw[aco (by omega),mc]at h5;refine rD ?_;refine cf ?_;refine xe ?_;exact bL
  refine rd ?_;refine rl ?_;rw[hx,Sg];refine rl ?_;exact nx (i+1,mT x o) ⟨by omega,by dsimp only;omega,h3⟩ (h:=Ea 4 [])
 refine rs ?_;refine rt ?_;obtain⟨h1,h2,h3⟩:=hv;rw[aco (by omega),fF]at h3;rw[<-h3]
noncomputable instance:mu Tryz.prog Ce 58:=⟨fun c=>.agg #[.int .i64 c.id,.int .i64 c.dim,sl c.sd],Tryz.t58,.agg #[.int .i64 0,.int .i64 0,.slice none 0 0],Mt,rfl,KE,rfl,fun _=>by kernel_rfl,fun _=>rfl⟩
@[go_sem] theorem enc_ce {c:Ce}:El.enc c=[Value.int .i64 c.id,.int .i64 c.dim,sl c.sd]:=rfl
@[go_sem] theorem m_ce:El.m Ce=3:=rfl
theorem Wu{c:Ce}:(⟨c.id,c.dim,c.sd⟩:Ce)=c:=rfl
@[go_sem high] theorem fold_ce {a b:Int} {s:List Sd}:gq (.cells [.int .i64 a,.int .i64 b,sl s] 58 (0,0)) 1 1=some (.new (ro 58 [(⟨a,b,s⟩:Ce)]) fun k=>gs k 1 [(⟨a,b,s⟩:Ce)]):=rfl
@[go_sem high] theorem fold_ce0:gq (.cells [] 58 (0,0)) 0 0=some (.new (ro 58 ([]:List Ce)) fun k=>gs k 0 ([]:List Ce)):=rfl
attribute [go_sem] Wu
def nI(l:List Ce)(id:Int)(lo hi:Nat):Nat:=
 if h:lo<hi then(if(l.getD ((lo+hi)/2) default).id<id then nI l id ((lo+hi)/2+1) hi else nI l id lo ((lo+hi)/2))else lo
termination_by hi-lo
def nE(l:List Ce)(id:Int):Int:=if nI l id 0 l.length<l.length/\(l.getD (nI l id 0 l.length) default).id=id then(nI l id 0 l.length:Nat)else -1
theorem Pt(l:List Ce)(id:Int)(hl:l.length<=1000000):Fn Tryz.prog 111 [sl l,.int .i64 id] (.ret (.int .i64 (nE l id))):=by
 refine fY Tryz.func111 Tryz.results111 (h:=?_);refine rs ?_;refine rs ?_;refine rs ?_;refine ai ?_;refine fo (fun x:Nat×Nat=>⟨ao [(0,some (sl l)),(1,some (.int .i64 id)),(5,some (.int .i64 (x.1:Nat))),(6,some (.int .i64 (x.2:Nat)))],wd [] 0 [] 0,[]⟩) (fun x=>x.1<=x.2/\x.2<=l.length/\nI l id x.1 x.2=nI l id 0 l.length) (fun x=>x.2-x.1) (0,l.length) ⟨by omega,by omega,rfl⟩ (fun x hv h=>?_) (fun x hv h=>?_)
 ·obtain⟨i,j⟩:=x;obtain⟨h1,h2,h3⟩:=hv;simp only at h h1 h2 h3;rw[nI,dif_pos (by omega)]at h3;refine aK ?_;refine rs ?_;refine rs ?_;refine cp (fun h4=>?_) (fun h4=>?_)
  ·rw[if_pos h4]at h3;refine rl ?_;exact nx ((i+j)/2+1,j) ⟨by omega,h2,h3⟩
  rw[if_neg h4]at h3;refine rl ?_;exact nx (i,(i+j)/2) ⟨by dsimp only;omega,by dsimp only;omega,h3⟩
 obtain⟨i,j⟩:=x;obtain⟨h1,h2,h3⟩:=hv;simp only at h h1 h2 h3;rw[nI,dif_neg (by omega)]at h3;unfold nE;rw[<-h3];by_cases h4:i<l.length
 ·refine rS ?_;refine cp (fun h5=>?_) (fun h5=>?_)
  ·refine rs ?_;refine rt ?_;rw[if_pos ⟨h4,h5⟩]
  refine sk ?_;refine rs ?_;refine rt ?_;rw[if_neg (fun q=>h5 q.2)]
 refine rS ?_;refine cf ?_;refine sk ?_;refine rs ?_;refine rt ?_;rw[if_neg (fun q=>h4 q.1)]
def iA:List Ce->List Ce->List Ce
 |[],b=>b
 |x::a,[]=>x::a
 |x::a,y::b=>if y.id<x.id then y::iA (x::a) b else x::iA a (y::b)
termination_by a b=>a.length+b.length
theorem SN{a:List Ce}:iA a []=a:=by cases a<;>rw[iA]
theorem S0{a b:List Ce}(ha:0<a.length)(hb:0<b.length):iA a b=if(b.getD 0 default).id<(a.getD 0 default).id then b.getD 0 default::iA a (b.drop 1)else a.getD 0 default::iA (a.drop 1) b:=by
 cases a with
 |nil=>simp at ha
 |cons x a=>
  cases b with
  |nil=>simp at hb
  |cons y b=>rw[iA];rfl
theorem zl:∀(n:Nat) (a b:List Ce),a.length+b.length<=n->(iA a b).length=a.length+b.length
 |n,[],b,_=>by rw[iA];simp
 |n,x::a,[],_=>by rw[iA];simp
 |0,x::a,y::b,h=>by simp at h
 |n+1,x::a,y::b,h=>by
  rw[iA];simp only[List.length_cons]at h;split
  ·rw[List.length_cons,zl n _ _ (by simp only[List.length_cons];omega)];simp only[List.length_cons];omega
  rw[List.length_cons,zl n _ _ (by simp only[List.length_cons];omega)];simp only[List.length_cons];omega
def iU:Nat->List Ce->List Ce
 |0,_=>[]
 |n+1,l=>if l.length=0 then[]else if l.length=1 then[⟨(l.getD 0 default).id,(l.getD 0 default).dim,fF (l.getD 0 default).sd []⟩]else iA (iU n (l.take (l.length/2))) (iU n (l.drop (l.length/2)))
def aM(l:List Ce):List Ce:=iU l.length l
theorem qf:∀(n m:Nat) (l:List Ce),l.length<=n->l.length<=m->iU n l=iU m l
 |0,0,_,_,_=>rfl
 |0,m+1,l,h,_=>by rw[iU,iU,if_pos (by omega)]
 |n+1,0,l,_,h=>by rw[iU,iU,if_pos (by omega)]
 |n+1,m+1,l,h1,h2=>by
  rw[iU,iU];split
  ·rfl
  split
  ·rfl
  rw[qf n m _ (by rw[abR];omega) (by rw[abR];omega),qf n m _ (by rw[abT];omega) (by rw[abT];omega)]
theorem wF{l:List Ce}(h0:l.length≠0)(h1:l.length≠1):iA (aM (l.take (l.length/2))) (aM (l.drop (l.length/2)))=aM l:=by
 obtain⟨n,hn⟩:∃n,l.length=n+1:=⟨l.length-1,by omega⟩;have e:aM l=iU (n+1) l:=by unfold aM;rw[hn]
 rw[e,iU,if_neg h0,if_neg h1];unfold aM;rw[qf _ n _ (Nat.le_refl _) (by rw[abR];omega),qf _ n (l.drop _) (Nat.le_refl _) (by rw[abT];omega)]
theorem fl:∀(n:Nat) (l:List Ce),l.length<=n->(aM l).length=l.length
 |0,l,h=>by
  have:l=[]:=ace (by omega);subst this;rfl
 |n+1,l,h=>by
  by_cases h0:l.length=0
  ·have:l=[]:=ace h0;subst this;rfl
  by_cases h1:l.length=1
  ·unfold aM;rw[h1,iU,if_neg h0,if_pos h1];rfl
  rw[<-wF h0 h1,zl _ _ _ (Nat.le_refl _),fl n _ (by rw[abR];omega),fl n _ (by rw[abT];omega),abR,abT];omega
theorem l7:∀(n:Nat) (l:List Ce),l.length<=n->l.length<=1000000->(∀c∈l,c.sd.length<=1000000)->Fn Tryz.prog 74 [sl l] (.ret (sl (aM l)))
 |n,l,hn,hl,hs=>by
  refine fY Tryz.func74 Tryz.results74 (h:=?_);refine rs ?_;refine rS ?_;refine cp (fun h0=>?_) (fun h0=>?_)
  ·refine rs ?_;refine cv [(2,some (sl ([]:List Ce)))] [] 0 ?_;refine rt ?_;rw[ace (l:=l) (by omega)];rfl
  refine sk ?_;refine rS ?_;refine cp (fun h1=>?_) (fun h1=>?_)
  ·refine Hi (b1 (B5 (l.getD 0 default).sd (hs _ (bj (by omega))))) ?_;refine cv [(2,some (sl [(⟨(l.getD 0 default).id,(l.getD 0 default).dim,fF (l.getD 0 default).sd []⟩:Ce)]))] [] 9 ?_ (hl:=fz 0);refine rt ?_;unfold aM;rw[show l.length=0+1 by omega,iU,if_neg (by omega),if_pos (by omega)]
  refine sk ?_;obtain⟨n,rfl⟩:∃m,n=m+1:=⟨n-1,by omega⟩;refine rc (b1 (l7 n (l.take (l.length/2)) (by rw[abR];omega) (by rw[abR];omega) (fun c hc=>hs c (ac5 hc)))) ?_;refine rc (b1 (l7 n (l.drop (l.length/2)) (by rw[abT];omega) (by rw[abT];omega) (fun c hc=>hs c (adk hc)))) ?_;have e1:=fl _ (l.take (l.length/2)) (Nat.le_refl _);have e2:=fl _ (l.drop (l.length/2)) (Nat.le_refl _);have e3:=wF (l:=l) (by omega) (by omega);generalize aM (l.take (l.length/2))=A at e1 e3 ⊢;generalize aM (l.drop (l.length/2))=B at e2 e3 ⊢;rw[abR]at e1;rw[abT]at e2;refine rs ?_;refine ai (aK ?_);refine lp (fun x:List Ce×List Ce×List Ce=>⟨ao [(3,some (sl x.1)),(4,some (sl x.2.1)),(5,some (gs 0 aq x.2.2))],wd [(0,some (ro 58 x.2.2))] 1 [] 0,[]⟩) (fun x=>x.2.2++iA x.1 x.2.1=aM l/\x.1.length+x.2.1.length+x.2.2.length=l.length) (fun x=>x.1.length+x.2.1.length) (A,B,[]) ⟨e3,by simp only[List.length_nil];omega⟩ (fun x hv=>?_);obtain⟨a,b,o⟩:=x;obtain⟨h3,h4⟩:=hv;simp only at h3 h4;by_cases h5:0<a.length/\0<b.length
  ·obtain⟨h5,h6⟩:=h5;refine rS ?_;refine ct ?_;refine ap (aK ?_);rw[S0 h5 h6]at h3;by_cases h7:(b.getD 0 default).id<(a.getD 0 default).id
   ·rw[if_pos h7]at h3;refine rd ?_;refine ct ?_;refine rs ?_;refine rl ?_;exact nx (a,b.drop 1,o++[b.getD 0 default]) ⟨by rw[acg];exact h3,by simp only[abP,List.length_cons,List.length_nil,abT];omega⟩ (by simp only[abT];omega) (rn [(2,0)])
   rw[if_neg h7]at h3;refine rd ?_;refine cf ?_;refine rs ?_;refine rl ?_;exact nx (a.drop 1,b,o++[a.getD 0 default]) ⟨by rw[acg];exact h3,by simp only[abP,List.length_cons,List.length_nil,abT];omega⟩ (by simp only[abT];omega) (rn [(2,0)])
  have key:o++a++b=aM l:=by
   rw[<-h3];by_cases h6:0<a.length
   ·rw[ace (l:=b) (by omega),SN,List.append_nil]
   rw[ace (l:=a) (by omega),iA,List.append_nil]
  by_cases h6:0<a.length<;>(
   refine rS ?_;refine cf ?_;refine xe ?_;refine rs ?_;refine cv [(2,some (sl (o++a++b)))] [] 9 ?_ (hl:=fz 2);refine rt ?_;rw[key])
abbrev gw(l:List Ce):Value:=.agg #[sl l]
theorem wn(l:List Ce)(hl:l.length<=1000000)(hs:∀c∈l,c.sd.length<=1000000):Fn Tryz.prog 45 [gw l] (.ret (gw (aM l))):=by
 refine fY Tryz.func45 Tryz.results45 (h:=?_);refine rs ?_;refine rc (b1 (l7 _ l (Nat.le_refl _) hl hs)) ?_;refine rt ?_;rfl
def dQ(l:List Ce):Nat->List Ce
 |0=>[]
 |i+1=>if i=0\/(l.getD i default).id≠(l.getD (i-1) default).id then dQ l i++[l.getD i default]else dQ l i
theorem oS(l:List Ce):∀i,(dQ l i).length<=i
 |0=>Nat.le_refl _
 |i+1=>by
  have:=oS l i;unfold dQ;split
  ·rw[abP,ab5];omega
  omega
def my(l:List Ce):List Ce:=dQ (aM l) (aM l).length
theorem Nm(l:List Ce)(hl:l.length<=1000000)(hs:∀c∈l,c.sd.length<=1000000):Fn Tryz.prog 75 [gw l] (.ret (sl (my l))):=by
 have ho:=fl _ l (Nat.le_refl _);unfold my;refine fY Tryz.func75 Tryz.results75 (h:=?_);refine rs ?_;refine rc (b1 (l7 _ l (Nat.le_refl _) hl hs)) ?_;generalize aM l=o at ho ⊢;refine rs ?_;refine rS ?_;refine fo (fun i:Nat=>⟨ao [(3,some (sl o)),(4,some (gs 1 aq (dQ o i))),(5,some (.int .i64 (i:Nat)))],wd [(1,some (ro 58 (dQ o i)))] 2 [] 0,[]⟩) (fun i=>i<=o.length) (fun i=>o.length-i) 0 (abW _) (fun i hv h=>?_) (fun i hv h=>?_)
 ·have hq:=oS o i;refine bs ?_;by_cases h0:i=0
  ·have e:dQ o (i+1)=dQ o i++[o.getD i default]:=if_pos (.inl h0);refine rd ?_;refine ct ?_;refine rl ?_;refine rl ?_;refine nx (i+1) (by omega) (by omega) ?_;rw[e];exact rn [(3,1)]
  by_cases h1:(o.getD i default).id≠(o.getD (i-1) default).id
  ·have e:dQ o (i+1)=dQ o i++[o.getD i default]:=if_pos (.inr h1);refine rd ?_;refine ct ?_;refine rl ?_;refine rl ?_;refine nx (i+1) (by omega) (by omega) ?_;rw[e];exact rn [(3,1)]
  have e:dQ o (i+1)=dQ o i:=if_neg (fun q=>q.elim h0 h1);refine rd ?_;refine cf ?_;refine ap (rl ?_);refine nx (i+1) (by omega) (by omega) ?_;rw[e];exact bL
 have hq:=oS o i;refine rs ?_;refine cv [(2,some (sl (dQ o i)))] [] 9 ?_ (hl:=fz 1);refine rt ?_;rw[show i=o.length by omega]
abbrev jA(c:Ce):Value:=.agg #[.int .i64 c.id,.int .i64 c.dim,sl c.sd]
theorem tD{l:List Ce}{id:Int}:nE l id=-1\/∃m:Nat,m<l.length/\nE l id=m:=by
 unfold nE;split
 ·rename_i h;exact .inr ⟨_,h.1,rfl⟩
 exact .inl rfl
def mL(l:List Ce)(x:Ce)(i:Nat):Prop:=nE l (x.sd.getD i default).1<0\/(l.getD (nE l (x.sd.getD i default).1).toNat default).dim≠x.dim-1\/(0<i/\(x.sd.getD i default).1=(x.sd.getD (i-1) default).1)
def iK(x:Ce)(i:Nat):Prop:=(x.sd.getD i default).2≠1/\(x.sd.getD i default).2≠-1
def wb(x:Ce):Prop:=(x.dim=0/\0<x.sd.length)\/(x.dim=1/\x.sd.length≠2)\/(1<x.dim/\(x.sd.length<2\/64<x.sd.length))
open Classical in
noncomputable def dI(l:List Ce)(x:Ce):Int:=
 if x.dim<0\/8<x.dim then 21 else if wb x then 22 else if ∃i,i<x.sd.length/\mL l x i then 22 else if ∃i,i<x.sd.length/\iK x i then 23 else if x.dim=1/\(x.sd.getD 0 default).2=(x.sd.getD 1 default).2 then 23 else 0
set_option maxHeartbeats 4000000 in
theorem Nn(l:List Ce)(x:Ce)(hl:l.length<=1000000)(hx:x.sd.length<=1000000):Fn Tryz.prog 76 [sl l,jA x] (.ret (.int .i64 (dI l x))):=by
 refine fY Tryz.func76 Tryz.results76 (h:=?_);refine rs ?_;by_cases hd:x.dim<0\/8<x.dim
 ·by_cases h1:x.dim<0<;>(
   refine rS ?_;refine ct ?_;refine rs ?_;refine rt ?_;rw[dI,if_pos hd];rfl)
 refine rS ?_;refine cf ?_;refine sk (rs ?_);by_cases hs:wb x
 ·have hs':=hs;unfold wb at hs;by_cases a:x.dim=0<;>by_cases b:x.dim=1<;>by_cases c:x.sd.length<2<;>first|(exfalso;omega)|(
   refine rS ?_;refine ct ?_;refine rs ?_;refine rt ?_;rw[dI,if_neg hd,if_pos hs'];rfl)
 have hs':=hs;unfold wb at hs;refine Ll ?_ ?_
 ·by_cases a:x.dim=0<;>by_cases b:x.dim=1<;>first|(exfalso;omega)|(
   refine rs ?_;refine cf ?_;exact ap bL)
 refine rS ?_;refine fo (fun i:Nat=>⟨ao [(0,some (sl l)),(3,some (.pointer (some ⟨0,0,none⟩))),(5,some (.int .i64 (x.sd.length:Nat))),(6,some (.int .i64 (i:Nat)))],wd [(0,some (.cells [.int .i64 x.id,.int .i64 x.dim,sl x.sd] 58 (0,0)))] 1 [] 0,[]⟩) (fun i=>i<=x.sd.length/\∀j,j<i->¬mL l x j) (fun i=>x.sd.length-i) 0 ⟨abW _,fun j h=>absurd h (acm j)⟩ (fun i hv h=>?_) (fun i hv h=>?_)
 ·refine bs ?_;refine rc (b1 (Pt l (x.sd.getD i default).1 hl)) ?_;by_cases hb:mL l x i
  ·have hb':=hb;unfold mL at hb;have hz:=tD (l:=l) (id:=(x.sd.getD i default).1);have e:dI l x=22:=by rw[dI,if_neg hd,if_neg hs',if_pos ⟨i,by omega,hb'⟩]
   generalize nE l (x.sd.getD i default).1=z at hz hb ⊢;rcases hz with rfl|⟨m,hm,rfl⟩
   ·refine rd ?_;refine ct ?_;refine rs ?_;refine rt ?_;rw[e];rfl
   rw[ab2]at hb;by_cases h1:(l.getD m default).dim≠x.dim-1
   ·refine rd ?_;refine ct ?_;refine rs ?_;refine rt ?_;rw[e];rfl
   have h2:0<i:=by omega
   have h3:(x.sd.getD i default).1=(x.sd.getD (i-1) default).1:=by omega
   refine rd ?_;refine ct ?_;refine rs ?_;refine rt ?_;rw[e];rfl
  have hb':=hb;unfold mL at hb;have hz:=tD (l:=l) (id:=(x.sd.getD i default).1);generalize nE l (x.sd.getD i default).1=z at hz hb ⊢;obtain rfl|⟨m,hm,rfl⟩:=hz
  ·exfalso;omega
  rw[ab2]at hb;by_cases h2:0<i<;>(
   refine rd ?_;refine cf ?_;refine ap (rl ?_);exact nx (i+1) ⟨by omega,fun j hj=>by
    by_cases e:j=i
    ·subst e;exact hb'
    exact hv.2 j (by omega)⟩)
 have h1:¬∃i,i<x.sd.length/\mL l x i:=fun⟨j,q1,q2⟩=>hv.2 j (by omega) q2
 refine rS ?_;refine fo (fun i:Nat=>⟨ao [(0,some (sl l)),(3,some (.pointer (some ⟨0,0,none⟩))),(5,some (.int .i64 (x.sd.length:Nat))),(8,some (.int .i64 (i:Nat)))],wd [(0,some (.cells [.int .i64 x.id,.int .i64 x.dim,sl x.sd] 58 (0,0)))] 1 [] 0,[]⟩) (fun i=>i<=x.sd.length/\∀j,j<i->¬iK x j) (fun i=>x.sd.length-i) 0 ⟨abW _,fun j h=>absurd h (acm j)⟩ (fun i hv h=>?_) (fun i hv h=>?_)
 ·refine bs ?_;by_cases hb:iK x i
  ·have e:dI l x=23:=by rw[dI,if_neg hd,if_neg hs',if_neg h1,if_pos ⟨i,by omega,hb⟩]
   unfold iK at hb;refine rs ?_;refine ct ?_;refine rs ?_;refine rt ?_;rw[e];rfl
  have hb':=hb;unfold iK at hb;by_cases h2:(x.sd.getD i default).2=1<;>(
   refine rs ?_;refine cf ?_;refine ap (rl ?_);exact nx (i+1) ⟨by omega,fun j hj=>by
    by_cases e:j=i
    ·subst e;exact hb'
    exact hv.2 j (by omega)⟩)
 have h2:¬∃i,i<x.sd.length/\iK x i:=fun⟨j,q1,q2⟩=>hv.2 j (by omega) q2
 by_cases h3:x.dim=1
 ·by_cases h4:(x.sd.getD 0 default).2=(x.sd.getD 1 default).2
  ·refine rD ?_;refine ct ?_;refine rs ?_;refine rt ?_;rw[dI,if_neg hd,if_neg hs',if_neg h1,if_neg h2,if_pos ⟨h3,h4⟩];rfl
  refine rD ?_;refine cf ?_;refine sk (rs ?_);refine rt ?_;rw[dI,if_neg hd,if_neg hs',if_neg h1,if_neg h2,if_neg (fun q=>h4 q.2)];rfl
 refine rD ?_;refine cf ?_;refine sk (rs ?_);refine rt ?_;rw[dI,if_neg hd,if_neg hs',if_neg h1,if_neg h2,if_neg (fun q=>h3 q.1)];rfl
end Go.Proofs.YthlkgmdkabelpaaGreat.X
