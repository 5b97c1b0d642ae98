/-
  Packed by program (tools/pack.py) out of the texts L1 L2 L3 LE L4 L5 L6 L7 L8. No condition.
-/
import Derived.Test.YthlkgmdkabelpaaGreatTT
import Derived.Test.YthlkgmdkabelpaaGreatTF
set_option linter.all false
namespace Go.Proofs.YthlkgmdkabelpaaGreat.X
open Go Go.RowKit
instance:kJ Tryz.prog:=⟨mixed⟩
attribute [go_sem] Ta OI SP Qa R9 N8 Nt cM Cm ot
attribute [go_sem high] U6 Wp Qh RP TU OU SB
theorem Ug{α β:Type}{p:α×β}:(p.1,p.2)=p:=rfl
theorem Lc{α:Type}[El α]{l:List α}:(sl l).cells=#[sl l]:=rfl
theorem Kh{α:Type}{b c:Nat}{l:List α}:(gs b c l).cells=#[gs b c l]:=rfl
attribute [go_sem ↓ high] Lc Kh
attribute [go_sem] Ug Ub xD WA.eq_1 List.drop_zero List.take_length
@[go_sem] theorem ev_c17 {fr:XF} {k:IntKind}:ev fr (.const (.int k 17))=some (.int k ((17:Nat):Int)):=rfl
@[go_sem] theorem ev_c18 {fr:XF} {k:IntKind}:ev fr (.const (.int k 18))=some (.int k ((18:Nat):Int)):=rfl
@[go_sem] theorem ev_c19 {fr:XF} {k:IntKind}:ev fr (.const (.int k 19))=some (.int k ((19:Nat):Int)):=rfl
@[go_sem] theorem ev_c21 {fr:XF} {k:IntKind}:ev fr (.const (.int k 21))=some (.int k ((21:Nat):Int)):=rfl
@[go_sem] theorem ev_c22 {fr:XF} {k:IntKind}:ev fr (.const (.int k 22))=some (.int k ((22:Nat):Int)):=rfl
@[go_sem] theorem ev_c23 {fr:XF} {k:IntKind}:ev fr (.const (.int k 23))=some (.int k ((23:Nat):Int)):=rfl
@[go_sem] theorem ev_c24 {fr:XF} {k:IntKind}:ev fr (.const (.int k 24))=some (.int k ((24:Nat):Int)):=rfl
@[go_sem] theorem ev_c25 {fr:XF} {k:IntKind}:ev fr (.const (.int k 25))=some (.int k ((25:Nat):Int)):=rfl
@[go_sem] theorem ev_c27 {fr:XF} {k:IntKind}:ev fr (.const (.int k 27))=some (.int k ((27:Nat):Int)):=rfl
@[go_sem] theorem ev_c28 {fr:XF} {k:IntKind}:ev fr (.const (.int k 28))=some (.int k ((28:Nat):Int)):=rfl
@[go_sem] theorem ev_c29 {fr:XF} {k:IntKind}:ev fr (.const (.int k 29))=some (.int k ((29:Nat):Int)):=rfl
@[go_sem] theorem ev_c35 {fr:XF} {k:IntKind}:ev fr (.const (.int k 35))=some (.int k ((35:Nat):Int)):=rfl
@[go_sem] theorem ev_c36 {fr:XF} {k:IntKind}:ev fr (.const (.int k 36))=some (.int k ((36:Nat):Int)):=rfl
@[go_sem] theorem ev_c40 {fr:XF} {k:IntKind}:ev fr (.const (.int k 40))=some (.int k ((40:Nat):Int)):=rfl
@[go_sem] theorem ev_c50 {fr:XF} {k:IntKind}:ev fr (.const (.int k 50))=some (.int k ((50:Nat):Int)):=rfl
@[go_sem] theorem ev_c59 {fr:XF} {k:IntKind}:ev fr (.const (.int k 59))=some (.int k ((59:Nat):Int)):=rfl
@[go_sem] theorem ev_c60 {fr:XF} {k:IntKind}:ev fr (.const (.int k 60))=some (.int k ((60:Nat):Int)):=rfl
@[go_sem] theorem want_undef {w:Bool}:sX w (some undef)=some false:=by cases w<;>rfl
theorem X2{a b:Int}:(a !=b)=decide (a≠b):=by by_cases h:a=b<;>simp[h]
theorem X8{a b:Int}:(a==b)=decide (a=b):=by by_cases h:a=b<;>simp[h]
theorem GR{a b:Nat}(h:b<=a):(a:Int)-(b:Int)=((a-b:Nat):Int):=by omega
attribute [go_sem] X2 X8 GR
instance:El Int:=⟨fun a=>[.int .i64 a],1,fun _=>rfl,fun _=>rfl,fun _=>inferInstance⟩
noncomputable instance:mJ Tryz.prog Int 3:=⟨fun a=>.int .i64 a,Tryz.t3,.int .i64 0,LW,rfl,MF,rfl,fun _=>by kernel_rfl,fun _=>rfl⟩
@[go_sem] theorem val_int {a:Int}:mJ.val Tryz.prog a=.int .i64 a:=rfl
@[go_sem] theorem enc_int {a:Int}:El.enc a=[Value.int .i64 a]:=rfl
@[go_sem] theorem m_int:El.m Int=1:=rfl
def lexB:List Int->List Int->Bool
 |x::a,y::b=>if x=y then lexB a b else decide (x<y)
 |_,_=>false
def wF(a b:List Int):Bool:=if a.length=b.length then lexB a b else decide (a.length<b.length)
theorem yp(a b:List Int)(ha:a.length<=1000000)(hb:b.length<=1000000):Fn Tryz.prog 98 [sl a,sl b] (.ret (.bool (wF a b))):=by
 refine ir Tryz.func98 Tryz.results98 (h:=?_);refine rs ?_;refine rS ?_;refine cp (fun h=>?_) (fun h=>?_)
 ·refine rs ?_;refine rt ?_;unfold wF;rw[if_neg (by omega)];simp
 refine sk (rS ?_);refine fo (fun i:Nat=>⟨an [(0,some (sl a)),(1,some (sl b)),(5,some (.int .i64 (i:Nat)))],wd [] 0 [] 0,[]⟩) (fun i=>i<=a.length/\lexB (a.drop i) (b.drop i)=wF a b) (fun i=>a.length-i) 0 ⟨by omega,by unfold wF;rw[if_pos (by omega)];rfl⟩ (fun i hi h=>?_) (fun i hi h=>?_)
 ·rw[ei (l:=a) (by omega),ei (l:=b) (by omega)]at hi;refine bs (rd ?_);refine cp (fun h2=>?_) (fun h2=>?_)
  ·refine rd ?_;refine rt ?_;rw[<-hi.2,lexB,if_neg h2]
  refine ap (rl ?_);refine nx (i+1) ⟨by omega,?_⟩;rw[<-hi.2,lexB,if_pos (Decidable.not_not.1 h2)]
 refine rs ?_;refine rt ?_;rw[<-hi.2,YV (by omega)];rfl
instance {α:Type}[El α]:El (List α):=⟨fun a=>[sl a],1,fun _=>rfl,fun _=>rfl,fun _=>inferInstance⟩
noncomputable instance:mJ Tryz.prog (List Int) 35:=⟨sl,Tryz.t35,.slice none 0 0,IS,rfl,IC,rfl,fun _=>by kernel_rfl,fun _=>rfl⟩
@[go_sem] theorem val_ints {a:List Int}:mJ.val Tryz.prog a=sl a:=rfl
@[go_sem] theorem enc_list {α:Type} [El α] {a:List α}:El.enc a=[sl a]:=rfl
@[go_sem] theorem m_list {α:Type} [El α]:El.m (List α)=1:=rfl
theorem bn{α:Type}[Inhabited α]{l:List α}{i:Nat}(h:i<l.length):l.getD i default∈l:=by
 rw[Yn,Yl h];exact List.getElem_mem h
def yj(all:List (List Int))(s:List Int)(lo hi:Nat):Nat:=
 if h:lo<hi then(if wF (all.getD ((lo+hi)/2) default) s then yj all s ((lo+hi)/2+1) hi else yj all s lo ((lo+hi)/2))else lo
termination_by hi-lo
theorem BP{all:List (List Int)}{s:List Int}:∀(d lo hi:Nat),hi-lo<=d->lo<=hi->yj all s lo hi<=hi
 |d,lo,hi,hd,h=>by
  rw[yj];split
  ·rename_i hlt;cases d with
   |zero=>omega
   |succ d=>
    split
    ·exact BP d _ _ (by omega) (by omega)
    exact Nat.le_trans (BP d _ _ (by omega) (by omega)) (by omega)
  exact h
def qS(l:List (List Int))(s:List Int):Nat:=yj l s 0 l.length
def Le(l:List (List Int))(s:List Int):Bool:=decide (qS l s<l.length)&&!wF s (l.getD (qS l s) default)
theorem BR(l:List (List Int))(s:List Int)(hl:l.length<=1000000)(hs:s.length<=1000000)(he:∀t∈l,t.length<=1000000):Fn Tryz.prog 60 [sl l,sl s] (.ret (.tuple #[.int .i64 (qS l s:Nat),.bool (Le l s)])):=by
 refine ir Tryz.func60 Tryz.results60 (h:=?_);refine rs ?_;refine rs ?_;refine rs ?_;refine ak ?_;refine fo (fun x:Nat×Nat=>⟨an [(0,some (sl l)),(1,some (sl s)),(6,some (.int .i64 (x.1:Nat))),(7,some (.int .i64 (x.2:Nat)))],wd [] 0 [] 0,[]⟩) (fun x=>x.1<=x.2/\x.2<=l.length/\yj l s x.1 x.2=qS l s) (fun x=>x.2-x.1) (0,l.length) ⟨by omega,by omega,rfl⟩ (fun x hv h=>?_) (fun x hv h=>?_)
 ·obtain⟨i,j⟩:=x;obtain⟨h1,h2,h3⟩:=hv;simp only at h h1 h2 h3;rw[yj,dif_pos (by omega)]at h3;refine aC ?_;refine rs ?_;refine rc (b1 (yp (l.getD ((i+j)/2) default) s (he _ (bn (by omega))) hs)) ?_;refine cb (fun h4=>?_) (fun h4=>?_)
  ·rw[if_pos h4]at h3;refine rl ?_;exact nx ((i+j)/2+1,j) ⟨by omega,h2,h3⟩
  rw[if_neg (by rw[h4];simp)]at h3;refine rl ?_;exact nx (i,(i+j)/2) ⟨by dsimp only;omega,by dsimp only;omega,h3⟩
 obtain⟨i,j⟩:=x;obtain⟨h1,h2,h3⟩:=hv;simp only at h h1 h2 h3;rw[yj,dif_neg (by omega)]at h3;by_cases h4:i<l.length
 ·refine rc (b1 (yp s (l.getD i default) hs (he _ (bn h4)))) ?_;refine rt ?_;rw[<-h3,Le,<-h3,decide_eq_true h4,Bool.true_and]
 refine rs ?_;refine rt ?_;rw[<-h3,Le,<-h3,decide_eq_false h4,Bool.false_and]
@[go_sem high] theorem fold_int {x:Int}:gr (.cells [.int .i64 x] 3 (0,0)) 1 1=some (.new (ro 3 [x]) fun k=>gs k 1 [x]):=rfl
@[go_sem high] theorem fold_int0:gr (.cells [] 3 (0,0)) 0 0=some (.new (ro 3 ([]:List Int)) fun k=>gs k 0 ([]:List Int)):=rfl
def iI(x:Int):List Int->Nat
 |[]=>0
 |y::l=>if y<x then iI x l+1 else 0
theorem xE(x:Int):∀l,iI x l<=l.length
 |[]=>Nat.le_refl _
 |y::l=>by
  unfold iI;split
  ·rw[List.length_cons];have:=xE x l;omega
  exact Yq _
def va(x:Int)(out:List Int):List Int:=out.take (iI x out)++x::out.drop (iI x out)
theorem JA{x:Int}{out:List Int}:(va x out).length=out.length+1:=by
 unfold va;have:=xE x out;rw[Yh,List.length_cons,Yk,Ym];omega
def oS:List Int->List Int->Option (List Int)
 |[],out=>some out
 |x::l,out=>if out.getD (iI x out) default=x/\iI x out<out.length then oS l out else if x<0\/9<(va x out).length then none else oS l (va x out)
def uE(l:List Int):List Int×Bool:=match oS l []with
 |some out=>(out,true)
 |none=>([],false)
theorem Sh{x:Int}{o:List Int}:o.take (iI x o)++x::o.drop (iI x o)=va x o:=rfl
theorem Re(l:List Int)(hl:l.length<=1000000):Fn Tryz.prog 59 [sl l] (.ret (.tuple #[sl (uE l).1,.bool (uE l).2])):=by
 refine ir Tryz.func59 Tryz.results59 (h:=?_);refine rs ?_;refine rs ?_;refine rS ?_;refine fo (fun x:Nat×List Int=>⟨an [(0,some (sl l)),(4,some (sl x.2)),(5,some (.int .i64 (x.1:Nat)))],wd [] 0 [] 0,[]⟩) (fun x=>x.1<=l.length/\x.2.length<=9/\oS (l.drop x.1) x.2=oS l []) (fun x=>l.length-x.1) (0,[]) ⟨by omega,by decide,rfl⟩ (fun x hv h=>?_) (fun x hv h=>?_)
 ·obtain⟨i,o⟩:=x;obtain⟨h1,h2,h3⟩:=hv;simp only at h h1 h2 h3;rw[ei (by omega),oS]at h3;generalize hx:l.getD i default=x at h3;have hp:=xE x o;have hln:=JA (x:=x) (out:=o);refine bs (rs ?_);refine jP ⟨an [(0,some (sl l)),(4,some (sl o)),(5,some (.int .i64 (i:Nat))),(6,some (.int .i64 (iI x o:Nat)))],wd [] 0 [] 0,[]⟩ (aC ?_) ?_
  ·refine lp (fun k:Nat=>⟨an [(0,some (sl l)),(4,some (sl o)),(5,some (.int .i64 (i:Nat))),(6,some (.int .i64 (k:Nat)))],wd [] 0 [] 0,[]⟩) (fun k=>k<=o.length/\k+iI x (o.drop k)=iI x o) (fun k=>o.length-k) 0 ⟨by omega,by simp⟩ (fun k hv=>?_);obtain⟨h4,h5⟩:=hv;by_cases h6:k<o.length
   ·rw[ei h6,iI]at h5;refine rD ?_;refine cp (fun h7=>?_) (fun h7=>?_)
    ·rw[if_pos (hx▸h7)]at h5;refine ap (aC ?_);refine rl ?_;exact nx (k+1) ⟨by omega,by omega⟩
    rw[if_neg (hx▸h7)]at h5;refine xe ?_;exact bg
   rw[YV (by omega),iI]at h5;refine rD ?_;refine cf ?_;refine xe ?_;exact bg
  by_cases h4:iI x o<o.length/\o.getD (iI x o) default=x
  ·refine rD ?_;refine ct ?_;refine xe ?_;refine rl ?_;rw[if_pos ⟨h4.2,h4.1⟩]at h3;exact nx (i+1,o) ⟨by omega,h2,h3⟩
  rw[if_neg (fun q=>h4 ⟨q.2,q.1⟩)]at h3;refine G0 ?_ ?_
  ·by_cases h6:iI x o<o.length
   ·have h7:o.getD (iI x o) default≠l.getD i default:=fun q=>h4 ⟨h6,hx▸q⟩
    refine rd ?_;refine cf ?_;exact ap bg
   refine rd ?_;refine cf ?_;exact ap bg
  refine rd ?_;refine rs ?_;rw[hx,Sh];by_cases h5:x<0\/9<(va x o).length
  ·rw[if_pos h5]at h3;by_cases h6:x<0<;>(
    refine rs ?_;refine ct ?_;refine rs ?_;refine cv [(2,some (sl ([]:List Int))),(3,some (.bool false))] [] 9 ?_;refine rt ?_;unfold uE;rw[<-h3])
  rw[if_neg h5]at h3;have h6:¬x<0:=fun q=>h5 (.inl q)
  refine rs ?_;refine cf ?_;refine ap (rl ?_);exact nx (i+1,va x o) ⟨by omega,by dsimp only;omega,h3⟩ (h:=yV 4 [])
 refine rs ?_;refine rt ?_;obtain⟨h1,h2,h3⟩:=hv;rw[YV (by omega),oS]at h3;unfold uE;rw[<-h3]
abbrev Sd:=Int×Int
instance:El Sd:=⟨fun s=>[.int .i64 s.1,.int .i64 s.2],2,fun _=>rfl,fun _=>rfl,fun _=>inferInstance⟩
structure Ce where
 id:Int
 dim:Int
 sd:List Sd
instance:Inhabited Ce:=⟨⟨0,0,[]⟩⟩
instance:El Ce:=⟨fun c=>[.int .i64 c.id,.int .i64 c.dim,sl c.sd],3,fun _=>rfl,fun _=>rfl,fun _=>inferInstance⟩
noncomputable instance:mJ Tryz.prog Sd 60:=⟨fun s=>.agg #[.int .i64 s.1,.int .i64 s.2],Tryz.t60,.agg #[.int .i64 0,.int .i64 0],I5,rfl,GV,rfl,fun _=>by kernel_rfl,fun _=>rfl⟩
@[go_sem] theorem val_sd {s:Sd}:mJ.val Tryz.prog s=.agg #[.int .i64 s.1,.int .i64 s.2]:=rfl
@[go_sem] theorem enc_sd {s:Sd}:El.enc s=[Value.int .i64 s.1,.int .i64 s.2]:=rfl
@[go_sem] theorem m_sd:El.m Sd=2:=rfl
@[go_sem high] theorem fold_sd {a b:Int}:gr (.cells [.int .i64 a,.int .i64 b] 60 (0,0)) 1 1=some (.new (ro 60 [((a,b):Sd)]) fun k=>gs k 1 [((a,b):Sd)]):=rfl
@[go_sem high] theorem fold_sd0:gr (.cells [] 60 (0,0)) 0 0=some (.new (ro 60 ([]:List Sd)) fun k=>gs k 0 ([]:List Sd)):=rfl
def im(x:Int):List Sd->Nat
 |[]=>0
 |y::l=>if y.1<=x then im x l+1 else 0
theorem sZ(x:Int):∀l,im x l<=l.length
 |[]=>Nat.le_refl _
 |y::l=>by
  unfold im;split
  ·rw[List.length_cons];have:=sZ x l;omega
  exact Yq _
def gP(x:Sd)(out:List Sd):List Sd:=out.take (im x.1 out)++x::out.drop (im x.1 out)
theorem D7{x:Sd}{o:List Sd}:o.take (im x.1 o)++x::o.drop (im x.1 o)=gP x o:=rfl
theorem uA{x:Sd}{out:List Sd}:(gP x out).length=out.length+1:=by
 unfold gP;have:=sZ x.1 out;rw[Yh,List.length_cons,Yk,Ym];omega
def cL:List Sd->List Sd->List Sd
 |[],out=>out
 |x::l,out=>cL l (gP x out)
theorem qg:∀{l out:List Sd},(cL l out).length=l.length+out.length
 |[],out=>by unfold cL;simp
 |x::l,out=>by unfold cL;rw[qg,uA,List.length_cons];omega
theorem BC(l:List Sd)(hl:l.length<=1000000):Fn Tryz.prog 61 [sl l] (.ret (sl (cL l []))):=by
 refine ir Tryz.func61 Tryz.results61 (h:=?_);refine rs ?_;refine rs ?_;refine rS ?_;refine fo (fun x:Nat×List Sd=>⟨an [(0,some (sl l)),(3,some (sl x.2)),(4,some (.int .i64 (x.1:Nat)))],wd [] 0 [] 0,[]⟩) (fun x=>x.1<=l.length/\x.2.length=x.1/\cL (l.drop x.1) x.2=cL l []) (fun x=>l.length-x.1) (0,[]) ⟨by omega,rfl,rfl⟩ (fun x hv h=>?_) (fun x hv h=>?_)
 ·obtain⟨i,o⟩:=x;obtain⟨h1,h2,h3⟩:=hv;simp only at h h1 h2 h3;rw[ei (by omega),cL]at h3;generalize hx:l.getD i default=x at h3;have hp:=sZ x.1 o;have hln:=uA (x:=x) (out:=o);refine bs (rs ?_);refine jP ⟨an [(0,some (sl l)),(3,some (sl o)),(4,some (.int .i64 (i:Nat))),(5,some (.int .i64 (im x.1 o:Nat)))],wd [] 0 [] 0,[]⟩ (aC ?_) ?_
  ·refine lp (fun k:Nat=>⟨an [(0,some (sl l)),(3,some (sl o)),(4,some (.int .i64 (i:Nat))),(5,some (.int .i64 (k:Nat)))],wd [] 0 [] 0,[]⟩) (fun k=>k<=o.length/\k+im x.1 (o.drop k)=im x.1 o) (fun k=>o.length-k) 0 ⟨by omega,by simp⟩ (fun k hv=>?_);obtain⟨h4,h5⟩:=hv;by_cases h6:k<o.length
   ·rw[ei h6,im]at h5;refine rD ?_;refine cp (fun h7=>?_) (fun h7=>?_)
    ·rw[if_pos (hx▸h7)]at h5;refine ap (aC ?_);refine rl ?_;exact nx (k+1) ⟨by omega,by omega⟩
    rw[if_neg (hx▸h7)]at h5;refine xe ?_;exact bg
   rw[YV (by omega),im]at h5;refine rD ?_;refine cf ?_;refine xe ?_;exact bg
  refine rd ?_;refine rl ?_;rw[hx,D7];refine rl ?_;exact nx (i+1,gP x o) ⟨by omega,by dsimp only;omega,h3⟩ (h:=yV 4 [])
 refine rs ?_;refine rt ?_;obtain⟨h1,h2,h3⟩:=hv;rw[YV (by omega),cL]at h3;rw[<-h3]
noncomputable instance:mJ Tryz.prog Ce 58:=⟨fun c=>.agg #[.int .i64 c.id,.int .i64 c.dim,sl c.sd],Tryz.t58,.agg #[.int .i64 0,.int .i64 0,.slice none 0 0],Gn,rfl,IM,rfl,fun _=>by kernel_rfl,fun _=>rfl⟩
@[go_sem] theorem enc_ce {c:Ce}:El.enc c=[Value.int .i64 c.id,.int .i64 c.dim,sl c.sd]:=rfl
@[go_sem] theorem m_ce:El.m Ce=3:=rfl
theorem Uj{c:Ce}:(⟨c.id,c.dim,c.sd⟩:Ce)=c:=rfl
@[go_sem high] theorem fold_ce {a b:Int} {s:List Sd}:gr (.cells [.int .i64 a,.int .i64 b,sl s] 58 (0,0)) 1 1=some (.new (ro 58 [(⟨a,b,s⟩:Ce)]) fun k=>gs k 1 [(⟨a,b,s⟩:Ce)]):=rfl
@[go_sem high] theorem fold_ce0:gr (.cells [] 58 (0,0)) 0 0=some (.new (ro 58 ([]:List Ce)) fun k=>gs k 0 ([]:List Ce)):=rfl
attribute [go_sem] Uj
def my(l:List Ce)(id:Int)(lo hi:Nat):Nat:=
 if h:lo<hi then(if(l.getD ((lo+hi)/2) default).id<id then my l id ((lo+hi)/2+1) hi else my l id lo ((lo+hi)/2))else lo
termination_by hi-lo
def ml(l:List Ce)(id:Int):Int:=if my l id 0 l.length<l.length/\(l.getD (my l id 0 l.length) default).id=id then(my l id 0 l.length:Nat)else -1
theorem Ml(l:List Ce)(id:Int)(hl:l.length<=1000000):Fn Tryz.prog 111 [sl l,.int .i64 id] (.ret (.int .i64 (ml l id))):=by
 refine ir Tryz.func111 Tryz.results111 (h:=?_);refine rs ?_;refine rs ?_;refine rs ?_;refine ak ?_;refine fo (fun x:Nat×Nat=>⟨an [(0,some (sl l)),(1,some (.int .i64 id)),(5,some (.int .i64 (x.1:Nat))),(6,some (.int .i64 (x.2:Nat)))],wd [] 0 [] 0,[]⟩) (fun x=>x.1<=x.2/\x.2<=l.length/\my l id x.1 x.2=my l id 0 l.length) (fun x=>x.2-x.1) (0,l.length) ⟨by omega,by omega,rfl⟩ (fun x hv h=>?_) (fun x hv h=>?_)
 ·obtain⟨i,j⟩:=x;obtain⟨h1,h2,h3⟩:=hv;simp only at h h1 h2 h3;rw[my,dif_pos (by omega)]at h3;refine aC ?_;refine rs ?_;refine rs ?_;refine cp (fun h4=>?_) (fun h4=>?_)
  ·rw[if_pos h4]at h3;refine rl ?_;exact nx ((i+j)/2+1,j) ⟨by omega,h2,h3⟩
  rw[if_neg h4]at h3;refine rl ?_;exact nx (i,(i+j)/2) ⟨by dsimp only;omega,by dsimp only;omega,h3⟩
 obtain⟨i,j⟩:=x;obtain⟨h1,h2,h3⟩:=hv;simp only at h h1 h2 h3;rw[my,dif_neg (by omega)]at h3;unfold ml;rw[<-h3];by_cases h4:i<l.length
 ·refine rS ?_;refine cp (fun h5=>?_) (fun h5=>?_)
  ·refine rs ?_;refine rt ?_;rw[if_pos ⟨h4,h5⟩]
  refine sk ?_;refine rs ?_;refine rt ?_;rw[if_neg (fun q=>h5 q.2)]
 refine rS ?_;refine cf ?_;refine sk ?_;refine rs ?_;refine rt ?_;rw[if_neg (fun q=>h4 q.1)]
def gS:List Ce->List Ce->List Ce
 |[],b=>b
 |x::a,[]=>x::a
 |x::a,y::b=>if y.id<x.id then y::gS (x::a) b else x::gS a (y::b)
termination_by a b=>a.length+b.length
theorem MT{a:List Ce}:gS a []=a:=by cases a<;>rw[gS]
theorem N7{a b:List Ce}(ha:0<a.length)(hb:0<b.length):gS a b=if(b.getD 0 default).id<(a.getD 0 default).id then b.getD 0 default::gS a (b.drop 1)else a.getD 0 default::gS (a.drop 1) b:=by
 cases a with
 |nil=>simp at ha
 |cons x a=>
  cases b with
  |nil=>simp at hb
  |cons y b=>rw[gS];rfl
theorem wJ:∀(n:Nat) (a b:List Ce),a.length+b.length<=n->(gS a b).length=a.length+b.length
 |n,[],b,_=>by rw[gS];simp
 |n,x::a,[],_=>by rw[gS];simp
 |0,x::a,y::b,h=>by simp at h
 |n+1,x::a,y::b,h=>by
  rw[gS];simp only[List.length_cons]at h;split
  ·rw[List.length_cons,wJ n _ _ (by simp only[List.length_cons];omega)];simp only[List.length_cons];omega
  rw[List.length_cons,wJ n _ _ (by simp only[List.length_cons];omega)];simp only[List.length_cons];omega
def ic:Nat->List Ce->List Ce
 |0,_=>[]
 |n+1,l=>if l.length=0 then[]else if l.length=1 then[⟨(l.getD 0 default).id,(l.getD 0 default).dim,cL (l.getD 0 default).sd []⟩]else gS (ic n (l.take (l.length/2))) (ic n (l.drop (l.length/2)))
def aK(l:List Ce):List Ce:=ic l.length l
theorem oD:∀(n m:Nat) (l:List Ce),l.length<=n->l.length<=m->ic n l=ic m l
 |0,0,_,_,_=>rfl
 |0,m+1,l,h,_=>by rw[ic,ic,if_pos (by omega)]
 |n+1,0,l,_,h=>by rw[ic,ic,if_pos (by omega)]
 |n+1,m+1,l,h1,h2=>by
  rw[ic,ic];split
  ·rfl
  split
  ·rfl
  rw[oD n m _ (by rw[Yk];omega) (by rw[Yk];omega),oD n m _ (by rw[Ym];omega) (by rw[Ym];omega)]
theorem vd{l:List Ce}(h0:l.length≠0)(h1:l.length≠1):gS (aK (l.take (l.length/2))) (aK (l.drop (l.length/2)))=aK l:=by
 obtain⟨n,hn⟩:∃n,l.length=n+1:=⟨l.length-1,by omega⟩;have e:aK l=ic (n+1) l:=by unfold aK;rw[hn]
 rw[e,ic,if_neg h0,if_neg h1];unfold aK;rw[oD _ n _ (Nat.le_refl _) (by rw[Yk];omega),oD _ n (l.drop _) (Nat.le_refl _) (by rw[Ym];omega)]
theorem gB:∀(n:Nat) (l:List Ce),l.length<=n->(aK l).length=l.length
 |0,l,h=>by
  have:l=[]:=Yx (by omega);subst this;rfl
 |n+1,l,h=>by
  by_cases h0:l.length=0
  ·have:l=[]:=Yx h0;subst this;rfl
  by_cases h1:l.length=1
  ·unfold aK;rw[h1,ic,if_neg h0,if_pos h1];rfl
  rw[<-vd h0 h1,wJ _ _ _ (Nat.le_refl _),gB n _ (by rw[Yk];omega),gB n _ (by rw[Ym];omega),Yk,Ym];omega
theorem kG:∀(n:Nat) (l:List Ce),l.length<=n->l.length<=1000000->(∀c∈l,c.sd.length<=1000000)->Fn Tryz.prog 74 [sl l] (.ret (sl (aK l)))
 |n,l,hn,hl,hs=>by
  refine ir Tryz.func74 Tryz.results74 (h:=?_);refine rs ?_;refine rS ?_;refine cp (fun h0=>?_) (fun h0=>?_)
  ·refine rs ?_;refine cv [(2,some (sl ([]:List Ce)))] [] 0 ?_;refine rt ?_;rw[Yx (l:=l) (by omega)];rfl
  refine sk ?_;refine rS ?_;refine cp (fun h1=>?_) (fun h1=>?_)
  ·refine Ia (b1 (BC (l.getD 0 default).sd (hs _ (bn (by omega))))) ?_;refine cv [(2,some (sl [(⟨(l.getD 0 default).id,(l.getD 0 default).dim,cL (l.getD 0 default).sd []⟩:Ce)]))] [] 9 ?_ (hl:=fz 0);refine rt ?_;unfold aK;rw[show l.length=0+1 by omega,ic,if_neg (by omega),if_pos (by omega)]
  refine sk ?_;obtain⟨n,rfl⟩:∃m,n=m+1:=⟨n-1,by omega⟩;refine rc (b1 (kG n (l.take (l.length/2)) (by rw[Yk];omega) (by rw[Yk];omega) (fun c hc=>hs c (ZJ hc)))) ?_;refine rc (b1 (kG n (l.drop (l.length/2)) (by rw[Ym];omega) (by rw[Ym];omega) (fun c hc=>hs c (List.mem_of_mem_drop hc)))) ?_;have e1:=gB _ (l.take (l.length/2)) (Nat.le_refl _);have e2:=gB _ (l.drop (l.length/2)) (Nat.le_refl _);have e3:=vd (l:=l) (by omega) (by omega);generalize aK (l.take (l.length/2))=A at e1 e3 ⊢;generalize aK (l.drop (l.length/2))=B at e2 e3 ⊢;rw[Yk]at e1;rw[Ym]at e2;refine rs ?_;refine ak (aC ?_);refine lp (fun x:List Ce×List Ce×List Ce=>⟨an [(3,some (sl x.1)),(4,some (sl x.2.1)),(5,some (gs 0 aq x.2.2))],wd [(0,some (ro 58 x.2.2))] 1 [] 0,[]⟩) (fun x=>x.2.2++gS x.1 x.2.1=aK l/\x.1.length+x.2.1.length+x.2.2.length=l.length) (fun x=>x.1.length+x.2.1.length) (A,B,[]) ⟨e3,by simp only[List.length_nil];omega⟩ (fun x hv=>?_);obtain⟨a,b,o⟩:=x;obtain⟨h3,h4⟩:=hv;simp only at h3 h4;by_cases h5:0<a.length/\0<b.length
  ·obtain⟨h5,h6⟩:=h5;refine rS ?_;refine ct ?_;refine ap (aC ?_);rw[N7 h5 h6]at h3;by_cases h7:(b.getD 0 default).id<(a.getD 0 default).id
   ·rw[if_pos h7]at h3;refine rd ?_;refine ct ?_;refine rs ?_;refine rl ?_;exact nx (a,b.drop 1,o++[b.getD 0 default]) ⟨by rw[YF];exact h3,by simp only[Yh,List.length_cons,List.length_nil,Ym];omega⟩ (by simp only[Ym];omega) (rn [(2,0)])
   rw[if_neg h7]at h3;refine rd ?_;refine cf ?_;refine rs ?_;refine rl ?_;exact nx (a.drop 1,b,o++[a.getD 0 default]) ⟨by rw[YF];exact h3,by simp only[Yh,List.length_cons,List.length_nil,Ym];omega⟩ (by simp only[Ym];omega) (rn [(2,0)])
  have key:o++a++b=aK l:=by
   rw[<-h3];by_cases h6:0<a.length
   ·rw[Yx (l:=b) (by omega),MT,List.append_nil]
   rw[Yx (l:=a) (by omega),gS,List.append_nil]
  by_cases h6:0<a.length<;>(
   refine rS ?_;refine cf ?_;refine xe ?_;refine rs ?_;refine cv [(2,some (sl (o++a++b)))] [] 9 ?_ (hl:=fz 2);refine rt ?_;rw[key])
abbrev kF(l:List Ce):Value:=.agg #[sl l]
theorem JY(l:List Ce)(hl:l.length<=1000000)(hs:∀c∈l,c.sd.length<=1000000):Fn Tryz.prog 45 [kF l] (.ret (kF (aK l))):=by
 refine ir Tryz.func45 Tryz.results45 (h:=?_);refine rs ?_;refine rc (b1 (kG _ l (Nat.le_refl _) hl hs)) ?_;refine rt ?_;rfl
def dw(l:List Ce):Nat->List Ce
 |0=>[]
 |i+1=>if i=0\/(l.getD i default).id≠(l.getD (i-1) default).id then dw l i++[l.getD i default]else dw l i
theorem ny(l:List Ce):∀i,(dw l i).length<=i
 |0=>Nat.le_refl _
 |i+1=>by
  have:=ny l i;unfold dw;split
  ·rw[Yh,YN];omega
  omega
def kY(l:List Ce):List Ce:=dw (aK l) (aK l).length
theorem JM(l:List Ce)(hl:l.length<=1000000)(hs:∀c∈l,c.sd.length<=1000000):Fn Tryz.prog 75 [kF l] (.ret (sl (kY l))):=by
 have ho:=gB _ l (Nat.le_refl _);unfold kY;refine ir Tryz.func75 Tryz.results75 (h:=?_);refine rs ?_;refine rc (b1 (kG _ l (Nat.le_refl _) hl hs)) ?_;generalize aK l=o at ho ⊢;refine rs ?_;refine rS ?_;refine fo (fun i:Nat=>⟨an [(3,some (sl o)),(4,some (gs 1 aq (dw o i))),(5,some (.int .i64 (i:Nat)))],wd [(1,some (ro 58 (dw o i)))] 2 [] 0,[]⟩) (fun i=>i<=o.length) (fun i=>o.length-i) 0 (Yq _) (fun i hv h=>?_) (fun i hv h=>?_)
 ·have hq:=ny o i;refine bs ?_;by_cases h0:i=0
  ·have e:dw o (i+1)=dw o i++[o.getD i default]:=if_pos (.inl h0);refine rd ?_;refine ct ?_;refine rl ?_;refine rl ?_;refine nx (i+1) (by omega) (by omega) ?_;rw[e];exact rn [(3,1)]
  by_cases h1:(o.getD i default).id≠(o.getD (i-1) default).id
  ·have e:dw o (i+1)=dw o i++[o.getD i default]:=if_pos (.inr h1);refine rd ?_;refine ct ?_;refine rl ?_;refine rl ?_;refine nx (i+1) (by omega) (by omega) ?_;rw[e];exact rn [(3,1)]
  have e:dw o (i+1)=dw o i:=if_neg (fun q=>q.elim h0 h1);refine rd ?_;refine cf ?_;refine ap (rl ?_);refine nx (i+1) (by omega) (by omega) ?_;rw[e];exact bg
 have hq:=ny o i;refine rs ?_;refine cv [(2,some (sl (dw o i)))] [] 9 ?_ (hl:=fz 1);refine rt ?_;rw[show i=o.length by omega]
abbrev jR(c:Ce):Value:=.agg #[.int .i64 c.id,.int .i64 c.dim,sl c.sd]
theorem rL{l:List Ce}{id:Int}:ml l id=-1\/∃m:Nat,m<l.length/\ml l id=m:=by
 unfold ml;split
 ·rename_i h;exact .inr ⟨_,h.1,rfl⟩
 exact .inl rfl
def lV(l:List Ce)(x:Ce)(i:Nat):Prop:=ml l (x.sd.getD i default).1<0\/(l.getD (ml l (x.sd.getD i default).1).toNat default).dim≠x.dim-1\/(0<i/\(x.sd.getD i default).1=(x.sd.getD (i-1) default).1)
def g8(x:Ce)(i:Nat):Prop:=(x.sd.getD i default).2≠1/\(x.sd.getD i default).2≠-1
def tY(x:Ce):Prop:=(x.dim=0/\0<x.sd.length)\/(x.dim=1/\x.sd.length≠2)\/(1<x.dim/\(x.sd.length<2\/64<x.sd.length))
open Classical in
noncomputable def dt(l:List Ce)(x:Ce):Int:=
 if x.dim<0\/8<x.dim then 21 else if tY x then 22 else if ∃i,i<x.sd.length/\lV l x i then 22 else if ∃i,i<x.sd.length/\g8 x i then 23 else if x.dim=1/\(x.sd.getD 0 default).2=(x.sd.getD 1 default).2 then 23 else 0
set_option maxHeartbeats 4000000 in
theorem Kt(l:List Ce)(x:Ce)(hl:l.length<=1000000)(hx:x.sd.length<=1000000):Fn Tryz.prog 76 [sl l,jR x] (.ret (.int .i64 (dt l x))):=by
 refine ir Tryz.func76 Tryz.results76 (h:=?_);refine rs ?_;by_cases hd:x.dim<0\/8<x.dim
 ·by_cases h1:x.dim<0<;>(
   refine rS ?_;refine ct ?_;refine rs ?_;refine rt ?_;rw[dt,if_pos hd];rfl)
 refine rS ?_;refine cf ?_;refine sk (rs ?_);by_cases hs:tY x
 ·have hs':=hs;unfold tY at hs;by_cases a:x.dim=0<;>by_cases b:x.dim=1<;>by_cases c:x.sd.length<2<;>first|(exfalso;omega)|(
   refine rS ?_;refine ct ?_;refine rs ?_;refine rt ?_;rw[dt,if_neg hd,if_pos hs'];rfl)
 have hs':=hs;unfold tY at hs;refine G0 ?_ ?_
 ·by_cases a:x.dim=0<;>by_cases b:x.dim=1<;>first|(exfalso;omega)|(
   refine rs ?_;refine cf ?_;exact ap bg)
 refine rS ?_;refine fo (fun i:Nat=>⟨an [(0,some (sl l)),(3,some (.pointer (some ⟨0,0,none⟩))),(5,some (.int .i64 (x.sd.length:Nat))),(6,some (.int .i64 (i:Nat)))],wd [(0,some (.cells [.int .i64 x.id,.int .i64 x.dim,sl x.sd] 58 (0,0)))] 1 [] 0,[]⟩) (fun i=>i<=x.sd.length/\∀j,j<i->¬lV l x j) (fun i=>x.sd.length-i) 0 ⟨Yq _,fun j h=>absurd h (YI j)⟩ (fun i hv h=>?_) (fun i hv h=>?_)
 ·refine bs ?_;refine rc (b1 (Ml l (x.sd.getD i default).1 hl)) ?_;by_cases hb:lV l x i
  ·have hb':=hb;unfold lV at hb;have hz:=rL (l:=l) (id:=(x.sd.getD i default).1);have e:dt l x=22:=by rw[dt,if_neg hd,if_neg hs',if_pos ⟨i,by omega,hb'⟩]
   generalize ml l (x.sd.getD i default).1=z at hz hb ⊢;rcases hz with rfl|⟨m,hm,rfl⟩
   ·refine rd ?_;refine ct ?_;refine rs ?_;refine rt ?_;rw[e];rfl
   rw[Yt]at hb;by_cases h1:(l.getD m default).dim≠x.dim-1
   ·refine rd ?_;refine ct ?_;refine rs ?_;refine rt ?_;rw[e];rfl
   have h2:0<i:=by omega
   have h3:(x.sd.getD i default).1=(x.sd.getD (i-1) default).1:=by omega
   refine rd ?_;refine ct ?_;refine rs ?_;refine rt ?_;rw[e];rfl
  have hb':=hb;unfold lV at hb;have hz:=rL (l:=l) (id:=(x.sd.getD i default).1);generalize ml l (x.sd.getD i default).1=z at hz hb ⊢;obtain rfl|⟨m,hm,rfl⟩:=hz
  ·exfalso;omega
  rw[Yt]at hb;by_cases h2:0<i<;>(
   refine rd ?_;refine cf ?_;refine ap (rl ?_);exact nx (i+1) ⟨by omega,fun j hj=>by
    by_cases e:j=i
    ·subst e;exact hb'
    exact hv.2 j (by omega)⟩)
 have h1:¬∃i,i<x.sd.length/\lV l x i:=fun⟨j,q1,q2⟩=>hv.2 j (by omega) q2
 refine rS ?_;refine fo (fun i:Nat=>⟨an [(0,some (sl l)),(3,some (.pointer (some ⟨0,0,none⟩))),(5,some (.int .i64 (x.sd.length:Nat))),(8,some (.int .i64 (i:Nat)))],wd [(0,some (.cells [.int .i64 x.id,.int .i64 x.dim,sl x.sd] 58 (0,0)))] 1 [] 0,[]⟩) (fun i=>i<=x.sd.length/\∀j,j<i->¬g8 x j) (fun i=>x.sd.length-i) 0 ⟨Yq _,fun j h=>absurd h (YI j)⟩ (fun i hv h=>?_) (fun i hv h=>?_)
 ·refine bs ?_;by_cases hb:g8 x i
  ·have e:dt l x=23:=by rw[dt,if_neg hd,if_neg hs',if_neg h1,if_pos ⟨i,by omega,hb⟩]
   unfold g8 at hb;refine rs ?_;refine ct ?_;refine rs ?_;refine rt ?_;rw[e];rfl
  have hb':=hb;unfold g8 at hb;by_cases h2:(x.sd.getD i default).2=1<;>(
   refine rs ?_;refine cf ?_;refine ap (rl ?_);exact nx (i+1) ⟨by omega,fun j hj=>by
    by_cases e:j=i
    ·subst e;exact hb'
    exact hv.2 j (by omega)⟩)
 have h2:¬∃i,i<x.sd.length/\g8 x i:=fun⟨j,q1,q2⟩=>hv.2 j (by omega) q2
 by_cases h3:x.dim=1
 ·by_cases h4:(x.sd.getD 0 default).2=(x.sd.getD 1 default).2
  ·refine rD ?_;refine ct ?_;refine rs ?_;refine rt ?_;rw[dt,if_neg hd,if_neg hs',if_neg h1,if_neg h2,if_pos ⟨h3,h4⟩];rfl
  refine rD ?_;refine cf ?_;refine sk (rs ?_);refine rt ?_;rw[dt,if_neg hd,if_neg hs',if_neg h1,if_neg h2,if_neg (fun q=>h4 q.2)];rfl
 refine rD ?_;refine cf ?_;refine sk (rs ?_);refine rt ?_;rw[dt,if_neg hd,if_neg hs',if_neg h1,if_neg h2,if_neg (fun q=>h3 q.1)];rfl
end Go.Proofs.YthlkgmdkabelpaaGreat.X
