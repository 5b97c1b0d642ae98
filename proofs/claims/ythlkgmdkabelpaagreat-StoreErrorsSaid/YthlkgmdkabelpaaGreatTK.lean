/-
  Packed by program (tools/pack.py) out of the texts MW MW2 MW3 L14 L15 L16 MW4 L17. No condition.
-/
import Derived.Test.YthlkgmdkabelpaaGreatTJ
import Derived.Test.YthlkgmdkabelpaaGreatTV
import Derived.Test.YthlkgmdkabelpaaGreatTT
import Derived.Test.YthlkgmdkabelpaaGreatTF
set_option linter.all false
namespace Go.Proofs.YthlkgmdkabelpaaGreat.X
open Go Go.RowKit Go.Proofs.YthlkgmdkabelpaaGreat.St
instance:El UInt8:=⟨fun b=>[.int .u8 b.toNat],1,fun _=>rfl,fun _=>rfl,fun _=>inferInstance⟩
theorem F0:∀l:List UInt8,l.flatMap El.enc=ao l
 |[]=>rfl
 |b::l=>by rw[YB,F0 l];rfl
@[go_sem] theorem m_u8:El.m UInt8=1:=rfl
abbrev bX(l:List UInt8):ag:=ro 5 l
def wo(a:Bool)(w b:Nat)(l:List UInt8):ag:=.cells [if a then .pointer (some ⟨w,0,none⟩)else .pointer none,gs b aq l] 84 (0,0)
theorem HE{a:Bool}{w b b':Nat}{l:List UInt8}(h:wo a w b l=wo a w b' l):b=b':=by
 unfold wo gs at h;injection h with h;injection h with _ h;injection h with h _;injection h with h;injection h with h;injection h with h _
theorem s7{P:Program}{a:Bool}{w w' b b':Nat}{l:List UInt8}{θ:Nat->Option Nat}(h1:θ w=some w')(h2:θ b=some b'):TO P (aL θ) (wo a w b l) (wo a w' b' l):=by
 unfold wo;cases a with
 |true=>exact cg (au (bN h1) (au (fR h2 rfl) aR))
 |false=>exact cg (au ((inferInstance:Br (.pointer none)).h _ aj) (au (fR h2 rfl) aR))
def Yf(o:Option ag)(a:Bool)(l:List UInt8):XW:=match o with
 |some o=>wd [(0,some (wo a 0 1 l)),(1,some (bX l)),(2,some o)] 3 [] 0
 |none=>wd [(0,some (wo a 0 1 l)),(1,some (bX l))] 2 [] 0
def Wy(v:Value)(l':List UInt8)(e:aZ)(W':XW):Prop:=e=.ret v/\∃b',3<=b'/\W'.get 0=some (wo true 0 b' l')/\W'.get b'=some (bX l')
structure Fb(f:FuncId)(xs:Nat->List Value)(o:Option ag)(a:Bool)(l:List UInt8)(v:Value)(l':List UInt8):Prop where
 en:cT Tryz.prog f
 ba:∀(θ:Nat->Option Nat) (r:Nat),(o≠none->θ r=some 2)->is (aL θ) (xs r) (xs 2)
 bo:∀o',o=some o'->gJ Tryz.prog o'
 bv:dH v
 lo:aT Tryz.prog f (.pointer (some ⟨0,0,none⟩)::xs 2) (Yf o a l) (Wy v l')
def MH(xs:Nat->List Value)(o:Option ag)(a:Bool)(l:List UInt8)(W:XW)(A:List Value)(w r b:Nat):Prop:=A=.pointer (some ⟨w,0,none⟩)::xs r/\W.get w=some (wo a w b l)/\W.get b=some (bX l)/\w≠b/\∀o',o=some o'->W.get r=some o'/\r≠w/\r≠b
def ou(W:XW)(r:Nat):Option ag->XW
 |some _=>W.put r none
 |none=>W
theorem uY{W:XW}{r:Nat}{o:Option ag}:(ou W r o).next=W.next:=by cases o<;>rfl
theorem PF{W:XW}{r:Nat}{o:Option ag}:bu W (ou W r o):=by
 cases o with
 |none=>exact .refl _
 |some _=>exact .put _ _ _
open Classical in
noncomputable def yK(xs:Nat->List Value)(o:Option ag)(a:Bool)(l:List UInt8)(v:Value)(l':List UInt8):HF:=fun A W=>if h:∃q:Nat×Nat×Nat,MH xs o a l W A q.1 q.2.1 q.2.2 then some (.ret v,(((ou W h.choose.2.1 o).put h.choose.2.2 none).push (bX l')).put h.choose.1 (some (wo true h.choose.1 W.next l')))else none
theorem Dl{w w':Nat}{r r':List Value}(h:Value.pointer (some ⟨w,0,none⟩)::r=.pointer (some ⟨w',0,none⟩)::r'):w=w':=by
 injection h with h1 h2;injection h1 with h1;injection h1 with h1;injection h1 with h1 _
theorem vH{xs:Nat->List Value}{o:Option ag}{a:Bool}{l l':List UInt8}{v:Value}{W:XW}{A:List Value}(w r b:Nat)(h:MH xs o a l W A w r b)(hi:o≠none->∀r r',xs r=xs r'->r=r'):yK xs o a l v l' A W=some (.ret v,(((ou W r o).put b none).push (bX l')).put w (some (wo true w W.next l'))):=by
 have hx:∃q:Nat×Nat×Nat,MH xs o a l W A q.1 q.2.1 q.2.2:=⟨(w,r,b),h⟩;have hs:=hx.choose_spec;unfold yK;rw[dif_pos hx];generalize hx.choose=q at hs ⊢;obtain⟨w',r',b'⟩:=q;simp only at hs ⊢;have h1:=hs.1;rw[h.1]at h1;have e1:w=w':=Dl h1;subst e1;have h2:=hs.2.1;rw[h.2.1]at h2;have e2:b=b':=HE (Option.some.inj h2);subst e2;have e3:ou W r' o=ou W r o:=by
  cases o with
  |none=>rfl
  |some o'=>
   injection h1 with _ h1;rw[hi (by simp) _ _ h1]
 rw[e3]
theorem lq{f:FuncId}{xs:Nat->List Value}{o:Option ag}{a:Bool}{l l':List UInt8}{v:Value}(h:Fb f xs o a l v l'):bQ Tryz.prog f (yK xs o a l v l'):=by
 have key:∀A W e' W',yK xs o a l v l' A W=some (e',W')->∃w r b,MH xs o a l W A w r b/\e'=.ret v/\W'=(((ou W r o).put b none).push (bX l')).put w (some (wo true w W.next l')):=fun A W e' W' q=>by
  unfold yK at q;split at q
  ·rename_i hx;cases q;exact⟨_,_,_,hx.choose_spec,rfl,rfl⟩
  cases q
 refine⟨h.en,fun A W e' W' q=>?_,fun A W e' W' q=>?_⟩
 ·obtain⟨w,r,b,_,_,rfl⟩:=key _ _ _ _ q;exact((PF.trans (bu.put _ _ _)).trans (bu.push _ _)).trans (bu.put _ _ _)
 obtain⟨w,r,b,⟨rfl,hw,hr,hwb,ho⟩,rfl,rfl⟩:=key _ _ _ _ q;have hwn:=aM hw;have hbn:=aM hr;have out:∀k,2<=k->k<=3->(k=3->o≠none)->∀eL WL',Wy v l' eL WL'->∃θ,EP Tryz.prog (fun m=>if m=0 then w else if m=1 then b else r) k W θ eL WL' (.ret v) ((((ou W r o).put b none).push (bX l')).put w (some (wo true w W.next l'))):=fun k hk hk3 hko eL WL' hS=>by
  obtain⟨rfl,b',hb2,g0,g1⟩:=hS;have s0:(fun m=>if m=0 then some w else if m=b' then some W.next else(none:Option Nat)) 0=some w:=if_pos rfl;have s1:(fun m=>if m=0 then some w else if m=b' then some W.next else(none:Option Nat)) b'=some W.next:=by simp only[if_neg (show ¬b'=0 by omega),if_pos]
  refine⟨fun m=>if m=0 then some w else if m=b' then some W.next else none,fun m x h=>?_,fun m m' x h h'=>?_,fun x o' h=>?_,h.bv _ aj,by show W.next<=(ou W r o).next+1;rw[uY];omega⟩
  ·split at h
   ·rename_i q;cases h;exact .inl ⟨by omega,by simp[q]⟩
   split at h
   ·rename_i q;cases h;exact .inr ⟨by omega,Nat.le_refl _,by show W.next<(ou W r o).next+1;rw[uY];omega⟩
   cases h
  ·split at h
   ·split at h'
    ·omega
    split at h'
    ·cases h;cases h';omega
    cases h'
   split at h
   ·split at h'
    ·cases h;cases h';omega
    split at h'
    ·omega
    cases h'
   cases h
  rcases XW.get_put h with⟨rfl,q⟩|⟨q1,q2⟩
  ·cases q;exact .inl ⟨0,_,s0,g0,s7 s0 s1⟩
  rcases XW.get_push q2 with⟨e1,e2⟩|⟨e1,e2⟩
  ·subst e2;exact .inl ⟨b',_,by rw[e1];show _=some (ou W r o).next;rw[uY];exact s1,g1,bd aj (aF b7.h)⟩
  rcases XW.get_put e2 with⟨_,z⟩|⟨z1,z2⟩
  ·cases z
  have z3:W.get x=some o'/\(o≠none->r≠x):=by
   cases o with
   |none=>exact⟨z2,fun q=>absurd rfl q⟩
   |some o2=>
    rcases XW.get_put z2 with⟨_,z⟩|⟨y1,y2⟩
    ·cases z
    exact⟨y2,fun _ e=>y1 e.symm⟩
  refine .inr ⟨z3.1,aM z3.1,fun m hm=>?_⟩;split
  ·exact fun z=>q1 z.symm
  split
  ·exact fun z=>z1 z.symm
  exact fun z=>z3.2 (hko (by omega)) z
 have t0:(fun n=>if n=w then some 0 else if n=b then some 1 else if n=r/\o≠none then some 2 else(none:Option Nat)) w=some 0:=if_pos rfl;have t1:(fun n=>if n=w then some 0 else if n=b then some 1 else if n=r/\o≠none then some 2 else(none:Option Nat)) b=some 1:=by simp only[if_neg (Ne.symm hwb),if_pos]
 have t2:o≠none->(fun n=>if n=w then some 0 else if n=b then some 1 else if n=r/\o≠none then some 2 else(none:Option Nat)) r=some 2:=fun q=>by
  cases o with
  |none=>exact absurd rfl q
  |some o'=>
   obtain⟨_,k1,k2⟩:=ho o' rfl;simp[k1,k2]
 have hlo:=h.lo;have hbo:=h.bo;have hba:=h.ba (fun n=>if n=w then some 0 else if n=b then some 1 else if n=r/\o≠none then some 2 else(none:Option Nat)) r t2;cases o with
 |none=>
  refine jq (k:=2) (fun m=>if m=0 then w else if m=1 then b else r) _ rfl (fun m m' h h' e=>?_) (fun m h=>?_) (fun n m h=>?_) (fun m oL h=>?_) (au (bN t0) hba) hlo (out 2 (by decide) (by decide) (fun q=>by omega))
  ·have:m=0\/m=1:=by omega
   have:m'=0\/m'=1:=by omega
   rcases ‹m=0\/m=1› with rfl|rfl<;>rcases ‹m'=0\/m'=1› with rfl|rfl<;>first|rfl|(exfalso;simp at e;omega)
  ·have:m=0\/m=1:=by omega
   rcases this with rfl|rfl<;>simp<;>omega
  ·split at h
   ·rename_i q;cases h;exact⟨by decide,q.symm⟩
   split at h
   ·rename_i q;cases h;exact⟨by decide,q.symm⟩
   split at h
   ·rename_i q;exact absurd q.2 (by simp)
   cases h
  have hm:m<2:=aM h;obtain⟨_,h2⟩:=cq h;have:m=0\/m=1:=by omega
  rcases this with rfl|rfl
  ·rw[ab]at h2;cases h2;exact⟨by decide,_,hw,s7 t0 t1⟩
  rw[aa (by decide),ab]at h2;cases h2;exact⟨by decide,_,hr,bd aj (aF b7.h)⟩
 |some o'=>
  obtain⟨k0,k1,k2⟩:=ho o' rfl;have hrn:=aM k0;refine jq (k:=3) (fun m=>if m=0 then w else if m=1 then b else r) _ rfl (fun m m' h h' e=>?_) (fun m h=>?_) (fun n m h=>?_) (fun m oL h=>?_) (au (bN t0) hba) hlo (out 3 (by decide) (by decide) (fun q=>by simp))
  ·have:m=0\/m=1\/m=2:=by omega
   have:m'=0\/m'=1\/m'=2:=by omega
   rcases ‹m=0\/m=1\/m=2› with rfl|rfl|rfl<;>rcases ‹m'=0\/m'=1\/m'=2› with rfl|rfl|rfl<;>first|rfl|(exfalso;simp at e;omega)
  ·have:m=0\/m=1\/m=2:=by omega
   rcases this with rfl|rfl|rfl<;>simp<;>omega
  ·split at h
   ·rename_i q;cases h;exact⟨by decide,q.symm⟩
   split at h
   ·rename_i q;cases h;exact⟨by decide,q.symm⟩
   split at h
   ·rename_i q;cases h;exact⟨by decide,q.1.symm⟩
   cases h
  have hm:m<3:=aM h;obtain⟨_,h2⟩:=cq h;have:m=0\/m=1\/m=2:=by omega
  rcases this with rfl|rfl|rfl
  ·rw[ab]at h2;cases h2;exact⟨by decide,_,hw,s7 t0 t1⟩
  ·rw[aa (by decide),ab]at h2;cases h2;exact⟨by decide,_,hr,bd aj (aF b7.h)⟩
  rw[aa (by decide),aa (by decide),ab]at h2;cases h2;exact⟨by decide,_,k0,hbo _ rfl _ aj⟩
theorem Di{W:XW}{n b:Nat}{l:List UInt8}(h:W.get n=some (wo true n b l)):Dr [.pointer (some ⟨n,0,none⟩)] W=some (.ret (.tuple #[]),W):=by
 unfold Dr xL jp;simp only;rw[h];show(match(bif Nat.beq n n&&Nat.beq 0 0 then some (Value.tuple #[],W)else none:Option (Value×XW))with|some (v,W')=>some (aZ.ret v,W')|none=>none)=_;rw[YC,YC];rfl
theorem Sf{l:List UInt8}:Dr [.pointer (some ⟨0,0,none⟩)] (wd [(0,some (wo false 0 1 l)),(1,some (bX l))] 2 [] 0)=some (.ret (.tuple #[]),wd [(0,some (wo true 0 1 l)),(0,some (wo false 0 1 l)),(1,some (bX l))] 2 [0] 1):=by kernel_rfl
theorem pa{P:Program}[hM:kJ P]{N k:Nat}{s s':XS}{Q:XQ}{id:Nat}{ops:Array Oper}{H:cC}{p:Prop}(f:p)(b:dX P H)(q:Q .norm s')(h:p->fE P (cd P H 1) N none ops ops.toList s=some (.code .norm s'):=by intro hf;simp(disch:=first|decide|omega|(simp only[Yh,List.length_cons,List.length_nil,Yk,Ym,Yo]<;>omega)|(simp(disch:=decide) only[ae,ab,aa,ci.eq_1];done)) only[hf,pb,bc,iy,gw,kZ,go_sem]<;>with_reducible rfl):ay P N k (.region id ops false) s Q:=aE b (h f) q
theorem Oy{n:Nat}(h:n<256):gr (.cells [.int .u8 (n:Nat)] 5 (0,0)) 1 1=some (.new (bX [UInt8.ofNat n]) fun k=>gs k 1 [UInt8.ofNat n]):=by
 have e:bX [UInt8.ofNat n]=.cells [.int .u8 (n:Nat)] 5 (0,0):=by show ag.cells [Value.int .u8 ((UInt8.ofNat n).toNat:Nat)] _ _=_;rw[show(UInt8.ofNat n).toNat=n from by simp;omega]
 rw[e];rfl
attribute [go_sem high] Oy
theorem MA(a:Bool)(l:List UInt8)(n:Nat)(hn:n<256)(hl:l.length<1000000000000):Fb 69 (fun _=>[.int .u8 (n:Nat)]) none a l .nilIface (l++[UInt8.ofNat n]):=by
 refine⟨enters_of (by kernel_rfl),fun θ r _=>(inferInstance:b7 [Value.int .u8 (n:Nat)]).h _ aj,fun o h=>(by cases h),(inferInstance:Br .nilIface).h,?_⟩;show aT _ _ _ (wd [(0,some (wo a 0 1 l)),(1,some (bX l))] 2 [] 0) _;refine low Tryz.func69 Tryz.results69 (h:=?_);refine rs ?_;refine jP ⟨an [(0,some (.pointer (some ⟨0,0,none⟩))),(1,some (.int .u8 (n:Nat))),(4,some .nilIface)],wd [(0,some (wo true 0 1 l)),(1,some (bX l))] 2 [] 0,[]⟩ ?_ ?_
 ·cases a with
  |true=>
   have hg:=Di (W:=wd [(0,some (wo true 0 1 l)),(1,some (bX l))] 2 [] 0) (n:=0) (b:=1) (l:=l) (by simp(disch:=decide) only[ae,ab,aa]);refine pa hg (bh An) ?_;exact bg
  |false=>
   refine pa (Sf (l:=l)) (bh An) ?_;exact bg
 refine cv [(0,some (.pointer (some ⟨0,0,none⟩))),(1,some (.int .u8 (n:Nat))),(4,some .nilIface)] [(0,some (.cells [.pointer (some ⟨0,0,none⟩),gs 1 aq l] 84 (0,0))),(1,some (bX l))] 2 ?_;refine rs ?_;refine rs ?_;refine rt ?_;exact⟨rfl,3,by decide,by simp(disch:=decide) only[ae,ab,aa];rfl,by simp(disch:=decide) only[ae,ab,aa]⟩
section
variable {P:Program} {k:Nat} {F F':List (Nat×Option Value)} {L L':List (Nat×Option ag)} {n n' nl nl':Nat} {lg lg':List Nat}
theorem yL(R:List (Nat×Nat)){R1 R2:List (Nat×Option Nat)}(e1:R.map (fun p=>(p.1,some p.2))=R1:=by simp only[YM,Y9]<;>rfl)(e2:R.map (fun p=>(p.2,some p.1))=R2:=by simp only[YM,Y9]<;>rfl)
 (hR:jZ k n' R2 R1=true:=by decide) (hRi:∀p∈R2,p.1<n':=by decide) (hk:k<=n':=by decide)
 (hF:cY (aL (lk R1)) F F':=by
  try dsimp only
  repeat' (first|exact dx|refine bS (by decide) (by repeat (first|exact ab|refine Eq.trans (aa (by decide)) ?_)) (by first|exact fR (by decide) (by first|rfl|simp)|exact tv_gv (by decide) (by first|rfl|simp)|exact ca (by decide)|exact bN (by decide)|exact cz (by decide)|exact Br.h _ aj) ?_))
 (hL:fT P (aL (lk R1)) R1 n L L':=by
  try dsimp only
  repeat' (first|exact gT|exact ln|refine px (by first|exact ab|exact ah ab (by decide)|exact ah (ah ab (by decide)) (by decide)|exact ah (ah (ah ab (by decide)) (by decide)) (by decide)|exact ah (ah (ah (ah ab (by decide)) (by decide)) (by decide)) (by decide)|exact ah (ah (ah (ah (ah ab (by decide)) (by decide)) (by decide)) (by decide)) (by decide)|exact ah (ah (ah (ah (ah (ah ab (by decide)) (by decide)) (by decide)) (by decide)) (by decide)) (by decide)) (by first|decide|omega) (by decide) (by repeat (first|exact ab|refine Eq.trans (aa (by decide)) ?_)) (by first|exact bd aj (aF b7.h)|with_reducible exact bd aj lA.h|exact s7 (by decide) (by decide)|exact jF (by decide)|exact iw .nil|(refine cg ?_;repeat (first|exact aR|refine au (by first|exact AW|exact fR (by decide) (by first|rfl|simp)|exact tv_gv (by decide) (by first|rfl|simp)|exact ca (by decide)|exact bN (by decide)|exact cz (by decide)|exact Br.h _ aj) ?_))) ?_)) :
 aX P k ⟨an F,wd L n lg nl,[]⟩ ⟨an F',wd L' n' lg' nl',[]⟩:=fA R1 R2 hR hRi hk hF hL .nil
end
theorem KH{a b c:Nat}(ha:a<2^64)(hb:b<2^64)(hc:a ||| b=c)(hc2:c<2^63):pG .or .i64 (a:Int) (b:Int)=(c:Int):=by
 unfold pG;simp only;rw[yx,yx,BitVec.toNat_or,Zk,Zk,show a%2^IntKind.i64.bits=a from Nat.mod_eq_of_lt ha,show b%2^IntKind.i64.bits=b from Nat.mod_eq_of_lt hb,hc];exact wrap_i64 (by omega) (by omega)
theorem Ly{P:Program}{W:XW}{b n:Nat}{k:IntKind}{pe:TypeId}:vc P W (.pointer (some ⟨b,0,none⟩)) (.int k ((n+1:Nat):Int)) (some (.pointer pe))=x5 P W b (n+1) pe (W.get b):=rfl
theorem MR{P:Program}{W:XW}{b n:Nat}{pe:TypeId}{c:List Value}{e:TypeId}{fr:Nat×Nat}:x5 P W b n pe (some (.cells c e fr))=bif Nat.ble n c.length&&Nat.beq e pe&&Nat.beq fr.1 0&&Nat.beq (P.cellsOf pe) 1&&Nat.ble n 1099511627776 then wK W b n c e fr (dU (c.take n))else none:=rfl
theorem NV{W:XW}{b n:Nat}{c:List Value}{e:TypeId}{fr:Nat×Nat}{l:List UInt8}:wK W b n c e fr (some l)=some (.mod (.string (str l)) (W.put b (some (.cells c e (0,Nat.max fr.2 n))))):=rfl
theorem Q1:Tryz.prog.cellsOf 5=1:=by kernel_rfl
def jK(ns:List Int):List UInt8:=ns.flatMap fun n=>bK n.toNat
def zi(f a:Bool)(l:List UInt8)(o:ag):List (Nat×Option ag):=bif f then[(0,some (wo true 0 3 l)),(3,some (bX l)),(2,some o)]else[(0,some (wo a 0 1 l)),(1,some (bX l)),(2,some o)]
def Us(f a:Bool):Bool:=bif f then true else a
def Wv(f:Bool):Nat:=bif f then 3 else 1
theorem Jv{f a:Bool}{l:List UInt8}{o:ag}{n:Nat}:yK (fun _=>[.int .u8 (n:Nat)]) none (Us f a) l .nilIface (l++[UInt8.ofNat n]) [.pointer (some ⟨0,0,none⟩),.int .u8 (n:Nat)] (wd (zi f a l o) 4 [] 0)=some (.ret .nilIface,wd ((0,some (wo true 0 4 (l++[UInt8.ofNat n])))::(4,some (bX (l++[UInt8.ofNat n])))::(Wv f,none)::zi f a l o) 5 [0,Wv f] 2):=by
 cases f with
 |true=>exact(vH 0 0 3 ⟨rfl,(ae (by decide) (by decide)).trans ab,(ae (by decide) (by decide)).trans ((aa (by decide)).trans ab),by decide,fun o' q=>by cases q⟩ (fun q=>absurd rfl q)).trans (by simp only[ou.eq_2,jS,fx];rfl)
 |false=>exact(vH 0 0 1 ⟨rfl,(ae (by decide) (by decide)).trans ab,(ae (by decide) (by decide)).trans ((aa (by decide)).trans ab),by decide,fun o' q=>by cases q⟩ (fun q=>absurd rfl q)).trans (by simp only[ou.eq_2,jS,fx];rfl)
set_option maxHeartbeats 2000000 in
theorem wC(a:Bool)(l0:List UInt8)(ns:List Int)(c:Nat)(h0:∀n∈ns,0<=n/\n<9223372036854775808)(hns:ns.length<=1000000)(hne:0<ns.length)(hl0:l0.length<900000000000):Fb 34 (fun r=>[gs r c ns]) (some (ro 3 ns)) a l0 (.tuple #[]) (l0++jK ns):=by
 refine⟨enters_of (by kernel_rfl),fun θ r h=>au (fR (h (by simp)) rfl) aR,fun o h=>(by cases h;exact aF b7.h),(inferInstance:Br (.tuple #[])).h,?_⟩;show aT _ _ _ (wd [(0,some (wo a 0 1 l0)),(1,some (bX l0)),(2,some (ro 3 ns))] 3 [] 0) _;refine low Tryz.func34 Tryz.results34 (h:=?_);show ay _ _ 3 _ _ _;refine rs ?_;refine fr (fun x:Nat×Bool×List UInt8=>⟨an [(0,some (.pointer (some ⟨0,0,none⟩))),(6,some (gs 2 c ns)),(7,some (.int .i64 (ns.length:Nat))),(8,some (.int .i64 (x.1:Nat)))],wd (zi x.2.1 a x.2.2 (ro 3 ns)) 4 [] 0,[]⟩)
  (fun x=>x.1<=ns.length/\(0<x.1->x.2.1=true)/\x.2.2.length<=l0.length+10*x.1/\x.2.2++jK (ns.drop x.1)=l0++jK ns) (fun x=>ns.length-x.1) (0,false,l0) ⟨Yq _,fun h=>absurd h (Nat.lt_irrefl _),Nat.le_refl _,rfl⟩ (fun x hv h=>?_) (fun x hv h=>?_) (h0:=by
   show aX _ _ _ ⟨an [(0,some (.pointer (some ⟨0,0,none⟩))),(6,some (gs 2 c ns)),(7,some (.int .i64 (ns.length:Nat))),(8,some (.int .i64 ((0:Nat):Int)))],wd [(0,some (wo a 0 1 l0)),(1,some (bX l0)),(2,some (ro 3 ns))] 4 [] 0,[]⟩;exact bg)
 ·obtain⟨i,f,acc⟩:=x;obtain⟨hi,hf,hle,heq⟩:=hv;simp only at h hi hf hle heq;have hb:=h0 _ (bn (l:=ns) (i:=i) (by omega));rw[ei (by omega)]at heq;generalize hn0:ns.getD i default=n0 at hb heq;obtain⟨n0,rfl⟩:∃a:Nat,n0=a:=⟨n0.toNat,by omega⟩;have hnx:jK ((n0:Int)::ns.drop (i+1))=bK n0++jK (ns.drop (i+1)):=rfl;rw[hnx]at heq;have h10:=da (n:=n0) (by omega);have hcl:ci ((wd (zi f a acc (ro 3 ns)) 4 [] 0).get 2)=some (ns.flatMap El.enc):=by cases f<;>simp(disch:=decide) only[zi,cond_true,cond_false,ae,ab,aa]<;>rfl
  have hg2:(wd (zi f a acc (ro 3 ns)) 4 [] 0).get 2=some (ro 3 ns):=by cases f<;>simp(disch:=decide) only[zi,cond_true,cond_false,ae,ab,aa]
  refine bs (rf (And.intro hn0 hg2) ?_);refine ak ?_;refine fo (fun y:Nat×Bool×List UInt8=>⟨an [(0,some (.pointer (some ⟨0,0,none⟩))),(5,some (.int .i64 (y.1:Nat))),(6,some (gs 2 c ns)),(7,some (.int .i64 (ns.length:Nat))),(8,some (.int .i64 (i:Nat)))],wd (zi y.2.1 a y.2.2 (ro 3 ns)) 4 [] 0,[]⟩)
   (fun y=>y.1<9223372036854775808/\y.2.2++bK y.1=acc++bK n0) (fun y=>y.1) (n0,f,acc) ⟨by dsimp only;omega,rfl⟩ (fun y hv h=>?_) (fun y hv h=>?_) (h0:=by cases f<;>exact bg)
  ·obtain⟨n,g,ac⟩:=y;obtain⟨hn,he⟩:=hv;simp only at h hn he;have hl:=congrArg List.length he;rw[Yh,Yh]at hl;have hor:pG .or .i64 ((n%128:Nat):Int) ((128:Nat):Int)=((n%128+128:Nat):Int):=KH (by omega) (by decide) (by rw[show(128:Nat)=1*2^7 from rfl,Rh (by omega)]) (by omega);have hgo:=Jv (f:=g) (a:=a) (l:=ac) (o:=ro 3 ns) (n:=n%128+128);refine bs (pa (And.intro hor hgo) (bh (lq (MA (Us g a) ac (n%128+128) (by omega) (by omega)))) ?_);refine rl ?_;rw[sS (by omega)]at he;refine nx (n/128,true,ac++[UInt8.ofNat (n%128+128)]) ⟨by dsimp only;omega,by rw[YF];exact he⟩ (by dsimp only;omega) ?_;cases g<;>exact yL [(0,0),(4,3),(2,2)]
  obtain⟨n,g,ac⟩:=y;obtain⟨hn,he⟩:=hv;simp only at h hn he;have hl:=congrArg List.length he;rw[Yh,Yh]at hl;have hgo:=Jv (f:=g) (a:=a) (l:=ac) (o:=ro 3 ns) (n:=n);refine pa hgo (bh (lq (MA (Us g a) ac n (by omega) (by omega)))) ?_;refine rl ?_;rw[gY (by omega)]at he;refine nx (i+1,true,ac++[UInt8.ofNat n]) ⟨by dsimp only;omega,fun _=>rfl,by dsimp only;rw[he,Yh];omega,by dsimp only;rw[he,YF];exact heq⟩ (by dsimp only;omega) ?_;cases g<;>exact yL [(0,0),(4,3),(2,2)]
 obtain⟨i,f,acc⟩:=x;obtain⟨hi,hf,hle,heq⟩:=hv;simp only at h hi hf hle heq;rw[YV (by omega)]at heq;have heq:acc=l0++jK ns:=by rw[<-heq];unfold jK;simp
 rw[hf (by omega),<-heq];refine re ?_;exact⟨rfl,3,by decide,(ae (by decide) (by decide)).trans ab,(ae (by decide) (by decide)).trans ((aa (by decide)).trans ab)⟩
structure Tx where
 b:List UInt8
instance:Inhabited Tx:=⟨⟨[]⟩⟩
instance:El Tx:=⟨fun t=>[.string (str t.b)],1,fun _=>rfl,fun _=>rfl,fun _=>inferInstance⟩
noncomputable instance:mJ Tryz.prog Tx 9:=⟨fun t=>.string (str t.b),Tryz.t9,.string (str []),Mm,rfl,Mp,rfl,fun _=>by kernel_rfl,fun _=>rfl⟩
@[go_sem] theorem enc_tx {t:Tx}:El.enc t=[Value.string (str t.b)]:=rfl
@[go_sem] theorem m_tx:El.m Tx=1:=rfl
@[go_sem high] theorem fold_tx {b:List UInt8}:gr (.cells [.string (str b)] 9 (0,0)) 1 1=some (.new (ro 9 [(⟨b⟩:Tx)]) fun k=>gs k 1 [(⟨b⟩:Tx)]):=rfl
def cB(o:List Ce)(j:Nat):Nat:=(o.getD j default).id.toNat/16
structure Ob where
 last:Int
 out:List Tx
 tree:List UInt8
noncomputable def eM(o:List Ce):Nat->Ob
 |0=>⟨-1,[],[]⟩
 |j+1=>if((cB o j:Nat):Int)=(eM o j).last then eM o j else⟨(cB o j:Nat),(eM o j).out++[⟨lm o (cB o j)⟩],(eM o j).tree++bK (cB o j)++dz (lm o (cB o j))⟩
noncomputable def fZ(l:List Ce):List Tx:=(eM (aK l) (aK l).length).out++[⟨2::(bK (eM (aK l) (aK l).length).out.length++(eM (aK l) (aK l).length).tree)⟩]
theorem s5{o:List Ce}(h:∀c∈o,rP c):∀j,j<=o.length->(eM o j).out.length<=j/\(eM o j).tree.length<=42*j
 |0,_=>⟨Nat.le_refl _,Nat.le_refl _⟩
 |j+1,hj=>by
  have:=s5 h j (by omega);have h2:=(h _ (bn (l:=o) (i:=j) (by omega))).id;have h3:=da (n:=cB o j) (by unfold cB;omega);unfold eM;split
  ·omega
  simp only[Yh,YN,dr];omega
theorem rv:∀l:List UInt8,dU (ao l)=some l
 |[]=>rfl
 |b::l=>by
  have hb:=b.toNat_lt;show nI b.toNat (dU (ao l))=_;rw[rv l];show(bif Nat.blt b.toNat 256 then some (UInt8.ofNat b.toNat::l)else none)=_;rw[lj hb];simp
theorem eI{l:List UInt8}:(ao l).length=l.length:=Yv _
theorem Eo{l:List Ce}{k:Nat}(h:∀c∈l,rP c)(hl:l.length<=1000000)(hk:k<9223372036854775808):(lm l k).length<=1000*l.length+21:=by
 have h1:=tJ (k:=k) h _ (Nat.le_refl _);have h2:=da (n:=k) hk;have h3:=da (n:=(kM l k l.length).1) (by omega);rw[lm,List.length_cons,Yh,Yh];omega
theorem KN{l:List UInt8}:List.take 32 (ao (dz l))=ao (dz l):=List.take_of_length_le (by rw[eI,dr];exact Nat.le_refl _)
attribute [go_sem] KN rv eI dr
theorem FO(l:List Ce)(hl:l.length<=4000)(hs:∀c∈l,c.sd.length<=1000000)(hb:∀c∈aK l,rP c):Fr Tryz.prog 41 [kF l] 9 (fZ l):=by
 have ho:=gB _ l (Nat.le_refl _);refine Gj Tryz.func41 Tryz.results41 (h:=?_);refine rs ?_;refine rc (b1 (JY l (by omega) hs)) ?_;unfold fZ;generalize aK l=o at ho hb ⊢;refine rs ?_;refine rs ?_;refine rs ?_;refine rS ?_;refine fo (fun j:Nat=>⟨an [(1,some (.pointer (some ⟨0,0,none⟩))),(3,some (gs 1 aq (eM o j).out)),(4,some (.string (str (eM o j).tree))),(5,some (.int .i64 (eM o j).last)),(6,some (.int .i64 (j:Nat)))],wd [(0,some (.cells [sl o] 40 (0,0))),(1,some (ro 9 (eM o j).out))] 2 [] 0,[]⟩) (fun j=>j<=o.length) (fun j=>o.length-j) 0 (Yq _) (fun j hv h=>?_) (fun j hv h=>?_)
 ·have hbj:=hb _ (bn (l:=o) (i:=j) (by omega));have hlen:=s5 (o:=o) hb j (by omega);have e1:eM o (j+1)=if((cB o j:Nat):Int)=(eM o j).last then eM o j else⟨(cB o j:Nat),(eM o j).out++[⟨lm o (cB o j)⟩],(eM o j).tree++bK (cB o j)++dz (lm o (cB o j))⟩:=rfl
  have hk:cB o j=(o.getD j default).id.toNat/16:=rfl;obtain⟨a,ha⟩:∃a:Nat,(o.getD j default).id=a:=⟨_,(Int.toNat_of_nonneg hbj.id.1).symm⟩;rw[ha,Yt]at hk;have hk2:cB o j<576460752303423488:=by have:=hbj.id.2;omega
  have hbl:=Eo (k:=cB o j) hb (by omega) (by omega);have hd:=da (n:=cB o j) (by omega);have hsh:=dr (lm o (cB o j));have hbo:=J5 o (cB o j) (by omega) hk2 hb;generalize eM o j=B at hlen e1 ⊢;refine bs (rf ha ?_);rw[<-hk];by_cases h1:((cB o j:Nat):Int)=B.last
  ·rw[if_pos h1]at e1;refine rS ?_;refine ct ?_;refine xe ?_;refine rl ?_;refine nx (j+1) (by omega) (by omega) ?_;rw[e1];exact kp
  rw[if_neg h1]at e1;refine rS ?_;refine cf ?_;refine sk (rs ?_);refine rc (b1 hbo) ?_;refine lB (D9 (W:=wd [(0,some (.cells [sl o] 40 (0,0))),(1,some (ro 9 B.out))] 2 [] 0) (l:=lm o (cB o j)) (by omega)) (bh A9) ?_;refine rs ?_;refine Mz (eI (l:=dz (lm o (cB o j)))) (bh v8) ?_;refine rl ?_;refine nx (j+1) (by omega) (by omega) ?_;rw[e1];exact rn [(0,0),(4,1)]
 have hlen:=s5 (o:=o) hb j (by omega);rw[show j=o.length by omega]at hlen ⊢;generalize eM o o.length=B at hlen ⊢;have hd:=da (n:=B.out.length) (by omega);refine rc (bh v8) ?_;refine rt ?_;refine⟨3,?_,?_⟩
 ·rfl
 exact(ae (by decide) (by decide)).trans ab
attribute [go_sem] Qi
structure Oj where
 h:HB
 t:List UInt8
instance:Inhabited Oj:=⟨⟨⟨List.replicate 32 0,rfl⟩,[]⟩⟩
instance {l:List UInt8}:b7 (ao l):=⟨yJ l⟩
instance:El Oj:=⟨fun o=>ao o.h.1++[.string (str o.t)],33,fun o=>by rw[Yh,eI,o.h.2];rfl,fun o=>by rw[ZD,pw];rfl,fun _=>inferInstance⟩
theorem R4{o:Oj}:El.enc o=ao o.h.1++[Value.string (str o.t)]:=rfl
theorem IN{o:Oj}:(ao o.h.1++[Value.string (str o.t)]).length=33:=by rw[Yh,eI,o.h.2];rfl
theorem T0{o:Oj}:iM Tryz.prog 72 (ao o.h.1++[Value.string (str o.t)]) 0=some (.agg (ao o.h.1++[Value.string (str o.t)]).toArray):=by
 unfold iM;rw[ML,SD];show(bif Nat.beq (((ao o.h.1++[Value.string (str o.t)]).drop 0).take 33).length 33 then some (Value.agg (((ao o.h.1++[Value.string (str o.t)]).drop 0).take 33).toArray)else none)=_;rw[List.drop_zero,List.take_of_length_le (by rw[IN];exact Nat.le_refl _),IN];rfl
noncomputable instance:mJ Tryz.prog Oj 72:=⟨fun o=>Value.agg (ao o.h.1++[Value.string (str o.t)]).toArray,Tryz.t72,_,Ic,rfl,Hx,rfl,fun _=>T0,fun _=>rfl⟩
theorem IV{W:XW}{h:HB}{r:List Value}:iQ Tryz.prog W 24 (FP (ao h.1++r))=some (cr h):=by
 rw[xD];unfold iM;rw[L7,T7];show(bif Nat.beq (((ao h.1++r).drop 0).take 32).length 32 then some (Value.agg (((ao h.1++r).drop 0).take 32).toArray)else none)=_;rw[List.drop_zero,Zq (by rw[eI,h.2]),eI,h.2];rfl
abbrev fV(l:List Oj):ag:=.cells [sl l] 69 (0,0)
def fU(h:HB):List Oj->Nat
 |[]=>0
 |o::l=>if cG o.h h=true then fU h l+1 else 0
theorem Ag(h:HB):∀l,fU h l<=l.length
 |[]=>Nat.le_refl _
 |o::l=>by
  have:=Ag h l;unfold fU;split
  ·rw[List.length_cons];omega
  exact Yq _
open Classical in
noncomputable def qk(l:List Oj)(t:List UInt8):List Oj:=if fU (bf t) l<l.length/\(l.getD (fU (bf t) l) default).h=bf t then l else l.take (fU (bf t) l)++⟨bf t,t⟩::l.drop (fU (bf t) l)
instance {h:HB}:Br (cr h):=⟨uK h⟩
theorem Mx{h:HB}:iM Tryz.prog 24 (ao h.1) 0=some (cr h):=by
 have:=IV (W:=wd [] 0 [] 0) (h:=h) (r:=[]);rwa [List.append_nil,xD]at this
theorem LK{h:HB}:(cr h).cells=(ao h.1).toArray:=rfl
theorem RX{h:HB}:h.1.length=32:=h.2
theorem TL{l:List UInt8}{W:XW}(h:l.length<=140737488351232):rO [.string (str l)] W=some (.ret (cr (bf l)),W):=D9 h
theorem M7{a b:HB}{W:XW}:kH tu [cr a,cr b] W=some (.ret (.bool (cG a b)),W):=by
 unfold kH;rw[KC];rfl
attribute [go_sem ↓ high] LK
attribute [go_sem] Mx IV RX TL M7 R4
@[go_sem] theorem m_oj:El.m Oj=33:=rfl
abbrev zH:ag:=.cells (ao (List.replicate 32 0)) 24 (0,0)
abbrev hH(h:HB):ag:=.cells (ao h.1) 24 (0,0)
theorem Tp:List.drop 32 (ao (List.replicate 32 0))=[]:=rfl
theorem Nv{h:HB}{r:List Value}:List.take 32 (ao h.1++r)=ao h.1:=Zq (by rw[eI,h.2])
theorem BH{h:HB}:List.take 32 (ao h.1)=ao h.1:=List.take_of_length_le (by rw[eI,h.2];exact Nat.le_refl _)
theorem M5{h:HB}:Value.agg (ao h.1).toArray=cr h:=rfl
theorem AI{h:HB}{v:Value}:(ao h.1++[v]).length=33:=by rw[Yh,eI,h.2];rfl
theorem PJ{h:HB}{v:Value}:List.drop 33 (ao h.1++[v])=[]:=Y2 (by rw[AI];exact Nat.le_refl _)
theorem M2{h:HB}{v:Value}:List.take 33 (ao h.1++[v])=ao h.1++[v]:=List.take_of_length_le (by rw[AI];exact Nat.le_refl _)
@[go_sem high] theorem fold_oj {h:HB} {t:List UInt8}:gr (.cells (ao h.1++[.string (str t)]) 72 (0,0)) 1 1=some (.new (ro 72 [(⟨h,t⟩:Oj)]) fun k=>gs k 1 [(⟨h,t⟩:Oj)]):=by
 have e:ro 72 [(⟨h,t⟩:Oj)]=.cells (ao h.1++[Value.string (str t)]) 72 (0,0):=by unfold ro;rw[YB,ZB,List.append_nil];rfl
 rw[e];rfl
attribute [go_sem] PJ M2
attribute [go_sem high] AI
theorem Wh{a b:HB}{x y:Operand}:dM Tryz.prog .eql 24 x y (some (cr a)) (some (cr b))=some (.val (some (.bool (decide (a=b))))):=by
 refine(Bw iU a.2 b.2).1.trans ?_;by_cases h:a=b
 ·subst h;simp
 rw[decide_eq_false h,show(a.1==b.1)=false from by
  have:a.1≠b.1:=fun e=>h (Subtype.ext e)
  simpa using this]
theorem UW{a b:HB}{x y:Operand}:dM Tryz.prog .neq 24 x y (some (cr a)) (some (cr b))=some (.val (some (.bool (!decide (a=b))))):=by
 refine(Bw iU a.2 b.2).2.trans ?_;by_cases h:a=b
 ·subst h;simp
 rw[decide_eq_false h,show(a.1==b.1)=false from by
  have:a.1≠b.1:=fun e=>h (Subtype.ext e)
  simpa using this]
attribute [go_sem] Wh UW Tp zH hH Nv BH M5
set_option maxHeartbeats 4000000 in
theorem NI(l:List Oj)(t:List UInt8)(hl:l.length<=1000000)(ht:t.length<=140737488351232):Fo Tryz.prog 11 [.string (str t)] (fV l) (.ret (cr (bf t))) (fV (qk l t)):=by
 have hp:=Ag (bf t) l;refine Fc Tryz.func11 Tryz.results11 (h:=?_);refine rs ?_;refine rc (bh A9) ?_;refine rs ?_;refine jP ⟨an [(0,some (.pointer (some ⟨0,0,none⟩))),(1,some (.string (str t))),(4,some (.pointer (some ⟨1,0,none⟩))),(5,some (.pointer (some ⟨2,0,none⟩))),(6,some (.int .i64 (fU (bf t) l:Nat)))],wd [(0,some (fV l)),(1,some zH),(2,some (hH (bf t)))] 3 [] 0,[]⟩ ?_ ?_
 ·refine fo (fun k:Nat=>⟨an [(0,some (.pointer (some ⟨0,0,none⟩))),(1,some (.string (str t))),(4,some (.pointer (some ⟨1,0,none⟩))),(5,some (.pointer (some ⟨2,0,none⟩))),(6,some (.int .i64 (k:Nat)))],wd [(0,some (fV l)),(1,some zH),(2,some (hH (bf t)))] 3 [] 0,[]⟩) (fun k=>k<=l.length/\k+fU (bf t) (l.drop k)=fU (bf t) l) (fun k=>l.length-k) 0 ⟨Yq _,by simp⟩ (fun k hv h=>?_) (fun k hv h=>?_)
  ·obtain⟨h1,h2⟩:=hv;rw[ei (by omega),fU]at h2;refine aC ?_;refine Ia (bh Tg) ?_;refine rS ?_;refine cb (fun h3=>?_) (fun h3=>?_)
   ·have h4:cG (l.getD k default).h (bf t)=false:=by simpa using h3
    rw[h4,if_neg (by decide)]at h2;refine xe ?_;exact bg
   have h4:cG (l.getD k default).h (bf t)=true:=by simpa using h3
   rw[if_pos h4]at h2;refine ap (rl ?_);exact nx (k+1) ⟨by omega,by omega⟩
  obtain⟨h1,h2⟩:=hv;rw[YV (by omega),fU]at h2;exact bg
 have e0:qk l t=if fU (bf t) l<l.length/\(l.getD (fU (bf t) l) default).h=bf t then l else l.take (fU (bf t) l)++⟨bf t,t⟩::l.drop (fU (bf t) l):=rfl
 by_cases h1:fU (bf t) l<l.length/\(l.getD (fU (bf t) l) default).h=bf t
 ·rw[if_pos h1]at e0;obtain⟨h1,h2⟩:=h1;refine WN h2 ?_;refine ct ?_;refine rs ?_;refine rt ?_;refine⟨rfl,?_⟩;rw[e0];simp(disch:=decide) only[ae,ab,aa]
 rw[if_neg h1]at e0;refine G0 ?_ ?_
 ·by_cases h2:fU (bf t) l<l.length
  ·have h3:(l.getD (fU (bf t) l) default).h≠bf t:=fun q=>h1 ⟨h2,q⟩
   refine rd ?_;refine cf ?_;exact ap bg
  refine rd ?_;refine cf ?_;exact ap bg
 refine rs ?_;refine cv [(0,some (.pointer (some ⟨0,0,none⟩))),(1,some (.string (str t))),(4,some (.pointer (some ⟨1,0,none⟩))),(5,some (.pointer (some ⟨2,0,none⟩))),(6,some (.int .i64 (fU (bf t) l:Nat))),(8,some (gs 3 aq ([]:List Oj)))] [(0,some (fV l)),(1,some zH),(2,some (hH (bf t))),(3,some (ro 72 ([]:List Oj)))] 4 ?_;refine rs ?_;refine rs ?_;refine rs ?_;refine rs ?_;refine cv [(4,some (.pointer (some ⟨1,0,none⟩)))] [(0,some (fV (l.take (fU (bf t) l)++[⟨bf t,t⟩]++l.drop (fU (bf t) l)))),(1,some (hH (bf t)))] 9 ?_ (hl:=fz 7);refine rt ?_;refine⟨rfl,?_⟩;rw[e0,YF];simp(disch:=decide) only[ae,ab,aa];rfl
instance:Inhabited HB:=⟨⟨List.replicate 32 0,rfl⟩⟩
instance:El HB:=⟨fun h=>ao h.1,32,fun h=>by rw[eI,h.2],fun _=>pw,fun _=>inferInstance⟩
noncomputable instance:mJ Tryz.prog HB 24:=⟨cr,Tryz.t24,_,IF,rfl,Ij,rfl,fun _=>Mx,fun _=>rfl⟩
@[go_sem] theorem enc_hb {h:HB}:El.enc h=ao h.1:=rfl
@[go_sem] theorem m_hb:El.m HB=32:=rfl
@[go_sem high] theorem fold_hbs {h:HB}:gr (.cells (ao h.1) 24 (0,0)) 1 1=some (.new (ro 24 [h]) fun k=>gs k 1 [h]):=by
 have e:ro 24 [h]=.cells (ao h.1) 24 (0,0):=by unfold ro;rw[YB,ZB,List.append_nil];rfl
 rw[e];rfl
theorem M3(l:List Oj)(hl:l.length<=1000000):Fo Tryz.prog 30 [] (fV l) (.ret (sl (l.map (·.h)))) (fV l):=by
 refine Fc Tryz.func30 Tryz.results30 (h:=?_);refine rs ?_;refine rs ?_;refine rS ?_;refine fo (fun i:Nat=>⟨an [(0,some (.pointer (some ⟨0,0,none⟩))),(3,some (gs 1 aq ((l.take i).map (·.h)))),(4,some (.int .i64 (i:Nat)))],wd [(0,some (fV l)),(1,some (ro 24 ((l.take i).map (·.h))))] 2 [] 0,[]⟩) (fun i=>i<=l.length) (fun i=>l.length-i) 0 (Yq _) (fun i hv h=>?_) (fun i hv h=>?_)
 ·have e:(l.take (i+1)).map (·.h)=(l.take i).map (·.h)++[(l.getD i default).h]:=by
   rw[List.take_succ,YW,Yn,Yl (by omega)];rfl
  have hlm:((l.take i).map (·.h)).length=i:=by rw[Yv,Yk];omega
  refine bs (rl ?_);refine rl ?_;refine nx (i+1) (by omega) (by omega) ?_;rw[e];exact rn [(0,0),(3,1)]
 rw[show i=l.length by omega];have hlm:(l.map (·.h)).length=l.length:=Yv _;refine rs ?_;refine cv [(2,some (sl (l.map (·.h))))] [(0,some (fV l))] 9 ?_ (hl:=fz 1);refine rt ?_;exact⟨rfl,by simp(disch:=decide) only[ae,ab,aa]⟩
theorem PU{h:HB}{r:List Value}:List.drop 32 (ao h.1++r)=r:=ZC (by rw[eI,h.2])
attribute [go_sem] PU
def oe(h:HB):List Oj->Option (List UInt8)
 |[]=>none
 |o::l=>if o.h=h then some o.t else oe h l
theorem NY(l:List Oj)(h:HB)(hl:l.length<=1000000):Fo Tryz.prog 13 [cr h] (fV l) (.ret (.tuple #[.string (str ((oe h l).getD [])),.bool (oe h l).isSome])) (fV l):=by
 refine Fc Tryz.func13 Tryz.results13 (h:=?_);refine rs ?_;refine rS ?_;refine fo (fun i:Nat=>⟨an [(0,some (.pointer (some ⟨0,0,none⟩))),(3,some (.pointer (some ⟨1,0,none⟩))),(6,some (.int .i64 (i:Nat)))],wd [(0,some (fV l)),(1,some (hH h))] 2 [] 0,[]⟩) (fun i=>i<=l.length/\oe h (l.drop i)=oe h l) (fun i=>l.length-i) 0 ⟨Yq _,rfl⟩ (fun i hv h1=>?_) (fun i hv h1=>?_)
 ·obtain⟨hi,hq⟩:=hv;rw[ei (by omega),oe]at hq;refine bs (rd ?_);refine cp (fun h2=>?_) (fun h2=>?_)
  ·rw[if_pos h2]at hq;refine rs ?_;refine rt ?_;rw[<-hq];exact⟨rfl,by simp(disch:=decide) only[ae,ab,aa]⟩
  rw[if_neg h2]at hq;refine ap (rl ?_);exact nx (i+1) ⟨by omega,hq⟩
 obtain⟨hi,hq⟩:=hv;rw[YV (by omega),oe]at hq;refine rs ?_;refine rt ?_;rw[<-hq];exact⟨rfl,by simp(disch:=decide) only[ae,ab,aa]⟩
abbrev zO:Value:=.tuple #[.int .i64 32,.nilIface]
theorem VV(a:Bool)(l:List UInt8)(h:HB)(hl:l.length<900000000000):Fb 38 (fun r=>[.slice (some ⟨r,0,none⟩) 32 32]) (some (hH h)) a l zO (l++h.1):=by
 have hsrc:eZ (wd [(0,some (.cells [.pointer (some ⟨0,0,none⟩),gs 1 aq l] 84 (0,0))),(1,some (bX l)),(2,some (hH h))] 3 [] 0) 1 32 (.slice (some ⟨2,0,none⟩) 32 32)=some (h.1.flatMap El.enc):=by
  rw[F0];show(bif Nat.beq 32 0 then some []else match(wd [(0,some (.cells [.pointer (some ⟨0,0,none⟩),gs 1 aq l] 84 (0,0))),(1,some (bX l)),(2,some (hH h))] 3 [] 0).get 2 with
   |some (.cells c _ _)=>bif Nat.beq ((c.drop 0).take (32*1)).length (32*1)then some ((c.drop 0).take (32*1))else none
   |_=>none)=_
  rw[ae (by decide) (by decide),aa (by decide),aa (by decide),ab];simp only[List.drop_zero,Nat.mul_one,BH,eI,h.2];rfl
 have hh:=h.2;refine⟨enters_of (by kernel_rfl),fun θ r h=>au (ca (h (by simp))) aR,fun o h=>(by cases h;exact aF b7.h),(inferInstance:Br zO).h,?_⟩;show aT _ _ _ (wd [(0,some (wo a 0 1 l)),(1,some (bX l)),(2,some (hH h))] 3 [] 0) _;refine low Tryz.func38 Tryz.results38 (h:=?_);show ay _ _ 3 _ _ _;refine rs ?_;refine jP ⟨an [(0,some (.pointer (some ⟨0,0,none⟩))),(1,some (.slice (some ⟨2,0,none⟩) 32 32)),(4,some (.int .i64 0)),(5,some .nilIface)],wd [(0,some (wo true 0 1 l)),(1,some (bX l)),(2,some (hH h))] 3 [] 0,[]⟩ ?_ ?_
 ·cases a with
  |true=>
   have hg:=Di (W:=wd [(0,some (wo true 0 1 l)),(1,some (bX l)),(2,some (hH h))] 3 [] 0) (n:=0) (b:=1) (l:=l) (by simp(disch:=decide) only[ae,ab,aa]);refine pa hg (bh An) ?_;exact bg
  |false=>
   have hg:Dr [.pointer (some ⟨0,0,none⟩)] (wd [(0,some (wo false 0 1 l)),(1,some (bX l)),(2,some (hH h))] 3 [] 0)=some (.ret (.tuple #[]),wd [(0,some (wo true 0 1 l)),(0,some (wo false 0 1 l)),(1,some (bX l)),(2,some (hH h))] 3 [0] 1):=by kernel_rfl
   refine pa hg (bh An) ?_;exact bg
 refine cv [(0,some (.pointer (some ⟨0,0,none⟩))),(1,some (.slice (some ⟨2,0,none⟩) 32 32)),(4,some (.int .i64 0)),(5,some .nilIface)] [(0,some (.cells [.pointer (some ⟨0,0,none⟩),gs 1 aq l] 84 (0,0))),(1,some (bX l)),(2,some (hH h))] 3 ?_;refine rf (And.intro hsrc hh) ?_;refine rs ?_;refine rt ?_;exact⟨rfl,3,by decide,by simp(disch:=decide) only[ae,ab,aa];rfl,by simp(disch:=decide) only[ae,ab,aa]⟩
theorem Q3(l:List UInt8)(h0:l≠[])(hl:l.length<1000000000000):aT Tryz.prog 39 [.pointer (some ⟨0,0,none⟩)] (wd [(0,some (wo true 0 1 l)),(1,some (bX l))] 2 [] 0) fun e W'=>e=.ret (.string (str l)):=by
 obtain⟨n,hn⟩:∃n,l.length=n+1:=⟨l.length-1,by have:l.length≠0:=fun e=>h0 (List.length_eq_zero_iff.1 e);omega⟩;refine low Tryz.func39 Tryz.results39 (h:=?_);show ay _ _ 2 _ _ _;refine rs ?_;refine cv [(0,some (.pointer (some ⟨0,0,none⟩)))] [(0,some (.cells [.pointer (some ⟨0,0,none⟩),.slice (some ⟨1,0,none⟩) (n+1) aq] 84 (0,0))),(1,some (.cells (ao l) 5 (0,0)))] 2 ?_ (hl:=by
  rw[show(ag.cells (ao l) 5 (0,0))=bX l by rw[<-F0]];rw[<-hn];exact bg)
 refine rX (And.intro Tryz.underlying145 (And.intro @Ly (And.intro @MR (And.intro Q1 (And.intro tL (And.intro @NV (And.intro (show List.take (n+1) (ao l)=ao l from List.take_of_length_le (by rw[eI];omega)) hn))))))) ?_;refine rt ?_;rfl
open Classical in
noncomputable def hks(l:List UInt8):HF:=fun A W=>if h:∃q:Nat×Nat,A=[.pointer (some ⟨q.1,0,none⟩)]/\W.get q.1=some (wo true q.1 q.2 l)/\W.get q.2=some (bX l)/\q.1≠q.2 then some (.ret (.string (str l)),(W.put h.choose.1 none).put h.choose.2 none)else none
theorem Ga{l:List UInt8}{W:XW}(w b:Nat)(hw:W.get w=some (wo true w b l))(hb:W.get b=some (bX l))(hwb:w≠b):hks l [.pointer (some ⟨w,0,none⟩)] W=some (.ret (.string (str l)),(W.put w none).put b none):=by
 have hx:∃q:Nat×Nat,[Value.pointer (some ⟨w,0,none⟩)]=[.pointer (some ⟨q.1,0,none⟩)]/\W.get q.1=some (wo true q.1 q.2 l)/\W.get q.2=some (bX l)/\q.1≠q.2:=⟨(w,b),rfl,hw,hb,hwb⟩;have hs:=hx.choose_spec;unfold hks;rw[dif_pos hx];generalize hx.choose=q at hs ⊢;obtain⟨w',b'⟩:=q;obtain⟨h1,h2,_,_⟩:=hs;have e1:w=w':=Dl h1;subst e1;simp only at h2 ⊢;rw[hw]at h2;rw[HE (Option.some.inj h2)]
theorem H9(l:List UInt8)(h0:l≠[])(hl:l.length<1000000000000):bQ Tryz.prog 39 (hks l):=by
 have key:∀A W e' W',hks l A W=some (e',W')->∃w b,A=[.pointer (some ⟨w,0,none⟩)]/\W.get w=some (wo true w b l)/\W.get b=some (bX l)/\w≠b/\e'=.ret (.string (str l))/\W'=(W.put w none).put b none:=fun A W e' W' q=>by
  unfold hks at q;split at q
  ·rename_i hx;cases q;exact⟨_,_,hx.choose_spec.1,hx.choose_spec.2.1,hx.choose_spec.2.2.1,hx.choose_spec.2.2.2,rfl,rfl⟩
  cases q
 refine⟨enters_of (by kernel_rfl),fun A W e' W' q=>?_,fun A W e' W' q=>?_⟩
 ·obtain⟨w,b,_,_,_,_,_,rfl⟩:=key _ _ _ _ q;exact(bu.put _ _ _).trans (bu.put _ _ _)
 obtain⟨w,b,rfl,hw,hr,hwb,rfl,rfl⟩:=key _ _ _ _ q;have hwn:=aM hw;have hbn:=aM hr;have t0:(fun n=>if n=w then some 0 else if n=b then some 1 else(none:Option Nat)) w=some 0:=if_pos rfl;have t1:(fun n=>if n=w then some 0 else if n=b then some 1 else(none:Option Nat)) b=some 1:=by simp only[if_neg (Ne.symm hwb),if_pos]
 refine jq (k:=2) (fun m=>if m=0 then w else b) (fun n=>if n=w then some 0 else if n=b then some 1 else none) rfl (fun m m' h h' e=>?_) (fun m h=>?_) (fun n m h=>?_) (fun m oL h=>?_) (au (bN t0) aR) (Q3 l h0 hl) (fun eL WL' hS=>?_)
 ·by_cases h0:m=0<;>by_cases h1:m'=0<;>simp only[h0,h1,if_true,if_false]at e ⊢
  ·exact absurd e hwb
  ·exact absurd e.symm hwb
  omega
 ·split<;>omega
 ·split at h
  ·rename_i q;cases h;exact⟨by decide,q.symm⟩
  split at h
  ·rename_i q;cases h;exact⟨by decide,q.symm⟩
  cases h
 ·have hm:m<2:=aM h;obtain⟨_,h2⟩:=cq h;have:m=0\/m=1:=by omega
  rcases this with rfl|rfl
  ·rw[ab]at h2;cases h2;exact⟨by decide,_,hw,s7 t0 t1⟩
  rw[aa (by decide),ab]at h2;cases h2;exact⟨by decide,_,hr,bd aj (aF b7.h)⟩
 subst hS;refine⟨fun _=>none,fun m x h=>(by cases h),fun m m' x h _=>(by cases h),fun x o' h=>?_,(inferInstance:Br (.string (str l))).h _ aj,Nat.le_refl _⟩;rcases XW.get_put h with⟨_,z⟩|⟨z1,z2⟩
 ·cases z
 rcases XW.get_put z2 with⟨_,z⟩|⟨y1,y2⟩
 ·cases z
 refine .inr ⟨y2,aM y2,fun m hm=>?_⟩;split
 ·exact fun z=>y1 z.symm
 exact fun z=>z1 z.symm
attribute [go_sem] Ah
theorem Kd{h:HB}:List.drop 32 (ao h.1)=[]:=Y2 (by rw[eI,h.2];exact Nat.le_refl _)
attribute [go_sem] Kd
def hZ:HB:=⟨List.replicate 32 0,rfl⟩
noncomputable def pq(L:List Oj)(os:List Tx):Nat->List Oj
 |0=>L
 |i+1=>qk (pq L os i) (os.getD i default).b
def hI(os:List Tx):Nat->HB
 |0=>hZ
 |i+1=>bf (os.getD i default).b
noncomputable def uN(L:List Oj)(l:List Ce):List Oj:=if(fm l).2=0 then pq L (fZ l) (fZ l).length else L
noncomputable def AL(l:List Ce):HB:=if(fm l).2=0 then hI (fZ l) (fZ l).length else hZ
theorem Lm{L:List Oj}{t:List UInt8}:(qk L t).length<=L.length+1:=by
 have:=Ag (bf t) L;unfold qk;split
 ·omega
 rw[Yh,List.length_cons,Yk,Ym];omega
theorem xO{L:List Oj}{os:List Tx}:∀i,(pq L os i).length<=L.length+i
 |0=>Nat.le_refl _
 |i+1=>by
  have:=xO (L:=L) (os:=os) i;have:=Lm (L:=pq L os i) (t:=(os.getD i default).b);rw[pq];omega
theorem uO{β:Type}{f:Nat->Option β}{r:β}:∀{n:Nat},jH f n=some r->∃i,i<n/\f i=some r
 |0,h=>by cases h
 |n+1,h=>by
  cases e:jH f n with
  |none=>rw[kO e]at h;exact⟨n,YJ _,h⟩
  |some q=>
   rw[jH,e]at h;cases h;obtain⟨i,h1,h2⟩:=uO e;exact⟨i,by omega,h2⟩
theorem LR{o u:List Ce}{i:Nat}{r:Int×Int}(h:lz o u i=some r):r.2≠0:=by
 unfold lz at h;split at h
 ·cases h;simp
 split at h
 ·rename_i q;cases h;exact q
 cases h
theorem Lt{o:List Ce}{i:Nat}{r:Int×Int}(h:mY o i=some r):r.2≠0:=by
 unfold mY at h;split at h
 ·cases h
 split at h
 ·rename_i q;cases h;exact q
 cases h
theorem BI{l:List Ce}(h:(fm l).2=0):l.length<=4000/\(∀j,j<(aK l).length->lz (aK l) (kY l) j=none)/\∀j,j<(aK l).length->mY (aK l) j=none:=by
 unfold fm at h;split at h
 ·cases h
 rename_i h0;split at h
 ·rename_i r e;obtain⟨i,_,q⟩:=uO e;exact absurd h (LR q)
 rename_i e1;split at h
 ·rename_i r e;obtain⟨i,_,q⟩:=uO e;exact absurd h (Lt q)
 rename_i e2;exact⟨by omega,l5 e1,l5 e2⟩
theorem Nu{l:List Ce}{id:Int}{m:Nat}(h:ml l id=m):m<l.length/\(l.getD m default).id=id:=by
 unfold ml at h;split at h
 ·rename_i q;have:=Int.ofNat.inj h;rw[<-this];exact q
 omega
theorem pi{l:List Ce}(h:(fm l).2=0)(hid:∀c∈l,c.id<9223372036854775808):l.length<=4000/\∀c∈aK l,rP c:=by
 obtain⟨h0,h1,_⟩:=BI h;have huq:kY l=dw (aK l) (aK l).length:=rfl;have hm:=od _ l (Nat.le_refl _);generalize aK l=o at h1 huq hm ⊢;have hu2:kY l=o:=by rw[huq,qx (fun j hj q=>(lI (h1 j hj)).1 (.inr q)) _ (Nat.le_refl _),List.take_length]
 rw[hu2]at h1;have hall:∀c∈o,1<=c.id/\c.id<9223372036854775808/\dt o c=0:=fun c hc=>by
  obtain⟨c0,k1,k2⟩:=hm c hc;have:=hid c0 k1;obtain⟨j,hj,rfl⟩:=YL hc;have hk:=lI (h1 j hj);rw[Yn,Yl hj]at hk;obtain⟨a1,a2⟩:=hk;have e:o[j].id=c0.id:=by rw[k2]
  refine⟨?_,by rw[e];exact this,a2⟩;have:¬o[j].id<1:=fun q=>a1 (.inl q)
  omega
 refine⟨h0,fun c hc=>?_⟩;obtain⟨b1,b2,b3⟩:=hall c hc;have hse:=Bt (fun c hc=>(hall c hc).2.2) hc;obtain⟨f1,_⟩:=xT b3;refine⟨⟨by omega,b2⟩,by omega,hse.few,fun s hs=>?_⟩;obtain⟨i,hi,rfl⟩:=YL hs;obtain⟨m,h2,h3⟩:=hse.at_ i hi;rw[Yn,Yl hi]at h3;obtain⟨g1,g2⟩:=Nu h3;have:=hall _ (bn g1);rw[g2]at this;change 1<=c.sd[i].1/\c.sd[i].1<_/\_ at this;omega
theorem xZ{o:List Ce}(h:∀c∈o,rP c)(hl:o.length<=1000000):∀j,j<=o.length->∀t∈(eM o j).out,t.b.length<=1000*o.length+21
 |0,_,t,ht=>by cases ht
 |j+1,hj,t,ht=>by
  unfold eM at ht;split at ht
  ·exact xZ h hl j (by omega) t ht
  rcases List.mem_append.1 ht with ht|ht
  ·exact xZ h hl j (by omega) t ht
  rw[List.mem_singleton.1 ht];have h2:=(h _ (bn (l:=o) (i:=j) (by omega))).id;exact Eo h hl (by unfold cB;omega)
theorem BM{l:List Ce}(hl:l.length<=4000)(hb:∀c∈aK l,rP c):(fZ l).length<=4001/\∀t∈fZ l,t.b.length<=5000000:=by
 have ho:=gB _ l (Nat.le_refl _);have h1:=s5 hb _ (Nat.le_refl _);have h2:=xZ hb (by omega) _ (Nat.le_refl _);unfold fZ;generalize eM (aK l) (aK l).length=B at h1 h2 ⊢;have hd:=da (n:=B.out.length) (by omega);refine⟨by rw[Yh,YN];omega,fun t ht=>?_⟩;rcases List.mem_append.1 ht with ht|ht
 ·have:=h2 t ht;omega
 rw[List.mem_singleton.1 ht,List.length_cons,Yh];omega
set_option maxHeartbeats 4000000 in
theorem RU(L:List Oj)(l:List Ce)(hL:L.length<=900000)(hl:l.length<=1000000)(hs:∀c∈l,c.sd.length<=1000000)(hid:∀c∈l,c.id<9223372036854775808):Fo Tryz.prog 18 [kF l] (fV L) (.ret (.tuple #[cr (AL l),.int .i64 (fm l).2])) (fV (uN L l)):=by
 refine Fc Tryz.func18 Tryz.results18 (h:=?_);refine rs ?_;refine rc (b1 (KQ l hl hs)) ?_;by_cases h0:(fm l).2=0
 ·obtain⟨k1,k2⟩:=pi h0 hid;obtain⟨k3,k4⟩:=BM k1 k2;have e1:uN L l=pq L (fZ l) (fZ l).length:=if_pos h0;have e2:AL l=hI (fZ l) (fZ l).length:=if_pos h0;have hob:=FO l k1 hs k2;rw[e1,e2];generalize fZ l=os at k3 k4 hob ⊢;refine rS ?_;refine cf ?_;refine sk (rs ?_);refine rc (bh (rI hob)) ?_;refine rS ?_;refine fo (fun i:Nat=>⟨an [(0,some (.pointer (some ⟨0,0,none⟩))),(4,some (.pointer (some ⟨2,0,none⟩))),(7,some (.int .i64 (fm l).2)),(8,some (.pointer (some ⟨3,0,none⟩))),(9,some (sl os)),(10,some (.int .i64 (i:Nat)))],wd [(0,some (fV (pq L os i))),(2,some zH),(3,some (hH (hI os i)))] 5 [] 0,[]⟩) (fun i=>i<=os.length) (fun i=>os.length-i) 0 (Yq _) (fun i hv h=>?_) (fun i hv h=>?_) (h0:=fz 4)
  ·have hm:=k4 _ (bn (l:=os) (i:=i) (by omega));have hpl:=xO (L:=L) (os:=os) i;refine bs (oQ (TK (NI (pq L os i) (os.getD i default).b (by omega) (by omega))) ?_);refine rl ?_;exact nx (i+1) (by omega) (by omega) kp
  rw[show i=os.length by omega];refine rs ?_;refine rt ?_;rw[h0];exact⟨rfl,by simp(disch:=decide) only[ae,ab,aa]⟩
 have e1:uN L l=L:=if_neg h0;have e2:AL l=hZ:=if_neg h0;rw[e1,e2];refine rS ?_;refine ct ?_;refine rs ?_;refine rt ?_;exact⟨rfl,by simp(disch:=decide) only[ae,ab,aa]⟩
end Go.Proofs.YthlkgmdkabelpaaGreat.X
