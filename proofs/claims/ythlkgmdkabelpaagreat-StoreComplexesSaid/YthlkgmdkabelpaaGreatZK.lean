/-
  Packed by program (tools/pack.py) out of the texts MW MW2 MW3 L14 L15 L16 MW4 L17. No condition.
-/
import Derived.Test.YthlkgmdkabelpaaGreatZJ
import Derived.Test.YthlkgmdkabelpaaGreatZ4
import Derived.Test.YthlkgmdkabelpaaGreatZ2
import Derived.Test.YthlkgmdkabelpaaGreatZF
set_option linter.all false
namespace Go.Proofs.YthlkgmdkabelpaaGreat.X
open Go Go.RowKit Go.Proofs.YthlkgmdkabelpaaGreat.St
instance:El UInt8:=⟨fun b=>[.int .u8 b.toNat],1,fun _=>rfl,fun _=>rfl,fun _=>inferInstance⟩
theorem I5:∀l:List UInt8,l.flatMap El.enc=an l
 |[]=>rfl
 |b::l=>by rw[ab7,I5 l];rfl
@[go_sem] theorem m_u8:El.m UInt8=1:=rfl
abbrev cr(l:List UInt8):ah:=ro 5 l
def wo(a:Bool)(w b:Nat)(l:List UInt8):ah:=.cells [if a then .pointer (some ⟨w,0,none⟩)else .pointer none,gs b aq l] 84 (0,0)
theorem Kn{a:Bool}{w b b':Nat}{l:List UInt8}(h:wo a w b l=wo a w b' l):b=b':=by
 unfold wo gs at h;injection h with h;injection h with _ h;injection h with h _;injection h with h;injection h with h;injection h with h _
theorem sU{P:Program}{a:Bool}{w w' b b':Nat}{l:List UInt8}{θ:Nat->Option Nat}(h1:θ w=some w')(h2:θ b=some b'):TO P (aP θ) (wo a w b l) (wo a w' b' l):=by
 unfold wo;cases a with
 |true=>exact cm (av (bI h1) (av (ga h2 rfl) aR))
 |false=>exact cm (av ((inferInstance:Br (.pointer none)).h _ aj) (av (ga h2 rfl) aR))
def wdE(o:Option ah)(a:Bool)(l:List UInt8):XW:=match o with
 |some o=>wd [(0,some (wo a 0 1 l)),(1,some (cr l)),(2,some o)] 3 [] 0
 |none=>wd [(0,some (wo a 0 1 l)),(1,some (cr l))] 2 [] 0
def WrE(v:Value)(l':List UInt8)(e:aW)(W':XW):Prop:=e=.ret v/\∃b',3<=b'/\W'.get 0=some (wo true 0 b' l')/\W'.get b'=some (cr l')
structure Fb(f:FuncId)(xs:Nat->List Value)(o:Option ah)(a:Bool)(l:List UInt8)(v:Value)(l':List UInt8):Prop where
 en:cS Tryz.prog f
 ba:∀(θ:Nat->Option Nat) (r:Nat),(o≠none->θ r=some 2)->jz (aP θ) (xs r) (xs 2)
 bo:∀o',o=some o'->gX Tryz.prog o'
 bv:d8 v
 lo:bg Tryz.prog f (.pointer (some ⟨0,0,none⟩)::xs 2) (wdE o a l) (WrE v l')
def O9(xs:Nat->List Value)(o:Option ah)(a:Bool)(l:List UInt8)(W:XW)(A:List Value)(w r b:Nat):Prop:=A=.pointer (some ⟨w,0,none⟩)::xs r/\W.get w=some (wo a w b l)/\W.get b=some (cr l)/\w≠b/\∀o',o=some o'->W.get r=some o'/\r≠w/\r≠b
def px(W:XW)(r:Nat):Option ah->XW
 |some _=>W.put r none
 |none=>W
theorem wx{W:XW}{r:Nat}{o:Option ah}:(px W r o).next=W.next:=by cases o<;>rfl
theorem Rw{W:XW}{r:Nat}{o:Option ah}:bC W (px W r o):=by
 cases o with
 |none=>exact .refl _
 |some _=>exact .put _ _ _
open Classical in
noncomputable def A2(xs:Nat->List Value)(o:Option ah)(a:Bool)(l:List UInt8)(v:Value)(l':List UInt8):HF:=fun A W=>if h:∃q:Nat×Nat×Nat,O9 xs o a l W A q.1 q.2.1 q.2.2 then some (.ret v,(((px W h.choose.2.1 o).put h.choose.2.2 none).push (cr l')).put h.choose.1 (some (wo true h.choose.1 W.next l')))else none
theorem GC{w w':Nat}{r r':List Value}(h:Value.pointer (some ⟨w,0,none⟩)::r=.pointer (some ⟨w',0,none⟩)::r'):w=w':=by
 injection h with h1 h2;injection h1 with h1;injection h1 with h1;injection h1 with h1 _
theorem xF{xs:Nat->List Value}{o:Option ah}{a:Bool}{l l':List UInt8}{v:Value}{W:XW}{A:List Value}(w r b:Nat)(h:O9 xs o a l W A w r b)(hi:o≠none->∀r r',xs r=xs r'->r=r'):A2 xs o a l v l' A W=some (.ret v,(((px W r o).put b none).push (cr l')).put w (some (wo true w W.next l'))):=by
 have hx:∃q:Nat×Nat×Nat,O9 xs o a l W A q.1 q.2.1 q.2.2:=⟨(w,r,b),h⟩;have hs:=hx.choose_spec;unfold A2;rw[dif_pos hx];generalize hx.choose=q at hs ⊢;obtain⟨w',r',b'⟩:=q;simp only at hs ⊢;have h1:=hs.1;rw[h.1]at h1;have e1:w=w':=GC h1;subst e1;have h2:=hs.2.1;rw[h.2.1]at h2;have e2:b=b':=Kn (Option.some.inj h2);subst e2;have e3:px W r' o=px W r o:=by
  cases o with
  |none=>rfl
  |some o'=>
   injection h1 with _ h1;rw[hi (by simp) _ _ h1]
 rw[e3]
theorem lT{f:FuncId}{xs:Nat->List Value}{o:Option ah}{a:Bool}{l l':List UInt8}{v:Value}(h:Fb f xs o a l v l'):bS Tryz.prog f (A2 xs o a l v l'):=by
 have key:∀A W e' W',A2 xs o a l v l' A W=some (e',W')->∃w r b,O9 xs o a l W A w r b/\e'=.ret v/\W'=(((px W r o).put b none).push (cr l')).put w (some (wo true w W.next l')):=fun A W e' W' q=>by
  unfold A2 at q;split at q
  ·rename_i hx;cases q;exact⟨_,_,_,hx.choose_spec,rfl,rfl⟩
  cases q
 refine⟨h.en,fun A W e' W' q=>?_,fun A W e' W' q=>?_⟩
 ·obtain⟨w,r,b,_,_,rfl⟩:=key _ _ _ _ q;exact((Rw.trans (bC.put _ _ _)).trans (bC.push _ _)).trans (bC.put _ _ _)
 obtain⟨w,r,b,⟨rfl,hw,hr,hwb,ho⟩,rfl,rfl⟩:=key _ _ _ _ q;have hwn:=aL hw;have hbn:=aL hr;have out:∀k,2<=k->k<=3->(k=3->o≠none)->∀eL WL',WrE v l' eL WL'->∃θ,NE Tryz.prog (fun m=>if m=0 then w else if m=1 then b else r) k W θ eL WL' (.ret v) ((((px W r o).put b none).push (cr l')).put w (some (wo true w W.next l'))):=fun k hk hk3 hko eL WL' hS=>by
  obtain⟨rfl,b',hb2,g0,g1⟩:=hS;have s0:(fun m=>if m=0 then some w else if m=b' then some W.next else(none:Option Nat)) 0=some w:=if_pos rfl;have s1:(fun m=>if m=0 then some w else if m=b' then some W.next else(none:Option Nat)) b'=some W.next:=by simp only[if_neg (show ¬b'=0 by omega),if_pos]
  refine⟨fun m=>if m=0 then some w else if m=b' then some W.next else none,fun m x h=>?_,fun m m' x h h'=>?_,fun x o' h=>?_,h.bv _ aj,by show W.next<=(px W r o).next+1;rw[wx];omega⟩
  ·split at h
   ·rename_i q;cases h;exact .inl ⟨by omega,by simp[q]⟩
   split at h
   ·rename_i q;cases h;exact .inr ⟨by omega,Nat.le_refl _,by show W.next<(px W r o).next+1;rw[wx];omega⟩
   cases h
  ·split at h
   ·split at h'
    ·omega
    split at h'
    ·cases h;cases h';omega
    cases h'
   split at h
   ·split at h'
    ·cases h;cases h';omega
    split at h'
    ·omega
    cases h'
   cases h
  rcases XW.get_put h with⟨rfl,q⟩|⟨q1,q2⟩
  ·cases q;exact .inl ⟨0,_,s0,g0,sU s0 s1⟩
  rcases XW.get_push q2 with⟨e1,e2⟩|⟨e1,e2⟩
  ·subst e2;exact .inl ⟨b',_,by rw[e1];show _=some (px W r o).next;rw[wx];exact s1,g1,aT aj (aB b7.h)⟩
  rcases XW.get_put e2 with⟨_,z⟩|⟨z1,z2⟩
  ·cases z
  have z3:W.get x=some o'/\(o≠none->r≠x):=by
   cases o with
   |none=>exact⟨z2,fun q=>absurd rfl q⟩
   |some o2=>
    rcases XW.get_put z2 with⟨_,z⟩|⟨y1,y2⟩
    ·cases z
    exact⟨y2,fun _ e=>y1 e.symm⟩
  refine .inr ⟨z3.1,aL z3.1,fun m hm=>?_⟩;split
  ·exact fun z=>q1 z.symm
  split
  ·exact fun z=>z1 z.symm
  exact fun z=>z3.2 (hko (by omega)) z
 have t0:(fun n=>if n=w then some 0 else if n=b then some 1 else if n=r/\o≠none then some 2 else(none:Option Nat)) w=some 0:=if_pos rfl;have t1:(fun n=>if n=w then some 0 else if n=b then some 1 else if n=r/\o≠none then some 2 else(none:Option Nat)) b=some 1:=by simp only[if_neg (Ne.symm hwb),if_pos]
 have t2:o≠none->(fun n=>if n=w then some 0 else if n=b then some 1 else if n=r/\o≠none then some 2 else(none:Option Nat)) r=some 2:=fun q=>by
  cases o with
  |none=>exact absurd rfl q
  |some o'=>
   obtain⟨_,k1,k2⟩:=ho o' rfl;simp[k1,k2]
 have hlo:=h.lo;have hbo:=h.bo;have hba:=h.ba (fun n=>if n=w then some 0 else if n=b then some 1 else if n=r/\o≠none then some 2 else(none:Option Nat)) r t2;cases o with
 |none=>
  refine iP (k:=2) (fun m=>if m=0 then w else if m=1 then b else r) _ rfl (fun m m' h h' e=>?_) (fun m h=>?_) (fun n m h=>?_) (fun m oL h=>?_) (av (bI t0) hba) hlo (out 2 (by decide) (by decide) (fun q=>by omega))
  ·have:m=0\/m=1:=by omega
   have:m'=0\/m'=1:=by omega
   rcases ‹m=0\/m=1› with rfl|rfl<;>rcases ‹m'=0\/m'=1› with rfl|rfl<;>first|rfl|(exfalso;simp at e;omega)
  ·have:m=0\/m=1:=by omega
   rcases this with rfl|rfl<;>simp<;>omega
  ·split at h
   ·rename_i q;cases h;exact⟨by decide,q.symm⟩
   split at h
   ·rename_i q;cases h;exact⟨by decide,q.symm⟩
   split at h
   ·rename_i q;exact absurd q.2 (by simp)
   cases h
  have hm:m<2:=aL h;obtain⟨_,h2⟩:=bY h;have:m=0\/m=1:=by omega
  rcases this with rfl|rfl
  ·rw[ab]at h2;cases h2;exact⟨by decide,_,hw,sU t0 t1⟩
  rw[aa (by decide),ab]at h2;cases h2;exact⟨by decide,_,hr,aT aj (aB b7.h)⟩
 |some o'=>
  obtain⟨k0,k1,k2⟩:=ho o' rfl;have hrn:=aL k0;refine iP (k:=3) (fun m=>if m=0 then w else if m=1 then b else r) _ rfl (fun m m' h h' e=>?_) (fun m h=>?_) (fun n m h=>?_) (fun m oL h=>?_) (av (bI t0) hba) hlo (out 3 (by decide) (by decide) (fun q=>by simp))
  ·have:m=0\/m=1\/m=2:=by omega
   have:m'=0\/m'=1\/m'=2:=by omega
   rcases ‹m=0\/m=1\/m=2› with rfl|rfl|rfl<;>rcases ‹m'=0\/m'=1\/m'=2› with rfl|rfl|rfl<;>first|rfl|(exfalso;simp at e;omega)
  ·have:m=0\/m=1\/m=2:=by omega
   rcases this with rfl|rfl|rfl<;>simp<;>omega
  ·split at h
   ·rename_i q;cases h;exact⟨by decide,q.symm⟩
   split at h
   ·rename_i q;cases h;exact⟨by decide,q.symm⟩
   split at h
   ·rename_i q;cases h;exact⟨by decide,q.1.symm⟩
   cases h
  have hm:m<3:=aL h;obtain⟨_,h2⟩:=bY h;have:m=0\/m=1\/m=2:=by omega
  rcases this with rfl|rfl|rfl
  ·rw[ab]at h2;cases h2;exact⟨by decide,_,hw,sU t0 t1⟩
  ·rw[aa (by decide),ab]at h2;cases h2;exact⟨by decide,_,hr,aT aj (aB b7.h)⟩
  rw[aa (by decide),aa (by decide),ab]at h2;cases h2;exact⟨by decide,_,k0,hbo _ rfl _ aj⟩
theorem FI{W:XW}{n b:Nat}{l:List UInt8}(h:W.get n=some (wo true n b l)):FO [.pointer (some ⟨n,0,none⟩)] W=some (.ret (.tuple #[]),W):=by
 unfold FO Af kf;simp only;rw[h];show(match(bif Nat.beq n n&&Nat.beq 0 0 then some (Value.tuple #[],W)else none:Option (Value×XW))with|some (v,W')=>some (aW.ret v,W')|none=>none)=_;rw[acb,acb];rfl
theorem UF{l:List UInt8}:FO [.pointer (some ⟨0,0,none⟩)] (wd [(0,some (wo false 0 1 l)),(1,some (cr l))] 2 [] 0)=some (.ret (.tuple #[]),wd [(0,some (wo true 0 1 l)),(0,some (wo false 0 1 l)),(1,some (cr l))] 2 [0] 1):=by kernel_rfl
theorem qK{P:Program}[hM:kz P]{N k:Nat}{s s':XS}{Q:XQ}{id:Nat}{ops:Array Oper}{H:ci}{p:Prop}(f:p)(b:dv P H)(q:Q .norm s')(h:p->fR P (bc P H 1) N none ops ops.toList s=some (.code .norm s'):=by intro hf;simp(disch:=first|decide|omega|(simp only[abP,List.length_cons,List.length_nil,abR,abT,abX]<;>omega)|(simp(disch:=decide) only[ae,ab,aa,b9.eq_1];done)) only[hf,jF,aJ,eF,dN,fZ,go_sem]<;>with_reducible rfl):ar P N k (.region id ops false) s Q:=aG b (h f) q
theorem Tu{n:Nat}(h:n<256):gq (.cells [.int .u8 (n:Nat)] 5 (0,0)) 1 1=some (.new (cr [UInt8.ofNat n]) fun k=>gs k 1 [UInt8.ofNat n]):=by
 have e:cr [UInt8.ofNat n]=.cells [.int .u8 (n:Nat)] 5 (0,0):=by show ah.cells [Value.int .u8 ((UInt8.ofNat n).toNat:Nat)] _ _=_;rw[show(UInt8.ofNat n).toNat=n from by simp;omega]
 rw[e];rfl
attribute [go_sem high] Tu
theorem Ps(a:Bool)(l:List UInt8)(n:Nat)(hn:n<256)(hl:l.length<1000000000000):Fb 69 (fun _=>[.int .u8 (n:Nat)]) none a l .nilIface (l++[UInt8.ofNat n]):=by
 refine⟨enters_of (by kernel_rfl),fun θ r _=>(inferInstance:b7 [Value.int .u8 (n:Nat)]).h _ aj,fun o h=>(by cases h),(inferInstance:Br .nilIface).h,?_⟩;show bg _ _ _ (wd [(0,some (wo a 0 1 l)),(1,some (cr l))] 2 [] 0) _;refine low Tryz.func69 Tryz.results69 (h:=?_);refine rs ?_;refine lA ⟨ao [(0,some (.pointer (some ⟨0,0,none⟩))),(1,some (.int .u8 (n:Nat))),(4,some .nilIface)],wd [(0,some (wo true 0 1 l)),(1,some (cr l))] 2 [] 0,[]⟩ ?_ ?_
 ·cases a with
  |true=>
   have hg:=FI (W:=wd [(0,some (wo true 0 1 l)),(1,some (cr l))] 2 [] 0) (n:=0) (b:=1) (l:=l) (by simp(disch:=decide) only[ae,ab,aa]);refine qK hg (bh D0) ?_;exact bL
  |false=>
   refine qK (UF (l:=l)) (bh D0) ?_;exact bL
 refine cv [(0,some (.pointer (some ⟨0,0,none⟩))),(1,some (.int .u8 (n:Nat))),(4,some .nilIface)] [(0,some (.cells [.pointer (some ⟨0,0,none⟩),gs 1 aq l] 84 (0,0))),(1,some (cr l))] 2 ?_;refine rs ?_;refine rs ?_;refine rt ?_;exact⟨rfl,3,by decide,by simp(disch:=decide) only[ae,ab,aa];rfl,by simp(disch:=decide) only[ae,ab,aa]⟩
section
variable {P:Program} {k:Nat} {F F':List (Nat×Option Value)} {L L':List (Nat×Option ah)} {n n' nl nl':Nat} {lg lg':List Nat}
theorem AH(R:List (Nat×Nat)){R1 R2:List (Nat×Option Nat)}(e1:R.map (fun p=>(p.1,some p.2))=R1:=by simp only[ack,acI]<;>rfl)(e2:R.map (fun p=>(p.2,some p.1))=R2:=by simp only[ack,acI]<;>rfl)
 (hR:ke k n' R2 R1=true:=by decide) (hRi:∀p∈R2,p.1<n':=by decide) (hk:k<=n':=by decide)
 (hF:cY (aP (lk R1)) F F':=by
  try dsimp only
  repeat' (first|exact di|refine bR (by decide) (by repeat (first|exact ab|refine Eq.trans (aa (by decide)) ?_)) (by first|exact ga (by decide) (by first|rfl|simp)|exact tv_gv (by decide) (by first|rfl|simp)|exact cC (by decide)|exact bI (by decide)|exact cI (by decide)|exact Br.h _ aj) ?_))
 (hL:gc P (aP (lk R1)) R1 n L L':=by
  try dsimp only
  repeat' (first|exact dP|exact kb|refine oN (by first|exact ab|exact ag ab (by decide)|exact ag (ag ab (by decide)) (by decide)|exact ag (ag (ag ab (by decide)) (by decide)) (by decide)|exact ag (ag (ag (ag ab (by decide)) (by decide)) (by decide)) (by decide)|exact ag (ag (ag (ag (ag ab (by decide)) (by decide)) (by decide)) (by decide)) (by decide)|exact ag (ag (ag (ag (ag (ag ab (by decide)) (by decide)) (by decide)) (by decide)) (by decide)) (by decide)) (by first|decide|omega) (by decide) (by repeat (first|exact ab|refine Eq.trans (aa (by decide)) ?_)) (by first|exact aT aj (aB b7.h)|with_reducible exact aT aj jO.h|exact sU (by decide) (by decide)|exact jf (by decide)|exact iy .nil|(refine cm ?_;repeat (first|exact aR|refine av (by first|exact yv|exact ga (by decide) (by first|rfl|simp)|exact tv_gv (by decide) (by first|rfl|simp)|exact cC (by decide)|exact bI (by decide)|exact cI (by decide)|exact Br.h _ aj) ?_))) ?_)) :
 bz P k ⟨ao F,wd L n lg nl,[]⟩ ⟨ao F',wd L' n' lg' nl',[]⟩:=fI R1 R2 hR hRi hk hF hL .nil
end
theorem Co{a b c:Nat}(ha:a<2^64)(hb:b<2^64)(hc:a ||| b=c)(hc2:c<2^63):nr .or .i64 (a:Int) (b:Int)=(c:Int):=by
 unfold nr;simp only;rw[AP,AP,BitVec.toNat_or,acY,acY,show a%2^IntKind.i64.bits=a from Nat.mod_eq_of_lt ha,show b%2^IntKind.i64.bits=b from Nat.mod_eq_of_lt hb,hc];exact wrap_i64 (by omega) (by omega)
theorem No{P:Program}{W:XW}{b n:Nat}{k:IntKind}{pe:TypeId}:wt P W (.pointer (some ⟨b,0,none⟩)) (.int k ((n+1:Nat):Int)) (some (.pointer pe))=zQ P W b (n+1) pe (W.get b):=rfl
theorem Tn{P:Program}{W:XW}{b n:Nat}{pe:TypeId}{c:List Value}{e:TypeId}{fr:Nat×Nat}:zQ P W b n pe (some (.cells c e fr))=bif Nat.ble n c.length&&Nat.beq e pe&&Nat.beq fr.1 0&&Nat.beq (P.cellsOf pe) 1&&Nat.ble n 1099511627776 then zi W b n c e fr (eJ (c.take n))else none:=rfl
theorem Ts{W:XW}{b n:Nat}{c:List Value}{e:TypeId}{fr:Nat×Nat}{l:List UInt8}:zi W b n c e fr (some l)=some (.mod (.string (str l)) (W.put b (some (.cells c e (0,Nat.max fr.2 n))))):=rfl
theorem TL:Tryz.prog.cellsOf 5=1:=by kernel_rfl
def ky(ns:List Int):List UInt8:=ns.flatMap fun n=>bZ n.toNat
def Bb(f a:Bool)(l:List UInt8)(o:ah):List (Nat×Option ah):=bif f then[(0,some (wo true 0 3 l)),(3,some (cr l)),(2,some o)]else[(0,some (wo a 0 1 l)),(1,some (cr l)),(2,some o)]
def T0(f a:Bool):Bool:=bif f then true else a
def wrb(f:Bool):Nat:=bif f then 3 else 1
theorem KA{f a:Bool}{l:List UInt8}{o:ah}{n:Nat}:A2 (fun _=>[.int .u8 (n:Nat)]) none (T0 f a) l .nilIface (l++[UInt8.ofNat n]) [.pointer (some ⟨0,0,none⟩),.int .u8 (n:Nat)] (wd (Bb f a l o) 4 [] 0)=some (.ret .nilIface,wd ((0,some (wo true 0 4 (l++[UInt8.ofNat n])))::(4,some (cr (l++[UInt8.ofNat n])))::(wrb f,none)::Bb f a l o) 5 [0,wrb f] 2):=by
 cases f with
 |true=>exact(xF 0 0 3 ⟨rfl,(ae (by decide) (by decide)).trans ab,(ae (by decide) (by decide)).trans ((aa (by decide)).trans ab),by decide,fun o' q=>by cases q⟩ (fun q=>absurd rfl q)).trans (by simp only[px.eq_2,i4,gI];rfl)
 |false=>exact(xF 0 0 1 ⟨rfl,(ae (by decide) (by decide)).trans ab,(ae (by decide) (by decide)).trans ((aa (by decide)).trans ab),by decide,fun o' q=>by cases q⟩ (fun q=>absurd rfl q)).trans (by simp only[px.eq_2,i4,gI];rfl)
set_option maxHeartbeats 2000000 in
theorem xx(a:Bool)(l0:List UInt8)(ns:List Int)(c:Nat)(h0:∀n∈ns,0<=n/\n<9223372036854775808)(hns:ns.length<=1000000)(hne:0<ns.length)(hl0:l0.length<900000000000):Fb 34 (fun r=>[gs r c ns]) (some (ro 3 ns)) a l0 (.tuple #[]) (l0++ky ns):=by
 refine⟨enters_of (by kernel_rfl),fun θ r h=>av (ga (h (by simp)) rfl) aR,fun o h=>(by cases h;exact aB b7.h),(inferInstance:Br (.tuple #[])).h,?_⟩;show bg _ _ _ (wd [(0,some (wo a 0 1 l0)),(1,some (cr l0)),(2,some (ro 3 ns))] 3 [] 0) _;refine low Tryz.func34 Tryz.results34 (h:=?_);show ar _ _ 3 _ _ _;refine rs ?_;refine fr (fun x:Nat×Bool×List UInt8=>⟨ao [(0,some (.pointer (some ⟨0,0,none⟩))),(6,some (gs 2 c ns)),(7,some (.int .i64 (ns.length:Nat))),(8,some (.int .i64 (x.1:Nat)))],wd (Bb x.2.1 a x.2.2 (ro 3 ns)) 4 [] 0,[]⟩)
  (fun x=>x.1<=ns.length/\(0<x.1->x.2.1=true)/\x.2.2.length<=l0.length+10*x.1/\x.2.2++ky (ns.drop x.1)=l0++ky ns) (fun x=>ns.length-x.1) (0,false,l0) ⟨abW _,fun h=>absurd h (Nat.lt_irrefl _),Nat.le_refl _,rfl⟩ (fun x hv h=>?_) (fun x hv h=>?_) (h0:=by
   show bz _ _ _ ⟨ao [(0,some (.pointer (some ⟨0,0,none⟩))),(6,some (gs 2 c ns)),(7,some (.int .i64 (ns.length:Nat))),(8,some (.int .i64 ((0:Nat):Int)))],wd [(0,some (wo a 0 1 l0)),(1,some (cr l0)),(2,some (ro 3 ns))] 4 [] 0,[]⟩;exact bL)
 ·obtain⟨i,f,acc⟩:=x;obtain⟨hi,hf,hle,heq⟩:=hv;simp only at h hi hf hle heq;have hb:=h0 _ (bj (l:=ns) (i:=i) (by omega));rw[ge (by omega)]at heq;generalize hn0:ns.getD i default=n0 at hb heq;obtain⟨n0,rfl⟩:∃a:Nat,n0=a:=⟨n0.toNat,by omega⟩;have hnx:ky ((n0:Int)::ns.drop (i+1))=bZ n0++ky (ns.drop (i+1)):=rfl;rw[hnx]at heq;have h10:=cK (n:=n0) (by omega);have hcl:b9 ((wd (Bb f a acc (ro 3 ns)) 4 [] 0).get 2)=some (ns.flatMap El.enc):=by cases f<;>simp(disch:=decide) only[Bb,cond_true,cond_false,ae,ab,aa]<;>rfl
  have hg2:(wd (Bb f a acc (ro 3 ns)) 4 [] 0).get 2=some (ro 3 ns):=by cases f<;>simp(disch:=decide) only[Bb,cond_true,cond_false,ae,ab,aa]
  refine bs (rf (And.intro hn0 hg2) ?_);refine ai ?_;refine fo (fun y:Nat×Bool×List UInt8=>⟨ao [(0,some (.pointer (some ⟨0,0,none⟩))),(5,some (.int .i64 (y.1:Nat))),(6,some (gs 2 c ns)),(7,some (.int .i64 (ns.length:Nat))),(8,some (.int .i64 (i:Nat)))],wd (Bb y.2.1 a y.2.2 (ro 3 ns)) 4 [] 0,[]⟩)
   (fun y=>y.1<9223372036854775808/\y.2.2++bZ y.1=acc++bZ n0) (fun y=>y.1) (n0,f,acc) ⟨by dsimp only;omega,rfl⟩ (fun y hv h=>?_) (fun y hv h=>?_) (h0:=by cases f<;>exact bL)
  ·obtain⟨n,g,ac⟩:=y;obtain⟨hn,he⟩:=hv;simp only at h hn he;have hl:=congrArg List.length he;rw[abP,abP]at hl;have hor:nr .or .i64 ((n%128:Nat):Int) ((128:Nat):Int)=((n%128+128:Nat):Int):=Co (by omega) (by decide) (by rw[show(128:Nat)=1*2^7 from rfl,LT (by omega)]) (by omega);have hgo:=KA (f:=g) (a:=a) (l:=ac) (o:=ro 3 ns) (n:=n%128+128);refine bs (qK (And.intro hor hgo) (bh (lT (Ps (T0 g a) ac (n%128+128) (by omega) (by omega)))) ?_);refine rl ?_;rw[vf (by omega)]at he;refine nx (n/128,true,ac++[UInt8.ofNat (n%128+128)]) ⟨by dsimp only;omega,by rw[acg];exact he⟩ (by dsimp only;omega) ?_;cases g<;>exact AH [(0,0),(4,3),(2,2)]
  obtain⟨n,g,ac⟩:=y;obtain⟨hn,he⟩:=hv;simp only at h hn he;have hl:=congrArg List.length he;rw[abP,abP]at hl;have hgo:=KA (f:=g) (a:=a) (l:=ac) (o:=ro 3 ns) (n:=n);refine qK hgo (bh (lT (Ps (T0 g a) ac n (by omega) (by omega)))) ?_;refine rl ?_;rw[iJ (by omega)]at he;refine nx (i+1,true,ac++[UInt8.ofNat n]) ⟨by dsimp only;omega,fun _=>rfl,by dsimp only;rw[he,abP];omega,by dsimp only;rw[he,acg];exact heq⟩ (by dsimp only;omega) ?_;cases g<;>exact AH [(0,0),(4,3),(2,2)]
 obtain⟨i,f,acc⟩:=x;obtain⟨hi,hf,hle,heq⟩:=hv;simp only at h hi hf hle heq;rw[aco (by omega)]at heq;have heq:acc=l0++ky ns:=by rw[<-heq];unfold ky;simp
 rw[hf (by omega),<-heq];refine re ?_;exact⟨rfl,3,by decide,(ae (by decide) (by decide)).trans ab,(ae (by decide) (by decide)).trans ((aa (by decide)).trans ab)⟩
structure Tx where
 b:List UInt8
instance:Inhabited Tx:=⟨⟨[]⟩⟩
instance:El Tx:=⟨fun t=>[.string (str t.b)],1,fun _=>rfl,fun _=>rfl,fun _=>inferInstance⟩
noncomputable instance:mu Tryz.prog Tx 9:=⟨fun t=>.string (str t.b),Tryz.t9,.string (str []),P1,rfl,Pj,rfl,fun _=>by kernel_rfl,fun _=>rfl⟩
@[go_sem] theorem enc_tx {t:Tx}:El.enc t=[Value.string (str t.b)]:=rfl
@[go_sem] theorem m_tx:El.m Tx=1:=rfl
@[go_sem high] theorem fold_tx {b:List UInt8}:gq (.cells [.string (str b)] 9 (0,0)) 1 1=some (.new (ro 9 [(⟨b⟩:Tx)]) fun k=>gs k 1 [(⟨b⟩:Tx)]):=rfl
def cL(o:List Ce)(j:Nat):Nat:=(o.getD j default).id.toNat/16
structure Ob where
 last:Int
 out:List Tx
 tree:List UInt8
noncomputable def eY(o:List Ce):Nat->Ob
 |0=>⟨-1,[],[]⟩
 |j+1=>if((cL o j:Nat):Int)=(eY o j).last then eY o j else⟨(cL o j:Nat),(eY o j).out++[⟨kL o (cL o j)⟩],(eY o j).tree++bZ (cL o j)++dR (kL o (cL o j))⟩
noncomputable def ib(l:List Ce):List Tx:=(eY (aM l) (aM l).length).out++[⟨2::(bZ (eY (aM l) (aM l).length).out.length++(eY (aM l) (aM l).length).tree)⟩]
theorem qY{o:List Ce}(h:∀c∈o,rk c):∀j,j<=o.length->(eY o j).out.length<=j/\(eY o j).tree.length<=42*j
 |0,_=>⟨Nat.le_refl _,Nat.le_refl _⟩
 |j+1,hj=>by
  have:=qY h j (by omega);have h2:=(h _ (bj (l:=o) (i:=j) (by omega))).id;have h3:=cK (n:=cL o j) (by unfold cL;omega);unfold eY;split
  ·omega
  simp only[abP,ab5,dB];omega
theorem ua:∀l:List UInt8,eJ (an l)=some l
 |[]=>rfl
 |b::l=>by
  have hb:=b.toNat_lt;show pJ b.toNat (eJ (an l))=_;rw[ua l];show(bif Nat.blt b.toNat 256 then some (UInt8.ofNat b.toNat::l)else none)=_;rw[mj hb];simp
theorem db{l:List UInt8}:(an l).length=l.length:=ab1 _
theorem GK{l:List Ce}{k:Nat}(h:∀c∈l,rk c)(hl:l.length<=1000000)(hk:k<9223372036854775808):(kL l k).length<=1000*l.length+21:=by
 have h1:=vn (k:=k) h _ (Nat.le_refl _);have h2:=cK (n:=k) hk;have h3:=cK (n:=(jS l k l.length).1) (by omega);rw[kL,List.length_cons,abP,abP];omega
theorem Nq{l:List UInt8}:List.take 32 (an (dR l))=an (dR l):=List.take_of_length_le (by rw[db,dB];exact Nat.le_refl _)
attribute [go_sem] Nq ua db dB
theorem IO(l:List Ce)(hl:l.length<=4000)(hs:∀c∈l,c.sd.length<=1000000)(hb:∀c∈aM l,rk c):Fr Tryz.prog 41 [gw l] 9 (ib l):=by
 have ho:=fl _ l (Nat.le_refl _);refine Pw Tryz.func41 Tryz.results41 (h:=?_);refine rs ?_;refine rc (b1 (wn l (by omega) hs)) ?_;unfold ib;generalize aM l=o at ho hb ⊢;refine rs ?_;refine rs ?_;refine rs ?_;refine rS ?_;refine fo (fun j:Nat=>⟨ao [(1,some (.pointer (some ⟨0,0,none⟩))),(3,some (gs 1 aq (eY o j).out)),(4,some (.string (str (eY o j).tree))),(5,some (.int .i64 (eY o j).last)),(6,some (.int .i64 (j:Nat)))],wd [(0,some (.cells [sl o] 40 (0,0))),(1,some (ro 9 (eY o j).out))] 2 [] 0,[]⟩) (fun j=>j<=o.length) (fun j=>o.length-j) 0 (abW _) (fun j hv h=>?_) (fun j hv h=>?_)
 ·have hbj:=hb _ (bj (l:=o) (i:=j) (by omega));have hlen:=qY (o:=o) hb j (by omega);have e1:eY o (j+1)=if((cL o j:Nat):Int)=(eY o j).last then eY o j else⟨(cL o j:Nat),(eY o j).out++[⟨kL o (cL o j)⟩],(eY o j).tree++bZ (cL o j)++dR (kL o (cL o j))⟩:=rfl
  have hk:cL o j=(o.getD j default).id.toNat/16:=rfl;obtain⟨a,ha⟩:∃a:Nat,(o.getD j default).id=a:=⟨_,(Int.toNat_of_nonneg hbj.id.1).symm⟩;rw[ha,ab2]at hk;have hk2:cL o j<576460752303423488:=by have:=hbj.id.2;omega
  have hbl:=GK (k:=cL o j) hb (by omega) (by omega);have hd:=cK (n:=cL o j) (by omega);have hsh:=dB (kL o (cL o j));have hbo:=N6 o (cL o j) (by omega) hk2 hb;generalize eY o j=B at hlen e1 ⊢;refine bs (rf ha ?_);rw[<-hk];by_cases h1:((cL o j:Nat):Int)=B.last
  ·rw[if_pos h1]at e1;refine rS ?_;refine ct ?_;refine xe ?_;refine rl ?_;refine nx (j+1) (by omega) (by omega) ?_;rw[e1];exact kp
  rw[if_neg h1]at e1;refine rS ?_;refine cf ?_;refine sk (rs ?_);refine rc (b1 hbo) ?_;refine eO (FF (W:=wd [(0,some (.cells [sl o] 40 (0,0))),(1,some (ro 9 B.out))] 2 [] 0) (l:=kL o (cL o j)) (by omega)) (bh D8) ?_;refine rs ?_;refine O6 (db (l:=dR (kL o (cL o j)))) (bh xr) ?_;refine rl ?_;refine nx (j+1) (by omega) (by omega) ?_;rw[e1];exact rn [(0,0),(4,1)]
 have hlen:=qY (o:=o) hb j (by omega);rw[show j=o.length by omega]at hlen ⊢;generalize eY o o.length=B at hlen ⊢;have hd:=cK (n:=B.out.length) (by omega);refine rc (bh xr) ?_;refine rt ?_;refine⟨3,?_,?_⟩
 ·rfl
 exact(ae (by decide) (by decide)).trans ab
attribute [go_sem] JE
structure Oj where
 h:HB
 t:List UInt8
instance:Inhabited Oj:=⟨⟨⟨List.replicate 32 0,rfl⟩,[]⟩⟩
instance {l:List UInt8}:b7 (an l):=⟨AY l⟩
instance:El Oj:=⟨fun o=>an o.h.1++[.string (str o.t)],33,fun o=>by rw[abP,db,o.h.2];rfl,fun o=>by rw[ade,m4];rfl,fun _=>inferInstance⟩
theorem Uk{o:Oj}:El.enc o=an o.h.1++[Value.string (str o.t)]:=rfl
theorem JK{o:Oj}:(an o.h.1++[Value.string (str o.t)]).length=33:=by rw[abP,db,o.h.2];rfl
theorem V1{o:Oj}:gA Tryz.prog 72 (an o.h.1++[Value.string (str o.t)]) 0=some (.agg (an o.h.1++[Value.string (str o.t)]).toArray):=by
 unfold gA;rw[PS,Wl];show(bif Nat.beq (((an o.h.1++[Value.string (str o.t)]).drop 0).take 33).length 33 then some (Value.agg (((an o.h.1++[Value.string (str o.t)]).drop 0).take 33).toArray)else none)=_;rw[List.drop_zero,List.take_of_length_le (by rw[JK];exact Nat.le_refl _),JK];rfl
noncomputable instance:mu Tryz.prog Oj 72:=⟨fun o=>Value.agg (an o.h.1++[Value.string (str o.t)]).toArray,Tryz.t72,_,KJ,rfl,JY,rfl,fun _=>V1,fun _=>rfl⟩
theorem Kh{W:XW}{h:HB}{r:List Value}:jB Tryz.prog W 24 (FP (an h.1++r))=some (bu h):=by
 rw[zB];unfold gA;rw[H8,OY];show(bif Nat.beq (((an h.1++r).drop 0).take 32).length 32 then some (Value.agg (((an h.1++r).drop 0).take 32).toArray)else none)=_;rw[List.drop_zero,List.take_left' (by rw[db,h.2]),db,h.2];rfl
abbrev cd(l:List Oj):ah:=.cells [sl l] 69 (0,0)
def gF(h:HB):List Oj->Nat
 |[]=>0
 |o::l=>if cM o.h h=true then gF h l+1 else 0
theorem ES(h:HB):∀l,gF h l<=l.length
 |[]=>Nat.le_refl _
 |o::l=>by
  have:=ES h l;unfold gF;split
  ·rw[List.length_cons];omega
  exact abW _
open Classical in
noncomputable def pQ(l:List Oj)(t:List UInt8):List Oj:=if gF (bq t) l<l.length/\(l.getD (gF (bq t) l) default).h=bq t then l else l.take (gF (bq t) l)++⟨bq t,t⟩::l.drop (gF (bq t) l)
instance {h:HB}:Br (bu h):=⟨wg h⟩
theorem PR{h:HB}:gA Tryz.prog 24 (an h.1) 0=some (bu h):=by
 have:=Kh (W:=wd [] 0 [] 0) (h:=h) (r:=[]);rwa [List.append_nil,zB]at this
theorem M0{h:HB}:(bu h).cells=(an h.1).toArray:=rfl
theorem X6{h:HB}:h.1.length=32:=h.2
theorem T6{l:List UInt8}{W:XW}(h:l.length<=140737488351232):uA [.string (str l)] W=some (.ret (bu (bq l)),W):=FF h
theorem Sv{a b:HB}{W:XW}:mo u7 [bu a,bu b] W=some (.ret (.bool (cM a b)),W):=by
 unfold mo;rw[M5];rfl
attribute [go_sem ↓ high] M0
attribute [go_sem] PR Kh X6 T6 Sv Uk
@[go_sem] theorem m_oj:El.m Oj=33:=rfl
abbrev zH:ah:=.cells (an (List.replicate 32 0)) 24 (0,0)
abbrev hH(h:HB):ah:=.cells (an h.1) 24 (0,0)
theorem V7:List.drop 32 (an (List.replicate 32 0))=[]:=rfl
theorem Q4{h:HB}{r:List Value}:List.take 32 (an h.1++r)=an h.1:=List.take_left' (by rw[db,h.2])
theorem DP{h:HB}:List.take 32 (an h.1)=an h.1:=List.take_of_length_le (by rw[db,h.2];exact Nat.le_refl _)
theorem QI{h:HB}:Value.agg (an h.1).toArray=bu h:=rfl
theorem Dy{h:HB}{v:Value}:(an h.1++[v]).length=33:=by rw[abP,db,h.2];rfl
theorem Qk{h:HB}{v:Value}:List.drop 33 (an h.1++[v])=[]:=acu (by rw[Dy];exact Nat.le_refl _)
theorem TB{h:HB}{v:Value}:List.take 33 (an h.1++[v])=an h.1++[v]:=List.take_of_length_le (by rw[Dy];exact Nat.le_refl _)
@[go_sem high] theorem fold_oj {h:HB} {t:List UInt8}:gq (.cells (an h.1++[.string (str t)]) 72 (0,0)) 1 1=some (.new (ro 72 [(⟨h,t⟩:Oj)]) fun k=>gs k 1 [(⟨h,t⟩:Oj)]):=by
 have e:ro 72 [(⟨h,t⟩:Oj)]=.cells (an h.1++[Value.string (str t)]) 72 (0,0):=by unfold ro;rw[ab7,acV,List.append_nil];rfl
 rw[e];rfl
attribute [go_sem] Qk TB
attribute [go_sem high] Dy
theorem Zm{a b:HB}{x y:Operand}:dH Tryz.prog .eql 24 x y (some (bu a)) (some (bu b))=some (.val (some (.bool (decide (a=b))))):=by
 refine(CC jx a.2 b.2).1.trans ?_;by_cases h:a=b
 ·subst h;simp
 rw[decide_eq_false h,show(a.1==b.1)=false from by
  have:a.1≠b.1:=fun e=>h (Subtype.ext e)
  simpa using this]
theorem Zf{a b:HB}{x y:Operand}:dH Tryz.prog .neq 24 x y (some (bu a)) (some (bu b))=some (.val (some (.bool (!decide (a=b))))):=by
 refine(CC jx a.2 b.2).2.trans ?_;by_cases h:a=b
 ·subst h;simp
 rw[decide_eq_false h,show(a.1==b.1)=false from by
  have:a.1≠b.1:=fun e=>h (Subtype.ext e)
  simpa using this]
attribute [go_sem] Zm Zf V7 zH hH Q4 DP QI
set_option maxHeartbeats 4000000 in
theorem Qx(l:List Oj)(t:List UInt8)(hl:l.length<=1000000)(ht:t.length<=140737488351232):Fo Tryz.prog 11 [.string (str t)] (cd l) (.ret (bu (bq t))) (cd (pQ l t)):=by
 have hp:=ES (bq t) l;refine nZ Tryz.func11 Tryz.results11 (h:=?_);refine rs ?_;refine rc (bh D8) ?_;refine rs ?_;refine lA ⟨ao [(0,some (.pointer (some ⟨0,0,none⟩))),(1,some (.string (str t))),(4,some (.pointer (some ⟨1,0,none⟩))),(5,some (.pointer (some ⟨2,0,none⟩))),(6,some (.int .i64 (gF (bq t) l:Nat)))],wd [(0,some (cd l)),(1,some zH),(2,some (hH (bq t)))] 3 [] 0,[]⟩ ?_ ?_
 ·refine fo (fun k:Nat=>⟨ao [(0,some (.pointer (some ⟨0,0,none⟩))),(1,some (.string (str t))),(4,some (.pointer (some ⟨1,0,none⟩))),(5,some (.pointer (some ⟨2,0,none⟩))),(6,some (.int .i64 (k:Nat)))],wd [(0,some (cd l)),(1,some zH),(2,some (hH (bq t)))] 3 [] 0,[]⟩) (fun k=>k<=l.length/\k+gF (bq t) (l.drop k)=gF (bq t) l) (fun k=>l.length-k) 0 ⟨abW _,by simp⟩ (fun k hv h=>?_) (fun k hv h=>?_)
  ·obtain⟨h1,h2⟩:=hv;rw[ge (by omega),gF]at h2;refine aK ?_;refine Hi (bh X2) ?_;refine rS ?_;refine cb (fun h3=>?_) (fun h3=>?_)
   ·have h4:cM (l.getD k default).h (bq t)=false:=by simpa using h3
    rw[h4,if_neg (by decide)]at h2;refine xe ?_;exact bL
   have h4:cM (l.getD k default).h (bq t)=true:=by simpa using h3
   rw[if_pos h4]at h2;refine ap (rl ?_);exact nx (k+1) ⟨by omega,by omega⟩
  obtain⟨h1,h2⟩:=hv;rw[aco (by omega),gF]at h2;exact bL
 have e0:pQ l t=if gF (bq t) l<l.length/\(l.getD (gF (bq t) l) default).h=bq t then l else l.take (gF (bq t) l)++⟨bq t,t⟩::l.drop (gF (bq t) l):=rfl
 by_cases h1:gF (bq t) l<l.length/\(l.getD (gF (bq t) l) default).h=bq t
 ·rw[if_pos h1]at e0;obtain⟨h1,h2⟩:=h1;refine LO h2 ?_;refine ct ?_;refine rs ?_;refine rt ?_;refine⟨rfl,?_⟩;rw[e0];simp(disch:=decide) only[ae,ab,aa]
 rw[if_neg h1]at e0;refine Ll ?_ ?_
 ·by_cases h2:gF (bq t) l<l.length
  ·have h3:(l.getD (gF (bq t) l) default).h≠bq t:=fun q=>h1 ⟨h2,q⟩
   refine rd ?_;refine cf ?_;exact ap bL
  refine rd ?_;refine cf ?_;exact ap bL
 refine rs ?_;refine cv [(0,some (.pointer (some ⟨0,0,none⟩))),(1,some (.string (str t))),(4,some (.pointer (some ⟨1,0,none⟩))),(5,some (.pointer (some ⟨2,0,none⟩))),(6,some (.int .i64 (gF (bq t) l:Nat))),(8,some (gs 3 aq ([]:List Oj)))] [(0,some (cd l)),(1,some zH),(2,some (hH (bq t))),(3,some (ro 72 ([]:List Oj)))] 4 ?_;refine rs ?_;refine rs ?_;refine rs ?_;refine rs ?_;refine cv [(4,some (.pointer (some ⟨1,0,none⟩)))] [(0,some (cd (l.take (gF (bq t) l)++[⟨bq t,t⟩]++l.drop (gF (bq t) l)))),(1,some (hH (bq t)))] 9 ?_ (hl:=fz 7);refine rt ?_;refine⟨rfl,?_⟩;rw[e0,acg];simp(disch:=decide) only[ae,ab,aa];rfl
instance:Inhabited HB:=⟨⟨List.replicate 32 0,rfl⟩⟩
instance:El HB:=⟨fun h=>an h.1,32,fun h=>by rw[db,h.2],fun _=>m4,fun _=>inferInstance⟩
noncomputable instance:mu Tryz.prog HB 24:=⟨bu,Tryz.t24,_,Ld,rfl,Kq,rfl,fun _=>PR,fun _=>rfl⟩
@[go_sem] theorem enc_hb {h:HB}:El.enc h=an h.1:=rfl
@[go_sem] theorem m_hb:El.m HB=32:=rfl
@[go_sem high] theorem fold_hbs {h:HB}:gq (.cells (an h.1) 24 (0,0)) 1 1=some (.new (ro 24 [h]) fun k=>gs k 1 [h]):=by
 have e:ro 24 [h]=.cells (an h.1) 24 (0,0):=by unfold ro;rw[ab7,acV,List.append_nil];rfl
 rw[e];rfl
theorem RU(l:List Oj)(hl:l.length<=1000000):Fo Tryz.prog 30 [] (cd l) (.ret (sl (l.map (·.h)))) (cd l):=by
 refine nZ Tryz.func30 Tryz.results30 (h:=?_);refine rs ?_;refine rs ?_;refine rS ?_;refine fo (fun i:Nat=>⟨ao [(0,some (.pointer (some ⟨0,0,none⟩))),(3,some (gs 1 aq ((l.take i).map (·.h)))),(4,some (.int .i64 (i:Nat)))],wd [(0,some (cd l)),(1,some (ro 24 ((l.take i).map (·.h))))] 2 [] 0,[]⟩) (fun i=>i<=l.length) (fun i=>l.length-i) 0 (abW _) (fun i hv h=>?_) (fun i hv h=>?_)
 ·have e:(l.take (i+1)).map (·.h)=(l.take i).map (·.h)++[(l.getD i default).h]:=by
   rw[List.take_succ,acn,abV,abS (by omega)];rfl
  have hlm:((l.take i).map (·.h)).length=i:=by rw[ab1,abR];omega
  refine bs (rl ?_);refine rl ?_;refine nx (i+1) (by omega) (by omega) ?_;rw[e];exact rn [(0,0),(3,1)]
 rw[show i=l.length by omega];have hlm:(l.map (·.h)).length=l.length:=ab1 _;refine rs ?_;refine cv [(2,some (sl (l.map (·.h))))] [(0,some (cd l))] 9 ?_ (hl:=fz 1);refine rt ?_;exact⟨rfl,by simp(disch:=decide) only[ae,ab,aa]⟩
theorem RC{h:HB}{r:List Value}:List.drop 32 (an h.1++r)=r:=List.drop_left' (by rw[db,h.2])
attribute [go_sem] RC
def bM(h:HB):List Oj->Option (List UInt8)
 |[]=>none
 |o::l=>if o.h=h then some o.t else bM h l
theorem F3(l:List Oj)(h:HB)(hl:l.length<=1000000):Fo Tryz.prog 13 [bu h] (cd l) (.ret (.tuple #[.string (str ((bM h l).getD [])),.bool (bM h l).isSome])) (cd l):=by
 refine nZ Tryz.func13 Tryz.results13 (h:=?_);refine rs ?_;refine rS ?_;refine fo (fun i:Nat=>⟨ao [(0,some (.pointer (some ⟨0,0,none⟩))),(3,some (.pointer (some ⟨1,0,none⟩))),(6,some (.int .i64 (i:Nat)))],wd [(0,some (cd l)),(1,some (hH h))] 2 [] 0,[]⟩) (fun i=>i<=l.length/\bM h (l.drop i)=bM h l) (fun i=>l.length-i) 0 ⟨abW _,rfl⟩ (fun i hv h1=>?_) (fun i hv h1=>?_)
 ·obtain⟨hi,hq⟩:=hv;rw[ge (by omega),bM]at hq;refine bs (rd ?_);refine cp (fun h2=>?_) (fun h2=>?_)
  ·rw[if_pos h2]at hq;refine rs ?_;refine rt ?_;rw[<-hq];exact⟨rfl,by simp(disch:=decide) only[ae,ab,aa]⟩
  rw[if_neg h2]at hq;refine ap (rl ?_);exact nx (i+1) ⟨by omega,hq⟩
 obtain⟨hi,hq⟩:=hv;rw[aco (by omega),bM]at hq;refine rs ?_;refine rt ?_;rw[<-hq];exact⟨rfl,by simp(disch:=decide) only[ae,ab,aa]⟩
abbrev BL:Value:=.tuple #[.int .i64 32,.nilIface]
theorem Yz(a:Bool)(l:List UInt8)(h:HB)(hl:l.length<900000000000):Fb 38 (fun r=>[.slice (some ⟨r,0,none⟩) 32 32]) (some (hH h)) a l BL (l++h.1):=by
 have hsrc:fE (wd [(0,some (.cells [.pointer (some ⟨0,0,none⟩),gs 1 aq l] 84 (0,0))),(1,some (cr l)),(2,some (hH h))] 3 [] 0) 1 32 (.slice (some ⟨2,0,none⟩) 32 32)=some (h.1.flatMap El.enc):=by
  rw[I5];show(bif Nat.beq 32 0 then some []else match(wd [(0,some (.cells [.pointer (some ⟨0,0,none⟩),gs 1 aq l] 84 (0,0))),(1,some (cr l)),(2,some (hH h))] 3 [] 0).get 2 with
   |some (.cells c _ _)=>bif Nat.beq ((c.drop 0).take (32*1)).length (32*1)then some ((c.drop 0).take (32*1))else none
   |_=>none)=_
  rw[ae (by decide) (by decide),aa (by decide),aa (by decide),ab];simp only[List.drop_zero,Nat.mul_one,DP,db,h.2];rfl
 have hh:=h.2;refine⟨enters_of (by kernel_rfl),fun θ r h=>av (cC (h (by simp))) aR,fun o h=>(by cases h;exact aB b7.h),(inferInstance:Br BL).h,?_⟩;show bg _ _ _ (wd [(0,some (wo a 0 1 l)),(1,some (cr l)),(2,some (hH h))] 3 [] 0) _;refine low Tryz.func38 Tryz.results38 (h:=?_);show ar _ _ 3 _ _ _;refine rs ?_;refine lA ⟨ao [(0,some (.pointer (some ⟨0,0,none⟩))),(1,some (.slice (some ⟨2,0,none⟩) 32 32)),(4,some (.int .i64 0)),(5,some .nilIface)],wd [(0,some (wo true 0 1 l)),(1,some (cr l)),(2,some (hH h))] 3 [] 0,[]⟩ ?_ ?_
 ·cases a with
  |true=>
   have hg:=FI (W:=wd [(0,some (wo true 0 1 l)),(1,some (cr l)),(2,some (hH h))] 3 [] 0) (n:=0) (b:=1) (l:=l) (by simp(disch:=decide) only[ae,ab,aa]);refine qK hg (bh D0) ?_;exact bL
  |false=>
   have hg:FO [.pointer (some ⟨0,0,none⟩)] (wd [(0,some (wo false 0 1 l)),(1,some (cr l)),(2,some (hH h))] 3 [] 0)=some (.ret (.tuple #[]),wd [(0,some (wo true 0 1 l)),(0,some (wo false 0 1 l)),(1,some (cr l)),(2,some (hH h))] 3 [0] 1):=by kernel_rfl
   refine qK hg (bh D0) ?_;exact bL
 refine cv [(0,some (.pointer (some ⟨0,0,none⟩))),(1,some (.slice (some ⟨2,0,none⟩) 32 32)),(4,some (.int .i64 0)),(5,some .nilIface)] [(0,some (.cells [.pointer (some ⟨0,0,none⟩),gs 1 aq l] 84 (0,0))),(1,some (cr l)),(2,some (hH h))] 3 ?_;refine rf (And.intro hsrc hh) ?_;refine rs ?_;refine rt ?_;exact⟨rfl,3,by decide,by simp(disch:=decide) only[ae,ab,aa];rfl,by simp(disch:=decide) only[ae,ab,aa]⟩
theorem Wh(l:List UInt8)(h0:l≠[])(hl:l.length<1000000000000):bg Tryz.prog 39 [.pointer (some ⟨0,0,none⟩)] (wd [(0,some (wo true 0 1 l)),(1,some (cr l))] 2 [] 0) fun e W'=>e=.ret (.string (str l)):=by
 obtain⟨n,hn⟩:∃n,l.length=n+1:=⟨l.length-1,by have:l.length≠0:=fun e=>h0 (List.length_eq_zero_iff.1 e);omega⟩;refine low Tryz.func39 Tryz.results39 (h:=?_);show ar _ _ 2 _ _ _;refine rs ?_;refine cv [(0,some (.pointer (some ⟨0,0,none⟩)))] [(0,some (.cells [.pointer (some ⟨0,0,none⟩),.slice (some ⟨1,0,none⟩) (n+1) aq] 84 (0,0))),(1,some (.cells (an l) 5 (0,0)))] 2 ?_ (hl:=by
  rw[show(ah.cells (an l) 5 (0,0))=cr l by rw[<-I5]];rw[<-hn];exact bL)
 refine tu (And.intro Tryz.underlying145 (And.intro @No (And.intro @Tn (And.intro TL (And.intro vz (And.intro @Ts (And.intro (show List.take (n+1) (an l)=an l from List.take_of_length_le (by rw[db];omega)) hn))))))) ?_;refine rt ?_;rfl
open Classical in
noncomputable def hks(l:List UInt8):HF:=fun A W=>if h:∃q:Nat×Nat,A=[.pointer (some ⟨q.1,0,none⟩)]/\W.get q.1=some (wo true q.1 q.2 l)/\W.get q.2=some (cr l)/\q.1≠q.2 then some (.ret (.string (str l)),(W.put h.choose.1 none).put h.choose.2 none)else none
theorem Ms{l:List UInt8}{W:XW}(w b:Nat)(hw:W.get w=some (wo true w b l))(hb:W.get b=some (cr l))(hwb:w≠b):hks l [.pointer (some ⟨w,0,none⟩)] W=some (.ret (.string (str l)),(W.put w none).put b none):=by
 have hx:∃q:Nat×Nat,[Value.pointer (some ⟨w,0,none⟩)]=[.pointer (some ⟨q.1,0,none⟩)]/\W.get q.1=some (wo true q.1 q.2 l)/\W.get q.2=some (cr l)/\q.1≠q.2:=⟨(w,b),rfl,hw,hb,hwb⟩;have hs:=hx.choose_spec;unfold hks;rw[dif_pos hx];generalize hx.choose=q at hs ⊢;obtain⟨w',b'⟩:=q;obtain⟨h1,h2,_,_⟩:=hs;have e1:w=w':=GC h1;subst e1;simp only at h2 ⊢;rw[hw]at h2;rw[Kn (Option.some.inj h2)]
theorem Mh(l:List UInt8)(h0:l≠[])(hl:l.length<1000000000000):bS Tryz.prog 39 (hks l):=by
 have key:∀A W e' W',hks l A W=some (e',W')->∃w b,A=[.pointer (some ⟨w,0,none⟩)]/\W.get w=some (wo true w b l)/\W.get b=some (cr l)/\w≠b/\e'=.ret (.string (str l))/\W'=(W.put w none).put b none:=fun A W e' W' q=>by
  unfold hks at q;split at q
  ·rename_i hx;cases q;exact⟨_,_,hx.choose_spec.1,hx.choose_spec.2.1,hx.choose_spec.2.2.1,hx.choose_spec.2.2.2,rfl,rfl⟩
  cases q
 refine⟨enters_of (by kernel_rfl),fun A W e' W' q=>?_,fun A W e' W' q=>?_⟩
 ·obtain⟨w,b,_,_,_,_,_,rfl⟩:=key _ _ _ _ q;exact(bC.put _ _ _).trans (bC.put _ _ _)
 obtain⟨w,b,rfl,hw,hr,hwb,rfl,rfl⟩:=key _ _ _ _ q;have hwn:=aL hw;have hbn:=aL hr;have t0:(fun n=>if n=w then some 0 else if n=b then some 1 else(none:Option Nat)) w=some 0:=if_pos rfl;have t1:(fun n=>if n=w then some 0 else if n=b then some 1 else(none:Option Nat)) b=some 1:=by simp only[if_neg (Ne.symm hwb),if_pos]
 refine iP (k:=2) (fun m=>if m=0 then w else b) (fun n=>if n=w then some 0 else if n=b then some 1 else none) rfl (fun m m' h h' e=>?_) (fun m h=>?_) (fun n m h=>?_) (fun m oL h=>?_) (av (bI t0) aR) (Wh l h0 hl) (fun eL WL' hS=>?_)
 ·by_cases h0:m=0<;>by_cases h1:m'=0<;>simp only[h0,h1,if_true,if_false]at e ⊢
  ·exact absurd e hwb
  ·exact absurd e.symm hwb
  omega
 ·split<;>omega
 ·split at h
  ·rename_i q;cases h;exact⟨by decide,q.symm⟩
  split at h
  ·rename_i q;cases h;exact⟨by decide,q.symm⟩
  cases h
 ·have hm:m<2:=aL h;obtain⟨_,h2⟩:=bY h;have:m=0\/m=1:=by omega
  rcases this with rfl|rfl
  ·rw[ab]at h2;cases h2;exact⟨by decide,_,hw,sU t0 t1⟩
  rw[aa (by decide),ab]at h2;cases h2;exact⟨by decide,_,hr,aT aj (aB b7.h)⟩
 subst hS;refine⟨fun _=>none,fun m x h=>(by cases h),fun m m' x h _=>(by cases h),fun x o' h=>?_,(inferInstance:Br (.string (str l))).h _ aj,Nat.le_refl _⟩;rcases XW.get_put h with⟨_,z⟩|⟨z1,z2⟩
 ·cases z
 rcases XW.get_put z2 with⟨_,z⟩|⟨y1,y2⟩
 ·cases z
 refine .inr ⟨y2,aL y2,fun m hm=>?_⟩;split
 ·exact fun z=>y1 z.symm
 exact fun z=>z1 z.symm
attribute [go_sem] EJ
theorem Oh{h:HB}:List.drop 32 (an h.1)=[]:=acu (by rw[db,h.2];exact Nat.le_refl _)
attribute [go_sem] Oh
def hZ:HB:=⟨List.replicate 32 0,rfl⟩
noncomputable def rA(L:List Oj)(os:List Tx):Nat->List Oj
 |0=>L
 |i+1=>pQ (rA L os i) (os.getD i default).b
def hI(os:List Tx):Nat->HB
 |0=>hZ
 |i+1=>bq (os.getD i default).b
noncomputable def sV(L:List Oj)(l:List Ce):List Oj:=if(ei l).2=0 then rA L (ib l) (ib l).length else L
noncomputable def Eg(l:List Ce):HB:=if(ei l).2=0 then hI (ib l) (ib l).length else hZ
theorem Ow{L:List Oj}{t:List UInt8}:(pQ L t).length<=L.length+1:=by
 have:=ES (bq t) L;unfold pQ;split
 ·omega
 rw[abP,List.length_cons,abR,abT];omega
theorem yQ{L:List Oj}{os:List Tx}:∀i,(rA L os i).length<=L.length+i
 |0=>Nat.le_refl _
 |i+1=>by
  have:=yQ (L:=L) (os:=os) i;have:=Ow (L:=rA L os i) (t:=(os.getD i default).b);rw[rA];omega
theorem wP{β:Type}{f:Nat->Option β}{r:β}:∀{n:Nat},kw f n=some r->∃i,i<n/\f i=some r
 |0,h=>by cases h
 |n+1,h=>by
  cases e:kw f n with
  |none=>rw[mh e]at h;exact⟨n,aci _,h⟩
  |some q=>
   rw[kw,e]at h;cases h;obtain⟨i,h1,h2⟩:=wP e;exact⟨i,by omega,h2⟩
theorem MY{o u:List Ce}{i:Nat}{r:Int×Int}(h:mH o u i=some r):r.2≠0:=by
 unfold mH at h;split at h
 ·cases h;simp
 split at h
 ·rename_i q;cases h;exact q
 cases h
theorem MV{o:List Ce}{i:Nat}{r:Int×Int}(h:ol o i=some r):r.2≠0:=by
 unfold ol at h;split at h
 ·cases h
 split at h
 ·rename_i q;cases h;exact q
 cases h
theorem D6{l:List Ce}(h:(ei l).2=0):l.length<=4000/\(∀j,j<(aM l).length->mH (aM l) (my l) j=none)/\∀j,j<(aM l).length->ol (aM l) j=none:=by
 unfold ei at h;split at h
 ·cases h
 rename_i h0;split at h
 ·rename_i r e;obtain⟨i,_,q⟩:=wP e;exact absurd h (MY q)
 rename_i e1;split at h
 ·rename_i r e;obtain⟨i,_,q⟩:=wP e;exact absurd h (MV q)
 rename_i e2;exact⟨by omega,m8 e1,m8 e2⟩
theorem Ti{l:List Ce}{id:Int}{m:Nat}(h:nE l id=m):m<l.length/\(l.getD m default).id=id:=by
 unfold nE at h;split at h
 ·rename_i q;have:=Int.ofNat.inj h;rw[<-this];exact q
 omega
theorem ry{l:List Ce}(h:(ei l).2=0)(hid:∀c∈l,c.id<9223372036854775808):l.length<=4000/\∀c∈aM l,rk c:=by
 obtain⟨h0,h1,_⟩:=D6 h;have huq:my l=dQ (aM l) (aM l).length:=rfl;have hm:=jE _ l (Nat.le_refl _);generalize aM l=o at h1 huq hm ⊢;have hu2:my l=o:=by rw[huq,su (fun j hj q=>(na (h1 j hj)).1 (.inr q)) _ (Nat.le_refl _),List.take_length]
 rw[hu2]at h1;have hall:∀c∈o,1<=c.id/\c.id<9223372036854775808/\dI o c=0:=fun c hc=>by
  obtain⟨c0,k1,k2⟩:=hm c hc;have:=hid c0 k1;obtain⟨j,hj,rfl⟩:=acp hc;have hk:=na (h1 j hj);rw[abV,abS hj]at hk;obtain⟨a1,a2⟩:=hk;have e:o[j].id=c0.id:=by rw[k2]
  refine⟨?_,by rw[e];exact this,a2⟩;have:¬o[j].id<1:=fun q=>a1 (.inl q)
  omega
 refine⟨h0,fun c hc=>?_⟩;obtain⟨b1,b2,b3⟩:=hall c hc;have hse:=BX (fun c hc=>(hall c hc).2.2) hc;obtain⟨f1,_⟩:=zI b3;refine⟨⟨by omega,b2⟩,by omega,hse.few,fun s hs=>?_⟩;obtain⟨i,hi,rfl⟩:=acp hs;obtain⟨m,h2,h3⟩:=hse.at_ i hi;rw[abV,abS hi]at h3;obtain⟨g1,g2⟩:=Ti h3;have:=hall _ (bj g1);rw[g2]at this;change 1<=c.sd[i].1/\c.sd[i].1<_/\_ at this;omega
theorem yR{o:List Ce}(h:∀c∈o,rk c)(hl:o.length<=1000000):∀j,j<=o.length->∀t∈(eY o j).out,t.b.length<=1000*o.length+21
 |0,_,t,ht=>by cases ht
 |j+1,hj,t,ht=>by
  unfold eY at ht;split at ht
  ·exact yR h hl j (by omega) t ht
  rcases List.mem_append.1 ht with ht|ht
  ·exact yR h hl j (by omega) t ht
  rw[List.mem_singleton.1 ht];have h2:=(h _ (bj (l:=o) (i:=j) (by omega))).id;exact GK h hl (by unfold cL;omega)
theorem Ex{l:List Ce}(hl:l.length<=4000)(hb:∀c∈aM l,rk c):(ib l).length<=4001/\∀t∈ib l,t.b.length<=5000000:=by
 have ho:=fl _ l (Nat.le_refl _);have h1:=qY hb _ (Nat.le_refl _);have h2:=yR hb (by omega) _ (Nat.le_refl _);unfold ib;generalize eY (aM l) (aM l).length=B at h1 h2 ⊢;have hd:=cK (n:=B.out.length) (by omega);refine⟨by rw[abP,ab5];omega,fun t ht=>?_⟩;rcases List.mem_append.1 ht with ht|ht
 ·have:=h2 t ht;omega
 rw[List.mem_singleton.1 ht,List.length_cons,abP];omega
set_option maxHeartbeats 4000000 in
theorem UD(L:List Oj)(l:List Ce)(hL:L.length<=900000)(hl:l.length<=1000000)(hs:∀c∈l,c.sd.length<=1000000)(hid:∀c∈l,c.id<9223372036854775808):Fo Tryz.prog 18 [gw l] (cd L) (.ret (.tuple #[bu (Eg l),.int .i64 (ei l).2])) (cd (sV L l)):=by
 refine nZ Tryz.func18 Tryz.results18 (h:=?_);refine rs ?_;refine rc (b1 (C0 l hl hs)) ?_;by_cases h0:(ei l).2=0
 ·obtain⟨k1,k2⟩:=ry h0 hid;obtain⟨k3,k4⟩:=Ex k1 k2;have e1:sV L l=rA L (ib l) (ib l).length:=if_pos h0;have e2:Eg l=hI (ib l) (ib l).length:=if_pos h0;have hob:=IO l k1 hs k2;rw[e1,e2];generalize ib l=os at k3 k4 hob ⊢;refine rS ?_;refine cf ?_;refine sk (rs ?_);refine rc (bh (xJ hob)) ?_;refine rS ?_;refine fo (fun i:Nat=>⟨ao [(0,some (.pointer (some ⟨0,0,none⟩))),(4,some (.pointer (some ⟨2,0,none⟩))),(7,some (.int .i64 (ei l).2)),(8,some (.pointer (some ⟨3,0,none⟩))),(9,some (sl os)),(10,some (.int .i64 (i:Nat)))],wd [(0,some (cd (rA L os i))),(2,some zH),(3,some (hH (hI os i)))] 5 [] 0,[]⟩) (fun i=>i<=os.length) (fun i=>os.length-i) 0 (abW _) (fun i hv h=>?_) (fun i hv h=>?_) (h0:=fz 4)
  ·have hm:=k4 _ (bj (l:=os) (i:=i) (by omega));have hpl:=yQ (L:=L) (os:=os) i;refine bs (qb (lL (Qx (rA L os i) (os.getD i default).b (by omega) (by omega))) ?_);refine rl ?_;exact nx (i+1) (by omega) (by omega) kp
  rw[show i=os.length by omega];refine rs ?_;refine rt ?_;rw[h0];exact⟨rfl,by simp(disch:=decide) only[ae,ab,aa]⟩
 have e1:sV L l=L:=if_neg h0;have e2:Eg l=hZ:=if_neg h0;rw[e1,e2];refine rS ?_;refine ct ?_;refine rs ?_;refine rt ?_;exact⟨rfl,by simp(disch:=decide) only[ae,ab,aa]⟩
end Go.Proofs.YthlkgmdkabelpaaGreat.X
