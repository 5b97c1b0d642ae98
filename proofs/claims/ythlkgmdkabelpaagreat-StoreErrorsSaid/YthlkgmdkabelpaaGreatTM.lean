/-
  Packed by program (tools/pack.py) out of the texts MBK MPA MPB MY1 MY2 MY5 MPC USI MY4 MPD. No condition.
-/
import Derived.Test.YthlkgmdkabelpaaGreatTK
import Derived.Test.YthlkgmdkabelpaaGreatTF
import Derived.Sort.Grow
import Derived.Shelf.SlGeneric
import Derived.Shelf.SlLaysM
import Derived.Ground.SlgmProg
import Derived.Ground.NamesProg
import Derived.Test.YthlkgmdkabelpaaGreatProg
import Derived.Shelf.SortM.Plain
import Derived.Shelf.SortM.SortNone
set_option linter.all false
namespace Go.Proofs.YthlkgmdkabelpaaGreat.X
open Go Go.RowKit Go.Proofs.YthlkgmdkabelpaaGreat.St
@[go_sem high] theorem fold_int3 {x y z:Int}:gr (.cells [.int .i64 x,.int .i64 y,.int .i64 z] 3 (0,0)) 3 3=some (.new (ro 3 [x,y,z]) fun k=>gs k 3 [x,y,z]):=rfl
@[go_sem high] theorem fold_int2 {x y:Int}:gr (.cells [.int .i64 x,.int .i64 y] 3 (0,0)) 2 2=some (.new (ro 3 [x,y]) fun k=>gs k 2 [x,y]):=rfl
theorem wz{a:Bool}{l l':List UInt8}{ns:List Int}{c w b N nl:Nat}{L:List (Nat×Option ag)}{lg:List Nat}(hw:lk L w=some (wo a w b l))(hb:lk L b=some (bX l))(hwb:w≠b)(h1:w<N)(h2:b<N)(h3:N<16383) :
 yK (fun r=>[gs r c ns]) (some (ro 3 ns)) a l (.tuple #[]) l' [.pointer (some ⟨w,0,none⟩),gs N c ns] (wd ((N,some (ro 3 ns))::L) (N+1) lg nl)=some (.ret (.tuple #[]),wd ((w,some (wo true w (N+1) l'))::(N+1,some (bX l'))::(b,none)::(N,none)::(N,some (ro 3 ns))::L) (N+2) (w::b::N::lg) (nl+3)):=by
 refine(vH w N b ⟨rfl,?_,?_,hwb,fun o' q=>?_⟩ (fun _ r r' q=>?_)).trans (by simp only[ou.eq_1,jS,fx];rfl)
 ·rw[ae (by omega) (by omega),aa (by omega)];exact hw
 ·rw[ae (by omega) (by omega),aa (by omega)];exact hb
 ·cases q;exact⟨by rw[ae (by omega) (by omega),ab],by omega,by omega⟩
 exact I8 (l:=ns) (c:=c) q
structure Il(c:Ce):Prop where
 b:rP c
 sg:∀s∈c.sd,s.2=1\/s.2=-1
def yE(k:Nat)(l:List Ce):List UInt8:=1::(bK k++bK l.length++l.flatMap (i9 k))
theorem Ww{a b c:Int}:jK [a,b,c]=bK a.toNat++bK b.toNat++bK c.toNat:=by simp[jK]
theorem ds2{a b:Int}:jK [a,b]=bK a.toNat++bK b.toNat:=by simp[jK]
theorem vO{k:Nat}:∀{l:List Ce},(∀c∈l,rP c)->(l.flatMap (i9 k)).length<=1000*l.length
 |[],_=>Nat.le_refl _
 |c::l,h=>by
  have:=vO (k:=k) (l:=l) fun c hc=>h c (YH _ hc)
  have:=wN (k:=k) (h c Yw);rw[YB,Yh,List.length_cons];omega
set_option maxHeartbeats 2000000 in
theorem Wm(k:Nat)(l:List Ce)(hl:l.length<=1000000)(hk:k<576460752303423488)(hb:∀c∈l,Il c/\16*(k:Int)<=c.id):Fn Tryz.prog 37 [.int .i64 (k:Nat),sl l] (.ret (.string (str (yE k l)))):=by
 refine ir Tryz.func37 Tryz.results37 (h:=?_);refine rs ?_;refine rs ?_;refine cv [(0,some (.int .i64 (k:Nat))),(1,some (sl l)),(5,some (.pointer (some ⟨0,0,none⟩)))] [(0,some (.cells [.pointer none,.slice none 0 0] 84 (0,0))),(1,some (bX []))] 2 ?_;refine cv [(0,some (.int .i64 (k:Nat))),(1,some (sl l)),(5,some (.pointer (some ⟨0,0,none⟩)))] [(0,some (wo false 0 1 [])),(1,some (bX []))] 2 ?_ (hl:=yL [(0,0),(1,1)]);have hg:=wz (a:=false) (l:=[]) (l':=jK [((1:Nat):Int),(k:Nat),(l.length:Nat)]) (ns:=[((1:Nat):Int),(k:Nat),(l.length:Nat)]) (c:=3) (w:=0) (b:=1) (N:=2) (nl:=0) (lg:=[]) (L:=[(0,some (wo false 0 1 [])),(1,some (bX []))]) ab ((aa (by decide)).trans ab) (by decide) (by decide) (by decide) (by decide);have hok:=wC false [] [((1:Nat):Int),(k:Nat),(l.length:Nat)] 3 (fun n hn=>by
  simp only[YD,Yy,or_false]at hn;rcases hn with rfl|rfl|rfl<;>omega) (by show 3<=_;decide) (by show 0<3;decide) (by show 0<_;decide)
 rw[List.nil_append]at hok;refine lB hg (bh (lq hok)) ?_;have hd:jK [((1:Nat):Int),(k:Nat),(l.length:Nat)]=1::(bK k++bK l.length):=by rw[Ww,Yt,Yt,Yt,gY (by decide),YF];rfl
 rw[hd];have hd1:=da (n:=k) (by omega);have hd2:=da (n:=l.length) (by omega);have hhd:(1::(bK k++bK l.length)).length<=21:=by rw[List.length_cons,Yh];omega
 have hfin:yE k l=(1::(bK k++bK l.length))++l.flatMap (i9 k):=rfl;rw[hfin];have hHne:(1::(bK k++bK l.length))≠[]:=by simp
 generalize(1::(bK k++bK l.length))=H at hhd hHne ⊢;refine rS ?_;refine fr (fun i:Nat=>⟨an [(0,some (.int .i64 (k:Nat))),(5,some (.pointer (some ⟨0,0,none⟩))),(18,some (sl l)),(19,some (.int .i64 (l.length:Nat))),(20,some (.int .i64 (i:Nat)))],wd [(0,some (wo true 0 1 (H++(l.take i).flatMap (i9 k)))),(1,some (bX (H++(l.take i).flatMap (i9 k))))] 2 [] 0,[]⟩) (fun i=>i<=l.length) (fun i=>l.length-i) 0 (Yq _) (fun i hv h=>?_) (fun i hv h=>?_) (h0:=by
  simp only[List.take_zero,ZB,List.append_nil];exact yL [(0,0),(3,1)])
 ·have hlen:=vO (k:=k) (l:=l.take i) fun c hc=>(hb c (ZJ hc)).1.b
  rw[Yk,Zc hv]at hlen;obtain⟨hbx,h16⟩:=hb _ (bn (l:=l) (i:=i) (by omega));have hnx:(l.take (i+1)).flatMap (i9 k)=(l.take i).flatMap (i9 k)++i9 k (l.getD i default):=by rw[List.take_succ,Yl (by omega),Y5,Yn,Yl (by omega)];simp
  have hcl:=wN (k:=k) hbx.b;generalize hx:l.getD i default=x at hbx h16 hnx hcl;obtain⟨⟨q1,q2,q3,q4⟩,hsg⟩:=hbx;have hT:(H++(l.take i).flatMap (i9 k)).length<=21+1000*i:=by rw[Yh];omega
  have hTn:H++(l.take (i+1)).flatMap (i9 k)=(H++(l.take i).flatMap (i9 k))++i9 k x:=by rw[hnx,YF]
  generalize H++(l.take i).flatMap (i9 k)=T at hT hTn ⊢;refine bs (rf hx ?_);have hg:=wz (a:=true) (l:=T) (l':=T++jK [x.id-((16*k:Nat):Int),x.dim,(x.sd.length:Nat)]) (ns:=[x.id-((16*k:Nat):Int),x.dim,(x.sd.length:Nat)]) (c:=3) (w:=0) (b:=1) (N:=3) (nl:=0) (lg:=[]) (L:=[(0,some (wo true 0 1 T)),(1,some (bX T)),(2,some (j8 x))]) ab ((aa (by decide)).trans ab) (by decide) (by decide) (by decide) (by decide);refine cv [(0,some (.int .i64 (k:Nat))),(5,some (.pointer (some ⟨0,0,none⟩))),(7,some (.pointer (some ⟨2,0,none⟩))),(18,some (sl l)),(19,some (.int .i64 (l.length:Nat))),(20,some (.int .i64 (i:Nat)))] [(0,some (wo true 0 1 T)),(1,some (bX T)),(2,some (j8 x))] 3 ?_;refine lB hg (bh (lq (wC true T [x.id-((16*k:Nat):Int),x.dim,(x.sd.length:Nat)] 3 (fun n hn=>by
   simp only[YD,Yy,or_false]at hn;rcases hn with rfl|rfl|rfl<;>omega) (by show 3<=_;decide) (by show 0<3;decide) (by omega)))) ?_
  have h3:jK [x.id-((16*k:Nat):Int),x.dim,(x.sd.length:Nat)]=bK (x.id.toNat-16*k)++bK x.dim.toNat++bK x.sd.length:=by rw[Ww,Yt,show(x.id-((16*k:Nat):Int)).toNat=x.id.toNat-16*k by omega]
  have hce:i9 k x=(bK (x.id.toNat-16*k)++bK x.dim.toNat++bK x.sd.length)++lc x.sd x.sd.length:=rfl;rw[h3];rw[hce]at hTn hcl;rw[Yh]at hcl;generalize bK (x.id.toNat-16*k)++bK x.dim.toNat++bK x.sd.length=E at hTn hcl ⊢;have hE:(T++E).length<=21+1000*i+1000:=by rw[Yh];omega
  rw[<-YF]at hTn;refine rs ?_;refine fr (fun j:Nat=>⟨an [(0,some (.int .i64 (k:Nat))),(5,some (.pointer (some ⟨0,0,none⟩))),(18,some (sl l)),(19,some (.int .i64 (l.length:Nat))),(20,some (.int .i64 (i:Nat))),(38,some (sl x.sd)),(39,some (.int .i64 (x.sd.length:Nat))),(40,some (.int .i64 (j:Nat)))],wd [(0,some (wo true 0 1 (T++E++lc x.sd j))),(1,some (bX (T++E++lc x.sd j)))] 2 [] 0,[]⟩) (fun j=>j<=x.sd.length) (fun j=>x.sd.length-j) 0 (Yq _) (fun j hv2 h2=>?_) (fun j hv2 h2=>?_) (h0:=by
   simp only[lc,List.append_nil];exact yL [(0,0),(4,1)])
  ·have hsl:=tz q4 j hv2;have hsi:=q4 _ (bn (l:=x.sd) (i:=j) (by omega));have hsj:=hsg _ (bn (l:=x.sd) (i:=j) (by omega));have e2:lc x.sd (j+1)=lc x.sd j++bK (x.sd.getD j default).1.toNat++[if(x.sd.getD j default).2=1 then 0 else 1]:=rfl;generalize hs:x.sd.getD j default=s at hsi hsj e2;obtain⟨p,y⟩:=s;simp only at hsi hsj e2;have hU:(T++E++lc x.sd j).length<=21+1000*i+2000:=by rw[Yh];omega
   have hUn:T++E++lc x.sd (j+1)=(T++E++lc x.sd j)++(bK p.toNat++[if y=1 then 0 else 1]):=by rw[e2];simp only[YF]
   generalize T++E++lc x.sd j=U at hU hUn ⊢;refine bs (rf hs ?_);refine cv [(0,some (.int .i64 (k:Nat))),(5,some (.pointer (some ⟨0,0,none⟩))),(9,some (.pointer (some ⟨2,0,none⟩))),(18,some (sl l)),(19,some (.int .i64 (l.length:Nat))),(20,some (.int .i64 (i:Nat))),(38,some (sl x.sd)),(39,some (.int .i64 (x.sd.length:Nat))),(40,some (.int .i64 (j:Nat)))] [(0,some (wo true 0 1 U)),(1,some (bX U)),(2,some (.cells [.int .i64 p,.int .i64 y] 60 (0,0)))] 3 ?_;have fin:∀(z:Nat),z=(if y=1 then 0 else 1)->jK [p,(z:Int)]=bK p.toNat++[if y=1 then 0 else 1]:=fun z hz=>by
    rw[ds2,Yt,hz];by_cases h1:y=1
    ·rw[if_pos h1,if_pos h1,gY (n:=0) (by decide)];rfl
    rw[if_neg h1,if_neg h1,gY (n:=1) (by decide)];rfl
   have hg:=fun(z:Nat)=>wz (a:=true) (l:=U) (l':=U++jK [p,(z:Int)]) (ns:=[p,(z:Int)]) (c:=2) (w:=0) (b:=1) (N:=3) (nl:=0) (lg:=[]) (L:=[(0,some (wo true 0 1 U)),(1,some (bX U)),(2,some (.cells [.int .i64 p,.int .i64 y] 60 (0,0)))]) ab ((aa (by decide)).trans ab) (by decide) (by decide) (by decide) (by decide)
   have hok:=fun(z:Nat) (hz:z<=1)=>wC true U [p,(z:Int)] 2 (fun n hn=>by
    simp only[YD,Yy,or_false]at hn;rcases hn with rfl|rfl<;>omega) (by show 2<=_;decide) (by show 0<2;decide) (by omega)
   rcases hsj with rfl|rfl
   ·refine pa (And.intro (show(((1:Nat):Int)-1).tdiv ((2:Nat):Int)=((0:Nat):Int) by decide) (hg 0)) (bh (lq (hok 0 (by decide)))) ?_;refine rl ?_;refine nx (j+1) (by omega) (by omega) ?_;rw[hUn,<-fin 0 rfl];exact yL [(0,0),(4,1)]
   refine pa (And.intro (show(((1:Nat):Int)-(-1)).tdiv ((2:Nat):Int)=((1:Nat):Int) by decide) (hg 1)) (bh (lq (hok 1 (by decide)))) ?_;refine rl ?_;refine nx (j+1) (by omega) (by omega) ?_;rw[hUn,<-fin 1 rfl];exact yL [(0,0),(4,1)]
  rw[show j=x.sd.length by omega,<-hTn];refine rl ?_;exact nx (i+1) (by omega) (by omega) (yL [(0,0),(1,1)])
 rw[show i=l.length by omega,List.take_length];have hlen:=vO (k:=k) (l:=l) fun c hc=>(hb c hc).1.b
 have hne:H++l.flatMap (i9 k)≠[]:=fun e=>hHne (List.append_eq_nil_iff.1 e).1
 have hT:(H++l.flatMap (i9 k)).length<1000000000000:=by rw[Yh];omega
 generalize H++l.flatMap (i9 k)=T at hne hT ⊢;refine cv [(5,some (.pointer (some ⟨0,0,none⟩)))] [(0,some (wo true 0 1 T)),(1,some (bX T))] 2 ?_;have hg:=Ga (l:=T) (W:=wd [(0,some (wo true 0 1 T)),(1,some (bX T))] 2 [] 0) 0 1 (by simp(disch:=decide) only[ae,ab,aa]) (by simp(disch:=decide) only[ae,ab,aa]) (by decide);refine lB hg (bh (H9 T hne hT)) ?_;refine rt ?_;rfl
theorem iW{P:Program}{es:bj}{b b':Nat}{θ:Nat->Option Nat}(h:gi es≠none->θ b=some b'):TO P (aL θ) (bT es b) (bT es b'):=by
 cases es with
 |nil=>exact cg (au (ju 1 rfl) aR)
 |cons x l=>exact cg (au (cz (h (fun e=>by cases e))) aR)
theorem rZ{P:Program}{es:bj}{o:ag}(h:gi es=some o):gJ P o:=by
 cases es with
 |nil=>cases h
 |cons x l=>cases h;exact kr je _ _
abbrev fD(es:bj):ag:=.map (iK cX es) es.length
theorem DM{es:bj}{o:ag}(h:gi es=some o):o=fD es:=by
 cases es with
 |nil=>cases h
 |cons x l=>cases h;rfl
def wS(es:bj):XW:=wd [(0,some (bT es 1)),(1,gi es)] 2 [] 0
def XV(v:Value)(es':bj)(e:aZ)(W':XW):Prop:=e=.ret v/\∃b',2<=b'/\W'.get 0=some (bT es' b')/\W'.get b'=gi es'
structure Fp(f:FuncId)(xs:List Value)(es:bj)(v:Value)(es':bj):Prop where
 en:cT Tryz.prog f
 bx:cV xs
 bv:dH v
 lo:aT Tryz.prog f (.pointer (some ⟨0,0,none⟩)::xs) (wS es) (XV v es')
def WI(xs:List Value)(es:bj)(w b:Nat)(A:List Value)(W:XW):Prop:=A=.pointer (some ⟨w,0,none⟩)::xs/\W.get w=some (bT es b)/\W.get b=some (fD es)/\w≠b
def By(w b:Nat)(es':bj)(W:XW):XW:=(((W.put b none).push (.defd false)).put W.next (gi es')).put w (some (bT es' W.next))
open Classical in
noncomputable def hkp(w b:Nat)(xs:List Value)(es:bj)(v:Value)(es':bj):HF:=fun A W=>if WI xs es w b A W then some (.ret v,By w b es' W)else none
theorem CB{f:FuncId}{w b:Nat}{xs:List Value}{es es':bj}{v:Value}(h:Fp f xs es v es'):bQ Tryz.prog f (hkp w b xs es v es'):=by
 have key:∀A W e' W',hkp w b xs es v es' A W=some (e',W')->WI xs es w b A W/\e'=.ret v/\W'=By w b es' W:=fun A W e' W' q=>by
  unfold hkp at q;split at q
  ·rename_i hx;cases q;exact⟨hx,rfl,rfl⟩
  cases q
 refine⟨h.en,fun A W e' W' q=>?_,fun A W e' W' q=>?_⟩
 ·obtain⟨_,_,rfl⟩:=key _ _ _ _ q;exact(((bu.put _ _ _).trans (bu.push _ _)).trans (bu.put _ _ _)).trans (bu.put _ _ _)
 obtain⟨⟨rfl,hw,hb,hwb⟩,rfl,rfl⟩:=key _ _ _ _ q;clear q key;have hbn:=aM hb;have hwn:=aM hw;have t0:(fun n=>if n=w then some 0 else if n=b then some 1 else(none:Option Nat)) w=some 0:=if_pos rfl;have t1:(fun n=>if n=w then some 0 else if n=b then some 1 else(none:Option Nat)) b=some 1:=by simp only[if_neg (Ne.symm hwb),if_pos]
 refine jq (k:=2) (fun m=>if m=0 then w else b) (fun n=>if n=w then some 0 else if n=b then some 1 else none) rfl (fun m m' h h' e=>?_) (fun m h=>?_) (fun n m h=>?_) (fun m oL h=>?_) (au (bN t0) (h.bx _ aj)) h.lo fun eL WL' hS=>?_
 ·have h1:m=0\/m=1:=by omega
  have h2:m'=0\/m'=1:=by omega
  rcases h1 with rfl|rfl<;>rcases h2 with rfl|rfl<;>first|rfl|(exfalso;simp at e;omega)
 ·split
  ·exact hwn
  exact hbn
 ·split at h
  ·rename_i q;cases h;exact⟨by decide,q.symm⟩
  split at h
  ·rename_i q;cases h;exact⟨by decide,q.symm⟩
  cases h
 ·have hm:m<2:=aM h;obtain⟨_,h2⟩:=cq h;have h1:m=0\/m=1:=by omega
  rcases h1 with rfl|rfl
  ·rw[ab]at h2;cases h2;exact⟨by decide,_,hw,iW fun _=>t1⟩
  rw[aa (by decide),ab]at h2;have e:=DM h2;subst e;exact⟨by decide,_,hb,rZ h2 _ aj⟩
 obtain⟨rfl,b',hb2,g0,g1⟩:=hS;have s0:(fun m=>if m=0 then some w else if m=b' then some W.next else(none:Option Nat)) 0=some w:=if_pos rfl;have s1:(fun m=>if m=0 then some w else if m=b' then some W.next else(none:Option Nat)) b'=some W.next:=by simp only[if_neg (show ¬b'=0 by omega),if_pos]
 refine⟨fun m=>if m=0 then some w else if m=b' then some W.next else none,fun m x h=>?_,fun m m' x h h'=>?_,fun x o' h=>?_,h.bv _ aj,Zm _⟩
 ·split at h
  ·rename_i q;cases h;exact .inl ⟨by omega,by simp[q]⟩
  split at h
  ·rename_i q;cases h;exact .inr ⟨by omega,Nat.le_refl _,YJ _⟩
  cases h
 ·split at h
  ·split at h'
   ·omega
   split at h'
   ·cases h;cases h';omega
   cases h'
  split at h
  ·split at h'
   ·cases h;cases h';omega
   split at h'
   ·omega
   cases h'
  cases h
 unfold By at h;rcases XW.get_put h with⟨rfl,q⟩|⟨q1,h⟩
 ·cases q;exact .inl ⟨0,_,s0,g0,iW fun _=>s1⟩
 rcases XW.get_put h with⟨rfl,q⟩|⟨q2,h⟩
 ·exact .inl ⟨b',_,s1,g1.trans q,rZ q _ aj⟩
 rcases XW.get_push h with⟨e1,e2⟩|⟨e1,e2⟩
 ·exact absurd e1 q2
 rcases XW.get_put e2 with⟨_,z⟩|⟨z1,z2⟩
 ·cases z
 refine .inr ⟨z2,aM z2,fun m hm=>?_⟩;split
 ·exact fun z=>q1 z.symm
 exact fun z=>z1 z.symm
theorem HH{w b N nl:Nat}{xs:List Value}{es es':bj}{v:Value}{L:List (Nat×Option ag)}{lg:List Nat}(hw:lk L w=some (bT es b))(hb:lk L b=some (fD es))(hn:es'≠[])(hwb:w≠b)(h1:w<N)(h2:b<N)(h3:N<16383) :
 hkp w b xs es v es' (.pointer (some ⟨w,0,none⟩)::xs) (wd L N lg nl)=some (.ret v,wd ((w,some (bT es' N))::(N,some (fD es'))::(N,some (.defd false))::(b,none)::L) (N+1) (w::N::b::lg) (nl+3)):=by
 have e:gi es'=some (fD es'):=by
  cases es' with
  |nil=>exact absurd rfl hn
  |cons x l=>rfl
 refine(if_pos ⟨rfl,?_,?_,hwb⟩).trans (by unfold By;rw[e];simp only[jS,fx];rfl)
 ·rw[ae h1 (by omega)];exact hw
 rw[ae h2 (by omega)];exact hb
theorem wM{es:bj}{o:List UInt8}:eE es o≠[]:=by
 unfold eE;split
 ·rename_i h;intro e;subst e;cases h
 simp
section
variable {P:Program} {k:Nat} {F F':List (Nat×Option Value)} {L L':List (Nat×Option ag)} {n n' nl nl':Nat} {lg lg':List Nat}
theorem Rm{R:List (Nat×Option Nat)}{m x:Nat}{es:bj}(hR:lk R x=some m)(h1:x<n)(h2:x<16383)(hl:lk L x=gi es)(hs:fT P (aL (lk R)) R n L L'):fT P (aL (lk R)) R n L ((m,gi es)::L'):=
 ⟨fun u e=>⟨x,u,hR,h1,h2,hl.trans e,rZ e _ aj⟩,hs⟩
theorem kj(R:List (Nat×Nat)){R1 R2:List (Nat×Option Nat)}(e1:R.map (fun p=>(p.1,some p.2))=R1:=by simp only[YM,Y9]<;>rfl)(e2:R.map (fun p=>(p.2,some p.1))=R2:=by simp only[YM,Y9]<;>rfl)
 (hR:jZ k n' R2 R1=true:=by decide) (hRi:∀p∈R2,p.1<n':=by decide) (hk:k<=n':=by decide)
 (hF:cY (aL (lk R1)) F F':=by
  try dsimp only
  repeat' (first|exact dx|refine bS (by decide) (by repeat (first|exact ab|refine Eq.trans (aa (by decide)) ?_)) (by first|exact fR (by decide) (by first|rfl|simp)|exact tv_gv (by decide) (by first|rfl|simp)|exact ca (by decide)|exact bN (by decide)|exact cz (by decide)|exact Br.h _ aj) ?_))
 (hL:fT P (aL (lk R1)) R1 n L L':=by
  try dsimp only
  repeat' (first|exact gT|exact ln|refine Rm (by first|exact ab|exact ah ab (by decide)|exact ah (ah ab (by decide)) (by decide)|exact ah (ah (ah ab (by decide)) (by decide)) (by decide)|exact ah (ah (ah (ah ab (by decide)) (by decide)) (by decide)) (by decide)|exact ah (ah (ah (ah (ah ab (by decide)) (by decide)) (by decide)) (by decide)) (by decide)|exact ah (ah (ah (ah (ah (ah ab (by decide)) (by decide)) (by decide)) (by decide)) (by decide)) (by decide)) (by first|decide|omega) (by decide) (by repeat (first|exact ab|refine Eq.trans (aa (by decide)) ?_)) ?_|refine px (by first|exact ab|exact ah ab (by decide)|exact ah (ah ab (by decide)) (by decide)|exact ah (ah (ah ab (by decide)) (by decide)) (by decide)|exact ah (ah (ah (ah ab (by decide)) (by decide)) (by decide)) (by decide)|exact ah (ah (ah (ah (ah ab (by decide)) (by decide)) (by decide)) (by decide)) (by decide)|exact ah (ah (ah (ah (ah (ah ab (by decide)) (by decide)) (by decide)) (by decide)) (by decide)) (by decide)) (by first|decide|omega) (by decide) (by repeat (first|exact ab|refine Eq.trans (aa (by decide)) ?_)) (by first|exact bd aj (aF b7.h)|with_reducible exact bd aj lA.h|exact iW (fun _=>by decide)|exact yF.h _ (by decide)|exact s7 (by decide) (by decide)|exact jF (by decide)|exact iw .nil|(refine cg ?_;repeat (first|exact aR|refine au (by first|exact AW|exact fR (by decide) (by first|rfl|simp)|exact tv_gv (by decide) (by first|rfl|simp)|exact ca (by decide)|exact bN (by decide)|exact cz (by decide)|exact Br.h _ aj) ?_))) ?_)) :
 aX P k ⟨an F,wd L n lg nl,[]⟩ ⟨an F',wd L' n' lg' nl',[]⟩:=fA R1 R2 hR hRi hk hF hL .nil
end
section
variable {P:Program} [hM:kJ P] {N k:Nat} {s s':XS} {Q:XQ} {id:Nat} {ops:Array Oper} {rs:List bJ}
theorem FX{p:Prop}(f:p)(q:Q .norm s')(h:p->aW P (cd P (bc [] []) 1) N none ops ops.toList s=some (rs,s'):=by intro hf;simp(disch:=first|decide|omega|(simp only[Yh,List.length_cons,List.length_nil,Yk,Ym,Yo]<;>omega)|(simp(disch:=decide) only[ae,ab,aa,ci.eq_1];done)) only[hf,aW.eq_1,aW.eq_2,iH.eq_1,dI.eq_1,dI.eq_2,go_sem]<;>with_reducible rfl)(hk:jJ P ops s.ds.length rs=true:=by
 refine fK (by kernel_rfl) (by kernel_rfl) ?_
 repeat (refine aI (by first|(refine dj (by with_reducible rfl) (by kernel_rfl) (by kernel_rfl) ?_;simp(disch:=first|decide|omega|(simp only[Yh,List.length_cons,List.length_nil,Yk,Ym,Yo]<;>omega)|(simp(disch:=decide) only[ae,ab,aa,ci.eq_1];done)) only[fq.eq_1,cond_true,go_sem];done)|kernel_rfl) ?_)
 rfl):ay P N k (.region id ops true) s Q:=eu b0 (h f) hk q
end
instance {es:bj}:lA Tryz.prog (.map (iK cX es) es.length):=⟨kr je _ _⟩
theorem Hc(es:bj)(o:List UInt8)(ho:o.length<=140737488351232):Fp 10 [.string (str o)] es (cr (bf o)) (eE es o):=by
 refine⟨enters_of (by kernel_rfl),b7.h,Br.h,?_⟩;show aT _ _ _ (wd [(0,some (bT es 1)),(1,gi es)] 2 [] 0) _;refine low Tryz.func10 Tryz.results10 (h:=?_);show ay _ _ 2 _ _ _;refine rs ?_;refine rc (bh MG) ?_;refine ak (rf (And.intro (fun(x y:Operand) (b o:Nat)=>nH (x:=x) (y:=y) (b:=b) (o:=o) Tryz.underlying26) True.intro) ?_);refine cf ?_;refine ap ?_;show ay _ _ _ _ _ _;refine jP ⟨an [(0,some (.pointer (some ⟨0,0,none⟩))),(1,some (.string (str o))),(4,some (.pointer (some ⟨2,0,none⟩))),(5,some (.pointer (some ⟨3,0,none⟩)))],wd [(0,some (.cells [.map (some 4)] 65 (0,0))),(2,some zH),(3,some (hH (bf o))),(4,some (fD es))] 5 [] 0,[]⟩ ?_ ?_
 ·cases es with
  |nil=>
   refine rf (And.intro (fun(n:Nat)=>Kx (n:=n)) (And.intro (show ∀b,bT [] b=.cells [.map none] 65 (0,0)from fun _=>rfl) True.intro)) ?_;refine ct ?_;refine rl ?_;exact bg
  |cons x l=>
   have hm:∀b,bT (x::l) b=.cells [.map (some b)] 65 (0,0):=fun _=>rfl
   refine rf (And.intro (fun(x y:Operand) (b:Nat)=>Hy (x:=x) (y:=y) (b:=b) Tryz.underlying63) (And.intro hm True.intro)) ?_;refine cf ?_;refine ap ?_;exact kj [(0,0),(1,4),(2,2),(3,3)]
 rcases hg:bM (bf o) es with _|u
 ·have hf:=vQ hg;refine ak ?_;refine rX (And.intro (lT iU) (And.intro (lE (enc:=cX) iU) hf)) ?_;refine rs ?_;refine ct ?_;refine FX (And.intro (lT iU) (And.intro (lE (enc:=cX) iU) hf)) ?_;show ay _ _ _ _ _ _;have hp:eE es o=es++[(bf o,o)]:=JQ hg;have hms:=KR es (bf o) o rfl;refine rs ?_;refine rt ?_;rw[hp];refine⟨rfl,4,by decide,?_,?_⟩
  ·rw[ym DQ];simp(disch:=decide) only[ae,ab,aa]
  rw[uX DQ,<-hms];simp(disch:=decide) only[ae,ab,aa]
 obtain⟨i,hf⟩:=vS hg;refine ak ?_;refine rX (And.intro (lT iU) (And.intro (lE (enc:=cX) iU) hf)) ?_;refine rs ?_;refine cf ?_;refine ap ?_;show ay _ _ _ _ _ _;have hne:es≠[]:=fun e=>by subst e;cases hg
 refine rs ?_;refine rt ?_;rw[KD hg];refine⟨rfl,4,by decide,?_,?_⟩
 ·rw[ym hne];simp(disch:=decide) only[ae,ab,aa]
 rw[uX hne];simp(disch:=decide) only[ae,ab,aa]
def dZ(a:Int):List Value:=[.int .i64 a]
theorem vz(a:Int):cV (dZ a):=jB (di 1 rfl) gW
theorem X3(l:List Int):(l.flatMap dZ).length=l.length*1:=cM (l:=l)
theorem XB(l:List Int):(l.flatMap dZ).all de=true:=Cm (l:=l)
section
variable {P:Program} {N k:Nat} {c d:Code} {s S:XS} {Q:XQ}
def WB(P:Program)(k:Nat)(S:XS):XQ:=fun e s'=>e=.norm/\aX P k s' S
theorem Pa(S:XS)(h:ay P N k c s (WB P k S))(q:ay P N k d S Q):ay P N k (.seq c d) s Q:=ak (fh (fun e s' ⟨he,hl⟩=>by subst he;exact eD hl q) h)
theorem Wt(h:aX P k s S):WB P k S .norm s:=⟨rfl,h⟩
end
abbrev fF:=List (Int×List Ce)
def bE{γ:Type}(rs:List (Int×γ)):List Int:=rs.map (·.1)
def l9{γ:Type}(rs:List (Int×γ))(js:List Nat):List Int:=js.map fun j=>(rs[j]?.map (·.1)).getD 0
theorem GA{γ:Type}(rs:List (Int×γ))(js:List Nat):(l9 rs js).length=js.length:=Yv ..
theorem FU{γ:Type}{rs:List (Int×γ)}{js:List Nat}{j:Nat}{k:Int}{b:γ}(h:rs[j]?=some (k,b)):l9 rs (js++[j])=l9 rs js++[k]:=by
 unfold l9;rw[YW];simp[h]
theorem Ig{γ:Type}{rs:List (Int×γ)}(y:m8 rs.length)(h:∀j,j<rs.length->j∈y.js):(l9 rs y.js).Perm (bE rs):=by
 have h1:y.js.Perm (List.range rs.length):=(List.perm_ext_iff_of_nodup y.nd List.nodup_range).2 fun j=>⟨fun q=>List.mem_range.2 (y.lt j q),fun q=>h j (List.mem_range.1 q)⟩
 have h2:=h1.map fun j=>(rs[j]?.map (·.1)).getD 0
 have h3:((List.range rs.length).map fun j=>(rs[j]?.map (·.1)).getD 0)=bE rs:=by
  unfold bE;apply Zb;intro j;by_cases hj:j<rs.length
  ·simp[hj]
  rw[YA (by simp;omega),YA (by simp;omega)]
 rw[h3]at h2;exact h2
def rK:Value:=.func (.func 72) #[] #[.pointer (some ⟨1,0,none⟩)]
def c9(rs:fF):ag:=.map (aA (fun _ l=>sl l) rs 0) rs.length
theorem ki{P:Program}(rs:fF):gJ P (c9 rs):=fun T hT=>iw (jO.bare hT (mM (fun _ b=>(inferInstance:Br (sl _)).h) rs 0))
def mW:ag:=.cells [.map (some 0)] 76 (0,0)
def Bx(m:List Int):ag:=.cells (m.flatMap dZ) 3 (0,0)
def FC(rs:fF)(e:aZ)(W':XW):Prop:=∃m:List Int,m.Perm (bE rs)/\m.length=rs.length/\e=.ret (jd 6 m.length)/\W'.get 0=some (c9 rs)/\W'.get 6=eP 3 (m.flatMap dZ) m.length/\W'.next<=20
set_option maxHeartbeats 2000000 in
theorem Hr(rs:fF)(hn:rs.length<=1000000):aT Tryz.prog 107 [.slice none 0 0,rK] (wd [(0,some (c9 rs)),(1,some mW)] 2 [] 0) (FC rs):=by
 refine cy aU Tryz.func107 rfl (Nat.le_of_ble_eq_true rfl) ?_;simp only[bA.eq_1,bA.eq_2,cU,Tryz.ntmps107,Nat.reduceAdd];refine ak (aE aU (by simp(disch:=first|decide|omega) only[go_sem]<;>with_reducible rfl) ?_);refine ak ?_;refine ak (aE aU (by simp(disch:=first|decide|omega) only[go_sem]<;>with_reducible rfl) ?_);refine aC ?_;refine eD (s':=⟨an [(2,some (.pointer (some ⟨2,0,none⟩))),(6,some rK)],wd [(0,some (c9 rs)),(1,some mW),(2,some (.cells [.slice none 0 0] 35 (0,0)))] 3 [] 0,[]⟩) (fy (by simp(disch:=decide) [cW,ab,aa,cR]) (by simp(disch:=decide) [cW,ab,aa,cR]) (by decide)) ?_;refine qV (g:=72) (xs:=#[]) (cap:=#[.pointer (some ⟨1,0,none⟩)]) (S:=fun e W2=>∃m:List Int,m.Perm (bE rs)/\m.length=rs.length/\(∃v,e=.ret v)/\W2.get 0=some (c9 rs)/\W2.get 2=some (.cells [jd 6 m.length] 35 (0,0))/\W2.get 3=some (.defd false)/\W2.get 6=eP 3 (m.flatMap dZ) m.length/\7<=W2.next/\W2.next<=20/\∃st tm N2 ps2 asg2 body2 d2,W2.get 4=some (.loop st none tm N2 ps2 asg2 body2 d2)/\mD st=false) ?hv (enters_of (by kernel_rfl)) ?hl ?q
 case hv=>simp(disch:=first|decide|omega) only[rK,go_sem]
 case q=>
  intro e W2 ⟨m,h1,h2,⟨v,h3⟩,h4,h6,h7,h8,h9,h10,st,tm,N2,ps2,asg2,body2,d2,h11,h12⟩;refine⟨v,st,tm,N2,ps2,asg2,body2,d2,h3,by simp only[cU];omega,h11,h12,?_⟩;simp only[cU,Nat.reduceAdd];show ay _ _ _ _ _ _;refine eD (s':=⟨an [(2,some (.pointer (some ⟨2,0,none⟩)))],wd [(0,some (c9 rs)),(2,some (.cells [jd 6 m.length] 35 (0,0))),(3,some (.defd false)),(6,eP 3 (m.flatMap dZ) m.length)] 20 [] 0,[.mark 3]⟩) ?_ ?_
  ·refine lH (fun t v e=>?_) (fun n o e=>?_) h10 rfl
   ·have h:=fH e;show(an _).get t=some v;by_cases ht:2=t
    ·subst ht;rw[ab]at h;rw[fg (by decide),ab];exact h
    rw[aa ht]at h;cases h
   obtain⟨g1,g2⟩:=cq e;have hn5:n≠4:=fun q=>by subst q;simp(disch:=decide) [ab,aa,cR]at g2
   show(W2.put 4 _).get n=some o;rw[XW.get_put_ne hn5];have hcases:=bP g2;simp only[YD,Yy,or_false,Prod.mk.injEq,Option.some.injEq]at hcases;rcases hcases with⟨rfl,rfl⟩|⟨rfl,rfl⟩|⟨rfl,rfl⟩|⟨rfl,hh⟩
   ·exact h4
   ·exact h6
   ·exact h7
   rw[hh];exact h8
  refine ak (aE aU (by simp(disch:=first|decide|omega) only[go_sem]<;>with_reducible rfl) ?_);refine ga ?_;refine⟨_,?e4,?W4,rfl,?h4,?q4⟩
  case h4=>simp(disch:=first|decide|omega) only[Tryz.results107,go_sem]<;>with_reducible rfl
  refine⟨m,h1,h2,rfl,?_,?_,?_⟩
  ·simp(disch:=first|decide|omega) only[go_sem]
  ·simp(disch:=first|decide|omega) only[go_sem]
  exact Nat.le_refl _
 simp only[cU,fx,List.nil_append,List.cons_append,Nat.reduceAdd];generalize hLP:ag.loop LoopState.ready none _ 13 [7] _ _ 3=LP;have hex:∃st tm N2 ps2 asg2 body2 d2,LP=.loop st none tm N2 ps2 asg2 body2 d2/\mD st=false:=⟨_,_,_,_,_,_,_,hLP.symm,rfl⟩;have hto:∀θ:Nat->Option Nat,θ 1=some 1->θ 2=some 2->θ 3=some 3->TO Tryz.prog (aL θ) LP LP:=fun θ h2 h3 h4=>by
  rw[<-hLP];exact DW h4 (bS (v:=.pointer (some ⟨2,0,none⟩)) (by decide) (by simp(disch:=first|decide|omega) only[ab,aa]) (bN h3) (bS (v:=rK) (by decide) (by simp(disch:=first|decide|omega) only[ab,aa]) (pk (xs:=[]) (xs':=[]) (cs:=[.pointer (some ⟨1,0,none⟩)]) (cs':=[.pointer (some ⟨1,0,none⟩)]) aR (au (bN h2) aR)) dx))
 refine cy aU Tryz.func72 rfl (Nat.le_of_ble_eq_true rfl) ?_;simp only[bA.eq_1,bA.eq_2,cU,Tryz.ntmps72,Nat.reduceAdd];refine ak (aE aU (by simp(disch:=first|decide|omega) only[mW,c9,u9.eq_1,xR.eq_1,go_sem]<;>with_reducible rfl) ?_);refine aC ?_;refine eD (s':=⟨an [(0,some (.func (.yield 4) #[] #[])),(5,some (.pointer (some ⟨5,0,none⟩)))],wd [(0,some (c9 rs)),(1,some mW),(2,some (.cells [jd 6 0] 35 (0,0))),(3,some (.defd false)),(4,some LP),(5,some (.iter 0 rs.length [] rs.length)),(6,eP 3 (([]:List Int).flatMap dZ) 0)] 7 [] 0,[]⟩) (fy (by simp(disch:=decide) [cW,ab,aa,cR]) (by simp(disch:=decide) [cW,ab,aa,cR,jd,eP,mW,c9]) (by decide)) ?_;refine uZ (α:=m8 rs.length) (fun y=>⟨an [(0,some (.func (.yield 4) #[] #[])),(5,some (.pointer (some ⟨5,0,none⟩)))],wd [(0,some (c9 rs)),(1,some mW),(2,some (.cells [jd 6 (l9 rs y.js).length] 35 (0,0))),(3,some (.defd false)),(4,some LP),(5,some (.iter 0 rs.length y.js rs.length)),(6,eP 3 ((l9 rs y.js).flatMap dZ) (l9 rs y.js).length)] 7 [] 0,[]⟩) (fun y=>rs.length-y.js.length) ?_ (EZ _);intro y;have hyl:=gp y.nd y.lt;have hml:=GA rs y.js;obtain⟨m,hm⟩:∃m,m=l9 rs y.js:=⟨_,rfl⟩;rw[<-hm]at hml ⊢;refine ak (cm ?_);refine A1 (x:=.tmp 5) (r:=5) (mp:=0) (rs:=rs) (f:=fun _ l=>sl l) y rfl rfl ?hx ?hr ?hm2 (fun hall=>?_) (fun j kk b hj hjn hjb=>?_)
 case hx=>simp(disch:=first|decide|omega) only[go_sem]
 case hr=>simp(disch:=first|decide|omega) only[go_sem]
 case hm2=>simp(disch:=first|decide|omega) only[c9,go_sem]
 ·refine⟨_,cu (by decide),bq aU 1 (s1:=?s1z) ?hz1 (cQ ?qz)⟩
  case hz1=>simp(disch:=first|decide|omega) only[go_sem]<;>with_reducible rfl
  show ay _ _ _ _ _ _;refine ak (jW (by simp(disch:=first|decide|omega) only[go_sem]<;>with_reducible rfl) ?_);refine nR ?_;have hpm:m.Perm (bE rs):=by rw[hm];exact Ig y hall
  have hme:m.length=rs.length:=by rw[hpm.length_eq];exact Yv ..
  refine⟨_,?e7,?W7,rfl,?h7,?q7⟩
  case h7=>simp(disch:=first|decide|omega) only[Tryz.results72,go_sem]<;>with_reducible rfl
  obtain⟨st,tm,N2,ps2,asg2,body2,d2,hx1,hx2⟩:=hex;refine⟨m,hpm,hme,⟨_,rfl⟩,?_,?_,?_,?_,?_,?_,st,tm,N2,ps2,asg2,body2,d2,?_,hx2⟩
  ·simp(disch:=first|decide|omega) only[go_sem]
  ·simp(disch:=first|decide|omega) only[go_sem]
  ·simp(disch:=first|decide|omega) only[go_sem]
  ·simp(disch:=first|decide|omega) only[go_sem]
  ·exact Nat.le_refl _
  ·show 7<=20;decide
  rw[<-hx1];simp(disch:=first|decide|omega) only[go_sem]
 refine⟨_,cu (by decide),bq aU 1 (s1:=?s1n) ?hz2 (cQ ?qn)⟩
 case hz2=>simp(disch:=first|decide|omega) only[go_sem]<;>with_reducible rfl
 show ay _ _ _ _ _ _;refine ak (ri (by simp(disch:=first|decide|omega) only[go_sem]<;>with_reducible rfl) ?_);refine ap ?_;refine aC ?_;have hfind:(aA (fun _ l=>sl l) rs 0).find? (fun e=>Nat.beq e.born j)=some ⟨kV kk,sl b,j⟩:=by have:=mr (f:=fun _ l=>sl l) (i:=0) hjb;rw[Nat.zero_add]at this;exact this
 have hgl:(gF y j hj hjn).js.getLast?=some j:=by show(y.js++[j]).getLast?=some j;simp
 obtain⟨y2,hy2⟩:∃y2,y2=gF y j hj hjn:=⟨_,rfl⟩;have hlt:=uP y hj hjn;have hjs2:y2.js=y.js++[j]:=by rw[hy2];rfl
 have hyl2:=gp y2.nd y2.lt;rw[<-hy2]at hgl hlt ⊢;have hm1:l9 rs y2.js=m++[kk]:=by rw[hjs2,hm];exact FU hjb
 have hjl2:y2.js.length=y.js.length+1:=by rw[hjs2];simp
 refine ak (aE aU (by simp(disch:=first|decide|omega) only[uT.eq_1,wW.eq_1,wZ.eq_1,BV.eq_1,c9,hgl,hfind,YC,go_sem]<;>with_reducible rfl) ?_);have hemp:(#[]:Array Value).isEmpty=true:=rfl;refine Pa ⟨an [(0,some (.func (.yield 4) #[] #[])),(5,some (.pointer (some ⟨5,0,none⟩))),(13,some (.bool false))],wd [(0,some (c9 rs)),(1,some mW),(2,some (.cells [.slice (some ⟨8,0,none⟩) (m.length+1) aH] 35 (0,0))),(3,some (.defd false)),(4,some LP),(5,some (.iter 0 rs.length y2.js rs.length)),(8,some (Bx (m++[kk])))] 9 [] 0,[]⟩ ?h3 ?q3
 case h3=>
  have hro:(m.flatMap dZ++[.int .i64 kk])=(m++[kk]).flatMap dZ:=by rw[Y5];rfl
  rcases hmm:m with _|⟨a,m'⟩
  ·have hr1:[kk].flatMap dZ=[.int .i64 kk]:=rfl;refine ma (e:=?er) (s':=?sr) aU 4 ?hr3 ?qr3
   case hr3=>simp(disch:=first|decide|omega|(simp only[Yh,List.length_cons,List.length_nil]<;>omega)|(simp(disch:=decide) only[ae,ab,aa,ci.eq_1];done)) only[<-hLP,pO,kR,pz,oV,oX,oR,oU,om,ko,ru,nN,hemp,jd.eq_1,eP.eq_1,List.length_nil,Y2,YG,YZ,show aN 0=false from rfl,Ym,Yk,YC,Zn,Y3,ZD,go_sem]<;>with_reducible rfl
   exact Wt (fy (by simp(disch:=decide) [cW,ab,aa,cR]) (by simp(disch:=decide) [cW,ab,aa,cR,<-hLP,c9,Bx,hr1];try rfl) (by decide))
  have hg1:jd 6 (a::m').length=.slice (some ⟨6,0,none⟩) m.length aH:=by rw[hmm];rfl
  have hg2:eP 3 ((a::m').flatMap dZ) (a::m').length=some (.cells (m.flatMap dZ) 3 (0,0)):=by rw[hmm];rfl
  rw[hg1,hg2,<-hmm];have hrl:(m.flatMap dZ).length=m.length:=by rw[X3,Nat.mul_one]
  have hrt:(m.flatMap dZ).take m.length=m.flatMap dZ:=List.take_of_length_le (by rw[hrl];exact Nat.le_refl _);have hal:=XB m;refine ma (e:=?eq) (s':=?sq) aU 4 ?hq3 ?qq3
  case hq3=>simp(disch:=first|decide|omega|(simp only[Yh,List.length_cons,List.length_nil]<;>omega)|(simp(disch:=decide) only[ae,ab,aa,ci.eq_1];done)) only[<-hLP,pO,kR,pz,oV,oX,oR,oU,om,ko,ru,nN,hemp,hrl,hrt,hro,hal,Nat.mul_one,Y2,YG,YZ,show aN 0=false from rfl,Ym,Yk,YC,Zn,Y3,ZD,go_sem]<;>with_reducible rfl
  exact Wt (fy (by simp(disch:=decide) [cW,ab,aa,cR]) (by simp(disch:=decide) [cW,ab,aa,cR,<-hLP,c9,Bx];try rfl) (by decide))
 refine jW (by simp(disch:=first|decide|omega) only[go_sem]<;>with_reducible rfl) ?_;refine ap ?_;refine⟨y2,hlt,?_⟩;rw[hm1];simp only[Yh,List.length_cons,List.length_nil,Nat.zero_add,jd.eq_2,eP.eq_2];exact fA [(0,some 0),(1,some 1),(2,some 2),(3,some 3),(4,some 4),(5,some 5),(8,some 6)] [(0,some 0),(1,some 1),(2,some 2),(3,some 3),(4,some 4),(5,some 5),(6,some 8)] (by decide) (by decide) (by decide)
  (bS (v:=.func (.yield 4) #[] #[]) (by decide) (by simp(disch:=first|decide|omega) only[ab,aa]) (Bv (by simp(disch:=first|decide|omega) only[ab,aa])) (bS (v:=.pointer (some ⟨5,0,none⟩)) (by decide) (by simp(disch:=first|decide|omega) only[ab,aa]) (bN (by simp(disch:=first|decide|omega) only[ab,aa])) dx))
  (bY (o:=c9 rs) 0 (by simp(disch:=first|decide|omega) only[ab,aa]) (by decide) (by decide) (by simp(disch:=first|decide|omega) only[ab,aa]) (bd aj (ki _))
  (bY (o:=mW) 1 (by simp(disch:=first|decide|omega) only[ab,aa]) (by decide) (by decide) (by simp(disch:=first|decide|omega) only[ab,aa]) (cg (au (cz (by simp(disch:=first|decide|omega) only[ab,aa])) aR))
  (bY (o:=.cells [.slice (some ⟨8,0,none⟩) (m.length+1) aH] 35 (0,0)) 2 (by simp(disch:=first|decide|omega) only[ab,aa]) (by decide) (by decide) (by simp(disch:=first|decide|omega) only[ab,aa]) (cg (au (ca (by simp(disch:=first|decide|omega) only[ab,aa])) aR))
  (bY (o:=.defd false) 3 (by simp(disch:=first|decide|omega) only[ab,aa]) (by decide) (by decide) (by simp(disch:=first|decide|omega) only[ab,aa]) Dd
  (bY (o:=LP) 4 (by simp(disch:=first|decide|omega) only[ab,aa]) (by decide) (by decide) (by simp(disch:=first|decide|omega) only[ab,aa]) (hto _ (by simp(disch:=first|decide|omega) only[ab,aa]) (by simp(disch:=first|decide|omega) only[ab,aa]) (by simp(disch:=first|decide|omega) only[ab,aa]))
  (bY (o:=.iter 0 rs.length y2.js rs.length) 5 (by simp(disch:=first|decide|omega) only[ab,aa]) (by decide) (by decide) (by simp(disch:=first|decide|omega) only[ab,aa]) (jF (by simp(disch:=first|decide|omega) only[ab,aa]))
  (bY (o:=Bx (m++[kk])) 8 (by simp(disch:=first|decide|omega) only[ab,aa]) (by decide) (by decide) (by simp(disch:=first|decide|omega) only[ab,aa]) (bd aj (aF (iu vz _))) gT))))))) .nil
theorem FY(rs:fF):aT Tryz.prog 36 [.map (some 0)] (wd [(0,some (c9 rs))] 1 [] 0)
 fun e W'=>e=.ret rK/\W'.get 0=some (c9 rs)/\W'.get 1=some mW/\W'.next<=2:=by
 refine cy aU Tryz.func36 rfl (Nat.le_of_ble_eq_true rfl) ?_;simp only[bA.eq_1,bA.eq_2,cU,Tryz.ntmps36,Nat.reduceAdd];refine ak (aE aU (by simp(disch:=first|decide|omega) only[go_sem]<;>with_reducible rfl) ?_);refine ak (aE aU (by simp(disch:=first|decide|omega) only[go_sem]<;>with_reducible rfl) ?_);refine ga ?_;refine⟨_,?e13,?W13,rfl,?h13,?q13⟩
 case h13=>simp(disch:=first|decide|omega) only[Tryz.results36,go_sem]<;>with_reducible rfl
 refine⟨rfl,?_,?_,?_⟩
 ·simp(disch:=first|decide|omega) only[go_sem]
 ·simp(disch:=first|decide|omega) only[mW,go_sem]
 exact Nat.le_refl _
theorem zx(rs:fF)(hn:rs.length<=1000000):aT Tryz.prog 70 [rK] (wd [(0,some (c9 rs)),(1,some mW)] 2 [] 0) (FC rs):=by
 refine cy aU Tryz.func70 rfl (Nat.le_of_ble_eq_true rfl) ?_;simp only[bA.eq_1,bA.eq_2,cU,Tryz.ntmps70,Nat.reduceAdd];refine ak (aE aU (by simp(disch:=first|decide|omega) only[go_sem]<;>with_reducible rfl) ?_);refine ak (cm ?_);refine bq aU 1 (s1:=?s1) ?h1 (e8 (f:=107) (args:=[.slice none 0 0,rK]) (S:=FC rs) (enters_of (by kernel_rfl)) rfl ?hx ?hl ?q)
 case h1=>simp(disch:=first|decide|omega) only[go_sem]<;>with_reducible rfl
 case hx=>simp(disch:=first|decide|omega) only[rK,go_sem]
 case hl=>exact Hr rs hn
 intro e W' ⟨m,h1,h2,h3,h4,h6,h7⟩;refine⟨_,_,h3,cu (by decide),?_⟩;refine iz (mi (L:=[(0,some (c9 rs)),(6,eP 3 (m.flatMap dZ) m.length)]) (n':=20) (lg:=[]) (nl:=0) h7 fun n o e=>?_) ?_
 ·have hcases:=bP e;simp only[YD,Yy,or_false,Prod.mk.injEq,Option.some.injEq]at hcases;rcases hcases with⟨rfl,rfl⟩|⟨rfl,hh⟩
  ·exact h4
  rw[hh];exact h6
 refine bq aU 1 (s1:=?s2) ?h2 (cQ ?q2)
 case h2=>simp(disch:=first|decide|omega) only[go_sem]<;>with_reducible rfl
 refine ga ?_;refine⟨_,?e15,?W15,rfl,?h15,?q15⟩
 case h15=>simp(disch:=first|decide|omega) only[Tryz.results70,go_sem]<;>with_reducible rfl
 refine⟨m,h1,h2,rfl,?_,?_,?_⟩
 ·simp(disch:=first|decide|omega) only[go_sem]
 ·simp(disch:=first|decide|omega) only[go_sem]
 exact Nat.le_refl _
open Go.Sort
def dn(m:List Int):List Int:=m.mergeSort fun x y=>decide (x<=y)
theorem m7(m:List Int):(dn m).Perm m:=List.mergeSort_perm _ _
theorem kK(m:List Int):(dn m).length=m.length:=(m7 m).length_eq
theorem sM(m:List Int):(dn m).Pairwise fun x y=>decide (x<=y)=true:=
 List.pairwise_mergeSort (le:=fun x y=>decide (x<=y)) (fun a b c h1 h2=>by
  simp only[decide_eq_true_eq]at h1 h2 ⊢;omega) (fun a b=>by
  simp only[YR,decide_eq_true_eq];omega) m
theorem CS{a b:List Int}(hp:a.Perm b):dn a=dn b:=
 List.Perm.eq_of_pairwise (le:=fun x y=>decide (x<=y)=true) (fun x y _ _ h1 h2=>by
  simp only[decide_eq_true_eq]at h1 h2;omega) (sM a) (sM b) ((m7 a).trans (hp.trans (m7 b).symm))
theorem oh(m:List Int):m.flatMap dZ=m.map (Value.int .i64):=by
 induction m with
 |nil=>rfl
 |cons a l ih=>rw[YB,ih];rfl
theorem Kv{w:World}{dc off n:Nat}{d:Array Int}{os:Array Obj}:ai (fun b=>b=dc) w (Sort.grow (putRow (Value.int .i64) (Sort.ahead w n) dc off d) os):=
 ⟨rfl,rfl,rfl,by
  show w.heap.size<=((w.heap.modify dc _)++os).size;simp,fun j hj hb=>by
  show((w.heap.modify dc _)++os)[j]?=_;rw[ZH,if_pos (by simpa using hj),Y8,if_neg (fun e=>hb e.symm)]⟩
theorem Kn{w:World}{dc off n:Nat}{d:Array Int}{os:Array Obj}{c:Array Value}{e:TypeId}{fr:Nat×Nat}(h:w.heap[dc]?=some (.cells c e fr)) :
 (Sort.grow (putRow (Value.int .i64) (Sort.ahead w n) dc off d) os).heap[dc]?=some (.cells (putCells (Value.int .i64) off d c) e fr):=by
 show((w.heap.modify dc (onCells (putCells (Value.int .i64) off d)))++os)[dc]?=_;have hlt:dc<w.heap.size:=(Array.getElem?_eq_some_iff.1 h).1;rw[ZH,if_pos (by simpa using hlt),Y8,if_pos rfl,h];rfl
def vW(P:Program)(f:FuncId):Prop:=(∀(dc off cap:Nat) (zs:List Int) (w:World),Holds (Value.int .i64) w dc off zs.toArray->dc<w.heap.size->zs.length<4611686018427387904 ->
 Calls P f #[.slice (some ⟨dc,off,none⟩) zs.length cap] w fun e w'=>e=.returned (.tuple #[])/\∃n os,w'=Sort.grow (putRow (Value.int .i64) (Sort.ahead w n) dc off (dn zs).toArray) os) /\
 ∀(p:Option Addr) (cap:Nat) (w:World),Calls P f #[.slice p 0 cap] w fun e w'=>e=.returned (.tuple #[])/\w'=w
theorem Ht{P:Program}{f:FuncId}(hS:vW P f){W:XW}:aT P f [.slice none 0 0] W fun e W'=>e=.ret (.tuple #[])/\W'=W:=by
 intro ρ args' w mm hfr hH hA;cases hA with
 |cons _ x _ l' h1 h2=>
 cases h2;have hx:x=.slice none 0 0:=h1.of_flat 1 rfl;subst hx;refine CallsIn.mono (callsIn_wide.2 (hS.2 none 0 w)) fun en w' ⟨he,hw⟩=>?_
 subst he;subst hw;exact⟨_,_,⟨rfl,rfl⟩,ρ,bW.refl _ _ _ _,hH,.flat 1 _ rfl⟩
theorem EH{P:Program}{f:FuncId}(hS:vW P f){W:XW}{n:Nat}{m:List Int}{T:TypeId}(hm:m≠[])(hml:m.length<4611686018427387904)(hg:W.get n=some (.cells (m.flatMap dZ) T (0,0))) :
 aT P f [.slice (some ⟨n,0,none⟩) m.length aH] W fun e W'=>e=.ret (.tuple #[])/\W'=W.put n (some (.cells ((dn m).flatMap dZ) T (0,0))):=by
 intro ρ args' w mm hfr hH hA;have hml0:0<m.length:=List.length_pos_iff.2 hm;cases hA with
 |cons _ x _ l' h1 h2=>
 cases h2;obtain⟨i,cap',hi,hx⟩:∃i cap',ρ n=some i/\x=.slice (some ⟨i.b,0+i.s,none⟩) m.length cap':=by
  generalize hs:Value.slice (some ⟨n,0,none⟩) m.length aH=s at h1;cases h1 with
  |flat k v h=>subst hs;cases k<;>simp[aO]at h
  |slice n o len cap i h hc=>cases hs;cases hc
  |sliceO n o len cap cap' i h hc hl hr hz=>cases hs;exact⟨i,cap',h,rfl⟩
  |sliceE n o cap a i h hc hr=>simp only[Value.slice.injEq]at hs;omega
  |sliceN n o=>simp only[Value.slice.injEq]at hs;omega
  |sliceZ n o a i h=>simp only[Value.slice.injEq]at hs;omega
  |frz cs cs' len b off cap c' e fr hB hl hc h=>exact absurd hs (by simp[FZ])
  |frzE a cap=>exact absurd hs (by simp[FZ])
  |_=>cases hs
 subst hx;obtain⟨ob,hob,hor⟩:=hH.obj n i _ hi hg;cases hor with
 |cells _ _ _ c' fr' hz hr hk hl hv hf hq hmz=>
 have hlen:(m.flatMap dZ).length=i.r:=hr;rw[oh,Yv]at hlen;have hget:∀(l:List Int) (j:Nat) (v:Value),(l.flatMap dZ)[j]?=some v->aO 7 v=true:=fun l j v e=>by
  rw[oh]at e;obtain⟨a,_,rfl⟩:=List.mem_map.1 (YO e);rfl
 have hold:Holds (Value.int .i64) w i.b (0+i.s) m.toArray:=fun j hj=>by
  rw[List.size_toArray]at hj;have he:(m.flatMap dZ)[j]?=some (.int .i64 m[j]):=by rw[oh,Y7,Yl hj];rfl
  obtain⟨v',q1,q2⟩:=hv j _ he;have q3:=q2.of_flat 7 (hget m j _ he);subst q3;refine⟨?_,?_⟩
  ·rw[aY hob,Nat.zero_add,q1];simp[hj]
  cases hfz:w.frozen? ⟨i.b,0+i.s+j,none⟩with
  |false=>rfl
  |true=>
   exfalso;unfold World.frozen? at hfz;rw[hob]at hfz;simp only[Yr,decide_eq_true_eq,Nat.zero_add]at hfz;have:=hf j (by omega) hfz.1 hfz.2;exact absurd this.2 (by simp)
 have hc:=hS.1 i.b (0+i.s) cap' m w hold (Array.getElem?_eq_some_iff.1 hob).1 hml;refine CallsIn.mono (callsIn_wide.2 hc) fun en w' ⟨he,nn,os,hw⟩=>?_
 subst he;subst hw;have hb':=Kn (off:=0+i.s) (n:=nn) (d:=(dn m).toArray) (os:=os) hob;have hsl:=kK m;have hor':OR P ρ i (.cells ((dn m).flatMap dZ) T (0,0)) (.cells (putCells (Value.int .i64) (0+i.s) (dn m).toArray c') T fr'):=by
  refine .cells _ _ _ _ _ (by simpa[putCells]using hz) (by rw[oh,Yv];omega) hk hl (fun j v e=>?_) hf hq hmz;have hfl:=hget _ j v e;rw[oh,Y7]at e;have hjl:j<(dn m).length:=by
   by_cases h:j<(dn m).length
   ·exact h
   rw[YA (by omega)]at e;cases e
  rw[Yl hjl]at e;have e:Value.int .i64 (dn m)[j]=v:=Option.some.inj e;refine⟨v,?_,.flat 7 v hfl⟩;have hlt:i.s+j<c'.size:=by omega
  unfold putCells;rw[Array.getElem?_mapIdx,YS hlt,YG,if_pos ⟨by omega,by rw[List.size_toArray];omega⟩,show i.s+j-(0+i.s)=j by omega,<-e];simp[hjl]
 have hp:=hH.put hi (by rw[hg];simp) _ (Kv (off:=0+i.s) (n:=nn) (d:=(dn m).toArray) (os:=os)) hb' hor';exact⟨_,_,⟨rfl,rfl⟩,ρ,hp.2,hp.1,.flat 1 _ rfl⟩
def Xn(rs:fF)(e:aZ)(W':XW):Prop:=e=.ret (jd 6 rs.length)/\W'.get 0=some (c9 rs)/\W'.get 6=eP 3 ((dn (bE rs)).flatMap dZ) rs.length/\W'.next<=20
theorem Cx(hS:vW Tryz.prog 71)(rs:fF)(hn:rs.length<=1000000) :
 aT Tryz.prog 35 [rK] (wd [(0,some (c9 rs)),(1,some mW)] 2 [] 0) (Xn rs):=by
 refine cy aU Tryz.func35 rfl (Nat.le_of_ble_eq_true rfl) ?_;simp only[bA.eq_1,bA.eq_2,cU,Tryz.ntmps35,Nat.reduceAdd];refine ak (aE aU (by simp(disch:=first|decide|omega) only[go_sem]<;>with_reducible rfl) ?_);refine ak (cm ?_);refine bq aU 1 (s1:=?sA) ?hA (e8 (f:=70) (args:=[rK]) (S:=FC rs) (enters_of (by kernel_rfl)) rfl ?hxA ?hlA ?qA)
 case hA=>simp(disch:=first|decide|omega) only[go_sem]<;>with_reducible rfl
 case hxA=>simp(disch:=first|decide|omega) only[rK,go_sem]
 case hlA=>exact zx rs hn
 intro e W' ⟨m,h1,h2,h3,h4,h6,h7⟩;refine⟨_,_,h3,cu (by decide),?_⟩;refine iz (mi (L:=[(0,some (c9 rs)),(6,eP 3 (m.flatMap dZ) m.length)]) (n':=20) (lg:=[]) (nl:=0) h7 fun n o e=>?_) ?_
 ·have hcases:=bP e;simp only[YD,Yy,or_false,Prod.mk.injEq,Option.some.injEq]at hcases;rcases hcases with⟨rfl,rfl⟩|⟨rfl,hh⟩
  ·exact h4
  rw[hh];exact h6
 have hmk:dn m=dn (bE rs):=CS h1;refine bq aU 1 (s1:=?sB) ?hB (cQ ?qB)
 case hB=>simp(disch:=first|decide|omega) only[go_sem]<;>with_reducible rfl
 refine ak (cm ?_);refine bq aU 1 (s1:=?sC) ?hC ?qC
 case hC=>simp(disch:=first|decide|omega) only[go_sem]<;>with_reducible rfl
 refine e8 (f:=71) (args:=[jd 6 m.length])
  (S:=fun e W'=>e=.ret (.tuple #[])/\W'.get 0=some (c9 rs)/\W'.get 6=eP 3 ((dn m).flatMap dZ) m.length/\W'.next<=20) (enters_of (by kernel_rfl)) rfl ?hxD ?hlD ?qD
 case hxD=>simp(disch:=first|decide|omega) only[go_sem]
 case hlD=>
  rcases m with _|⟨a,m'⟩
  ·refine aT.mono (Ht hS) fun e W' ⟨h1,h2⟩=>?_
   subst h2;exact⟨h1,rfl,rfl,Nat.le_refl _⟩
  have hne:(a::m')≠[]:=by simp
  refine aT.mono (EH hS (m:=a::m') (n:=6) (T:=3) hne (by omega) rfl) fun e W' ⟨h1,h2⟩=>?_
  subst h2;exact⟨h1,rfl,rfl,Nat.le_refl _⟩
 intro e W' ⟨he,h4,h6,h7⟩;refine⟨_,_,he,cu (by decide),?_⟩;refine iz (mi (L:=[(0,some (c9 rs)),(6,eP 3 ((dn m).flatMap dZ) m.length)]) (n':=20) (lg:=[]) (nl:=0) h7 fun n o e=>?_) ?_
 ·have hcases:=bP e;simp only[YD,Yy,or_false,Prod.mk.injEq,Option.some.injEq]at hcases;rcases hcases with⟨rfl,rfl⟩|⟨rfl,hh⟩
  ·exact h4
  rw[hh];exact h6
 refine cQ ?_;refine ak (aE aU (by simp(disch:=first|decide|omega) only[go_sem]<;>with_reducible rfl) ?_);refine ga ?_;refine⟨_,?e3,?W3,rfl,?h3,?q3⟩
 case h3=>simp(disch:=first|decide|omega) only[Tryz.results35,go_sem]<;>with_reducible rfl
 refine⟨by rw[h2],?_,?_,?_⟩
 ·simp(disch:=first|decide|omega) only[go_sem]
 ·simp(disch:=first|decide|omega) only[<-hmk,<-h2,go_sem]
 exact Nat.le_refl _
def pn(b:Nat):Value:=.func (.func 72) #[] #[.pointer (some ⟨b,0,none⟩)]
def lO(m:Nat):ag:=.cells [.map (some m)] 76 (0,0)
theorem Lp{rs rs':fF}(h:c9 rs=c9 rs'):bE rs=bE rs':=by
 have key:∀(l m:fF) (i j:Nat),aA (fun _ l=>sl l) l i=aA (fun _ l=>sl l) m j->bE l=bE m:=by
  intro l
  induction l with
  |nil=>intro m i j h;cases m with
   |nil=>rfl
   |cons a m=>cases h
  |cons a l ih=>
   intro m i j h;cases m with
   |nil=>cases h
   |cons b m=>
    unfold aA at h;injection h with h1 h2;injection h1 with h3 _ _;injection h3 with _ h3;have h3:a.1=b.1:=h3;show a.1::bE l=b.1::bE m;rw[ih m _ _ h2,h3]
 unfold c9 at h;injection h with h _;exact key _ _ _ _ h
open Classical in
noncomputable def vg:HF:=fun args W=>match args with
 |[.map (some m)]=>if ∃rs:fF,W.get m=some (c9 rs)then some (.ret (pn W.next),W.push (lO m))else none
 |_=>none
theorem Nl{W:XW}{m:Nat}{rs:fF}(h:W.get m=some (c9 rs)):vg [.map (some m)] W=some (.ret (pn W.next),W.push (lO m)):=if_pos ⟨rs,h⟩
theorem I1:bQ Tryz.prog 36 vg:=by
 have inv:∀args W e W',vg args W=some (e,W')->∃m rs,args=[.map (some m)]/\W.get m=some (c9 rs)/\e=.ret (pn W.next)/\W'=W.push (lO m):=fun args W e W' h=>by
  unfold vg at h;split at h
  ·rename_i m;split at h
   ·rename_i hx;obtain⟨rs,hx⟩:=hx;cases h;exact⟨m,rs,rfl,hx,rfl,rfl⟩
   cases h
  cases h
 refine⟨enters_of (by kernel_rfl),fun args W e W' h=>?_,fun args W e W' h=>?_⟩
 ·obtain⟨m,rs,rfl,hm,rfl,rfl⟩:=inv _ _ _ _ h;exact bu.push _ _
 obtain⟨m,rs,rfl,hm,rfl,rfl⟩:=inv _ _ _ _ h;have hmn:=aM hm;have t0:(fun n=>if n=m then some 0 else(none:Option Nat)) m=some 0:=if_pos rfl;refine jq (k:=1) (fun _=>m) (fun n=>if n=m then some 0 else none) rfl (fun a b h h' _=>by omega) (fun _ _=>hmn) (fun n a h=>?_) (fun a oL h=>?_) (au (cz t0) aR) (FY rs) fun eL WL' hq=>?_
 ·split at h
  ·rename_i q;cases h;exact⟨by decide,q.symm⟩
  cases h
 ·have ha:a<1:=aM h;obtain⟨_,h2⟩:=cq h;have:a=0:=by omega
  subst this;rw[ab]at h2;cases h2;exact⟨by decide,_,hm,ki _ _ aj⟩
 obtain⟨rfl,g0,g1,g2⟩:=hq;have s0:(fun a=>if a=0 then some m else if a=1 then some W.next else(none:Option Nat)) 0=some m:=if_pos rfl;have s1:(fun a=>if a=0 then some m else if a=1 then some W.next else(none:Option Nat)) 1=some W.next:=rfl;refine⟨fun a=>if a=0 then some m else if a=1 then some W.next else none,fun a x h=>?_,fun a a' x h h'=>?_,fun x o' h=>?_,?_,Zm _⟩
 ·split at h
  ·rename_i q;cases h;exact .inl ⟨by omega,rfl⟩
  split at h
  ·rename_i q;cases h;exact .inr ⟨by omega,Nat.le_refl _,YJ _⟩
  cases h
 ·split at h
  ·split at h'
   ·omega
   split at h'
   ·cases h;cases h';omega
   cases h'
  split at h
  ·split at h'
   ·cases h;cases h';omega
   split at h'
   ·omega
   cases h'
  cases h
 ·rcases XW.get_push h with⟨rfl,rfl⟩|⟨q1,q2⟩
  ·exact .inl ⟨1,_,s1,g1,cg (au (cz s0) aR)⟩
  by_cases hxm:x=m
  ·subst hxm;rw[hm]at q2;cases q2;exact .inl ⟨0,_,s0,g0,ki _ _ aj⟩
  exact .inr ⟨q2,aM q2,fun a _=>fun e=>hxm e.symm⟩
 exact pk (xs:=[]) (xs':=[]) (cs:=[.pointer (some ⟨1,0,none⟩)]) (cs':=[.pointer (some ⟨W.next,0,none⟩)]) aR (au (bN s1) aR)
def Cw(ks:List Int)(W:XW)(b:Nat):XW:=match ks with
 |[]=>W.put b none
 |x::l=>(W.put b none).push (Bx (dn (x::l)))
open Classical in
noncomputable def lL:HF:=fun args W=>if h:∃b m,∃rs:fF,args=[pn b]/\W.get b=some (lO m)/\W.get m=some (c9 rs)/\rs.length<=1000000 then some (.ret (jd W.next (bE (Classical.choose (Yu (Yu h)))).length),Cw (bE (Classical.choose (Yu (Yu h)))) W (Classical.choose h))else none
theorem zd{W:XW}{b m:Nat}{rs:fF}(h0:W.get b=some (lO m))(h1:W.get m=some (c9 rs))(hn:rs.length<=1000000):lL [pn b] W=some (.ret (jd W.next (bE rs).length),Cw (bE rs) W b):=by
 have h:∃b' m',∃rs':fF,[pn b]=[pn b']/\W.get b'=some (lO m')/\W.get m'=some (c9 rs')/\rs'.length<=1000000:=⟨b,m,rs,rfl,h0,h1,hn⟩;have e:lL [pn b] W=some (.ret (jd W.next (bE (Classical.choose (Yu (Yu h)))).length),Cw (bE (Classical.choose (Yu (Yu h)))) W (Classical.choose h)):=dif_pos h;rw[e];obtain⟨q1,q2,q3,_⟩:=Yu (Yu (Yu h));generalize Classical.choose (Yu (Yu h))=rs2 at q1 q2 q3 ⊢;generalize Classical.choose (Yu h)=m2 at q1 q2 q3;generalize Classical.choose h=b2 at q1 q2 q3 ⊢;have hb:b=b2:=by unfold pn at q1;injection q1 with q1 _;injection q1 with _ _ q1;have:=congrArg Array.toList q1;simpa using this
 subst hb;rw[h0]at q2;have hm:m=m2:=by unfold lO at q2;injection q2 with q2;injection q2 with q2 _ _;injection q2 with q2 _;injection q2 with q2;exact Option.some.inj q2
 subst hm;rw[h1]at q3;rw[Lp (Option.some.inj q3)]
theorem BF(hS:vW Tryz.prog 71):bQ Tryz.prog 35 lL:=by
 have inv:∀args W e W',lL args W=some (e,W')->∃b m rs,args=[pn b]/\W.get b=some (lO m)/\W.get m=some (c9 rs)/\rs.length<=1000000/\e=.ret (jd W.next (bE rs).length)/\W'=Cw (bE rs) W b:=fun args W e W' h=>by
  unfold lL at h;split at h
  ·rename_i hx;cases h;obtain⟨q1,q2,q3,q4⟩:=Yu (Yu (Yu hx));exact⟨_,_,_,q1,q2,q3,q4,rfl,rfl⟩
  cases h
 refine⟨enters_of (by kernel_rfl),fun args W e W' h=>?_,fun args W e W' h=>?_⟩
 ·obtain⟨b,m,rs,rfl,hb,hm,hn,rfl,rfl⟩:=inv _ _ _ _ h;cases rs with
  |nil=>exact bu.put _ _ _
  |cons x l=>exact(bu.put _ _ _).trans (bu.push _ _)
 obtain⟨b,m,rs,rfl,hb,hm,hn,rfl,rfl⟩:=inv _ _ _ _ h;have hmn:=aM hm;have hbn:=aM hb;have hbm:b≠m:=fun e=>by
  subst e;rw[hb]at hm;cases hm
 have t0:(fun n=>if n=m then some 0 else if n=b then some 1 else(none:Option Nat)) m=some 0:=if_pos rfl;have t1:(fun n=>if n=m then some 0 else if n=b then some 1 else(none:Option Nat)) b=some 1:=by simp only[if_neg hbm,if_pos]
 have hnx:(Cw (bE rs) W b).next=if rs.length=0 then W.next else W.next+1:=by cases rs<;>rfl
 refine jq (k:=2) (fun a=>if a=0 then m else b) (fun n=>if n=m then some 0 else if n=b then some 1 else none) rfl (fun a a' h h' e=>?_) (fun a h=>?_) (fun n a h=>?_) (fun a oL h=>?_) (au (pk (xs:=[]) (xs':=[]) (cs:=[.pointer (some ⟨b,0,none⟩)]) (cs':=[.pointer (some ⟨1,0,none⟩)]) aR (au (bN t1) aR)) aR) (Cx hS rs hn) fun eL WL' hq=>?_
 ·have a1:a=0\/a=1:=by omega
  have a2:a'=0\/a'=1:=by omega
  rcases a1 with rfl|rfl<;>rcases a2 with rfl|rfl<;>simp at e ⊢
  ·exact hbm e.symm
  exact hbm e
 ·split
  ·exact hmn
  exact hbn
 ·split at h
  ·rename_i q;cases h;exact⟨by decide,q.symm⟩
  split at h
  ·rename_i q;cases h;exact⟨by decide,q.symm⟩
  cases h
 ·have ha:a<2:=aM h;obtain⟨_,h2⟩:=cq h;have:a=0\/a=1:=by omega
  rcases this with rfl|rfl
  ·rw[ab]at h2;cases h2;exact⟨by decide,_,hm,ki _ _ aj⟩
  rw[aa (by decide),ab]at h2;cases h2;exact⟨by decide,_,hb,cg (au (cz t0) aR)⟩
 obtain⟨rfl,g0,g6,g2⟩:=hq;have s0:(fun a=>if a=0 then some m else if a=6 then(if rs.length=0 then none else some W.next)else(none:Option Nat)) 0=some m:=if_pos rfl;refine⟨fun a=>if a=0 then some m else if a=6 then(if rs.length=0 then none else some W.next)else none,fun a x h=>?_,fun a a' x h h'=>?_,fun x o' h=>?_,?_,by rw[hnx];split<;>omega⟩
 ·rw[hnx];split at h
  ·rename_i q;cases h;exact .inl ⟨by omega,by rw[if_pos q]⟩
  split at h
  ·split at h
   ·cases h
   rename_i q0;cases h;rw[if_neg q0];exact .inr ⟨by omega,Nat.le_refl _,YJ _⟩
  cases h
 ·have key:∀a x,(if a=0 then some m else if a=6 then(if rs.length=0 then none else some W.next)else(none:Option Nat))=some x->(a=0/\x=m)\/(a=6/\x=W.next):=fun a x h=>by
   split at h
   ·rename_i q;cases h;exact .inl ⟨q,rfl⟩
   split at h
   ·split at h
    ·cases h
    rename_i q _;cases h;exact .inr ⟨q,rfl⟩
   cases h
  have h1:=key _ _ h;have h2:=key _ _ h';omega
 ·have kept:∀o',(W.put b none).get x=some o'->(∃a o,(if a=0 then some m else if a=6 then(if rs.length=0 then none else some W.next)else(none:Option Nat))=some x/\WL'.get a=some o/\TO Tryz.prog (aL fun a=>if a=0 then some m else if a=6 then(if rs.length=0 then none else some W.next)else(none:Option Nat)) o o')\/(W.get x=some o'/\x<W.next/\∀a,a<2->(if a=0 then m else b)≠x):=fun o' h=>by
   rcases XW.get_put h with⟨_,z⟩|⟨q1,q2⟩
   ·cases z
   by_cases hxm:x=m
   ·subst hxm;rw[hm]at q2;cases q2;exact .inl ⟨0,_,rfl,g0,ki _ _ aj⟩
   refine .inr ⟨q2,aM q2,fun a _=>?_⟩;split
   ·exact fun e=>hxm e.symm
   exact fun e=>q1 e.symm
  cases rs with
  |nil=>exact kept o' h
  |cons y l=>
   rcases XW.get_push h with⟨rfl,rfl⟩|⟨q1,q2⟩
   ·exact .inl ⟨6,_,rfl,g6,bd aj (aF (iu vz _))⟩
   exact kept o' q2
 have hkl:(bE rs).length=rs.length:=Yv ..;rw[hkl];cases rs with
 |nil=>exact ju 1 rfl
 |cons y l=>exact ca rfl
theorem P9{l:List Ce}(h:(fm l).2=0)(hid:∀c∈l,c.id<9223372036854775808):∀c∈aK l,Il c:=by
 intro c hc;refine⟨(pi h hid).2 c hc,fun s hs=>?_⟩;obtain⟨j,hj,rfl⟩:=YL hc;have hk:=lI ((BI h).2.1 j hj);rw[Yn,Yl hj]at hk;obtain⟨i,hi,rfl⟩:=YL hs;have hg:=(xT hk.2).2.2.2 i hi;unfold g8 at hg;simp only[Zd,Yn]at hg;rw[Yl hi,Zd]at hg;by_cases h1:(aK l)[j].sd[i].2=1
 ·exact .inl h1
 by_cases h2:(aK l)[j].sd[i].2=-1
 ·exact .inr h2
 exact absurd ⟨h1,h2⟩ hg
def cI(o:List Ce):Nat->fF
 |0=>[]
 |i+1=>b8 ((cB o i:Nat):Int) (o.getD i default) (cI o i)
structure Xi(o:List Ce)(n:Nat)(r:fF):Prop where
 len:r.length<=n
 row:∀q∈r,q.2.length<=n/\∃k:Nat,q.1=(k:Int)/\∀c∈q.2,c∈o/\k=c.id.toNat/16
 key:∀q∈r,∃j,j<o.length/\q.1=((cB o j:Nat):Int)
theorem vJ(o:List Ce):∀i,i<=o.length->Xi o i (cI o i)
 |0,_=>⟨Nat.le_refl _,fun q h=>(by cases h),fun q h=>(by cases h)⟩
 |i+1,h=>by
  have ih:=vJ o i (by omega);have hm:=bn (l:=o) (i:=i) (by omega);refine⟨?_,fun q hq=>?_,fun q hq=>?_⟩
  ·have:=(sQ (k:=((cB o i:Nat):Int)) (rs:=cI o i) (b:=(av ((cB o i:Nat):Int) (cI o i)).getD []++[o.getD i default])).2.1;have:=ih.len;show(bb _ _ _).length<=_;omega
  ·have hq:q∈bb _ _ _:=hq;rcases oa hq with rfl|hq
   ·refine⟨?_,cB o i,rfl,fun c hc=>?_⟩
    ·show((av _ (cI o i)).getD []++[_]).length<=i+1;rw[Yh,YN];cases hg:av ((cB o i:Nat):Int) (cI o i)with
     |none=>simp
     |some b=>have h7:b.length<=i:=(ih.row _ (eK hg)).1;simp only[Zd];omega
    rcases List.mem_append.1 hc with hc|hc
    ·cases hg:av ((cB o i:Nat):Int) (cI o i)with
     |none=>rw[hg]at hc;cases hc
     |some b=>
      rw[hg]at hc;obtain⟨_,k,h1,h2⟩:=ih.row _ (eK hg);have h1:((cB o i:Nat):Int)=k:=h1;rw[show cB o i=k by omega];exact h2 c hc
    rw[List.mem_singleton.1 hc];exact⟨hm,rfl⟩
   obtain⟨h1,h2⟩:=ih.row q hq;exact⟨by omega,h2⟩
  have hq:q∈bb _ _ _:=hq;rcases oa hq with rfl|hq
  ·exact⟨i,by omega,rfl⟩
  exact ih.key q hq
def bD(o:List Ce):List Int:=dn (bE (cI o o.length))
theorem Do(o:List Ce):(bD o).length=(cI o o.length).length:=by
 unfold bD;rw[kK];exact Yv ..
def qv(o:List Ce)(k:Int):List Ce:=(av k (cI o o.length)).getD []
def mE(o:List Ce)(k:Int):List UInt8:=yE k.toNat (qv o k)
noncomputable def vq(es:bj)(o:List Ce):Nat->bj
 |0=>es
 |i+1=>eE (vq es o i) (mE o ((bD o).getD i default))
noncomputable def fb(o:List Ce):Nat->List UInt8
 |0=>2::bK (cI o o.length).length
 |i+1=>fb o i++bK ((bD o).getD i default).toNat++(bf (mE o ((bD o).getD i default))).1
theorem Dt{o:List Ce}(hb:∀c∈o,Il c){i:Nat}(hi:i<(bD o).length):∃k:Nat,(bD o).getD i default=(k:Int)/\k<576460752303423488/\(∃b,av ((k:Nat):Int) (cI o o.length)=some b/\qv o ((k:Nat):Int)=b/\b.length<=o.length)/\∀c∈qv o ((k:Nat):Int),Il c/\16*(k:Int)<=c.id:=by
 have ih:=vJ o o.length (Nat.le_refl _);have hm:(bD o).getD i default∈bE (cI o o.length):=(m7 _).mem_iff.1 (bn hi);obtain⟨q,hq,he⟩:=List.mem_map.1 hm;obtain⟨j,hj,hk⟩:=ih.key q hq;have hbj:=(hb _ (bn (l:=o) (i:=j) hj)).b.id;have hka:cB o j=(o.getD j default).id.toNat/16:=rfl;refine⟨cB o j,by rw[<-he,hk],by omega,?_,?_⟩
 ·cases hg:av ((cB o j:Nat):Int) (cI o o.length)with
  |none=>
   exfalso;exact(ol.2 (by rw[<-hk];exact List.mem_map_of_mem hq)) hg
  |some b=>exact⟨b,rfl,by unfold qv;rw[hg];rfl,(ih.row _ (eK hg)).1⟩
 intro c hc;unfold qv at hc;cases hg:av ((cB o j:Nat):Int) (cI o o.length)with
 |none=>rw[hg]at hc;cases hc
 |some b=>
  rw[hg]at hc;obtain⟨_,k,h1,h2⟩:=ih.row _ (eK hg);obtain⟨h3,h4⟩:=h2 c hc;have h5:=hb c h3;have h6:=h5.b.id;have h1:((cB o j:Nat):Int)=k:=h1;exact⟨h5,by omega⟩
theorem Oh{o:List Ce}(hl:o.length<=1000000)(hb:∀c∈o,Il c){i:Nat}(hi:i<(bD o).length):(mE o ((bD o).getD i default)).length<=21+1000*o.length:=by
 obtain⟨k,h1,h2,⟨b,h3,h4,h5⟩,h6⟩:=Dt hb hi;rw[h1];unfold mE yE;rw[Yt];have:=vO (k:=k) (l:=qv o k) fun c hc=>(h6 c hc).1.b
 have:=da (n:=k) (by omega);have:=da (n:=(qv o k).length) (by rw[h4];omega);rw[h4]at *;simp only[List.length_cons,Yh];omega
end Go.Proofs.YthlkgmdkabelpaaGreat.X
namespace Go.Proofs
open Go.Shelf
def Tryz.sortInt_ren:Go.Shelf.Ren:=⟨fun|5=>71|8=>109|7=>108|19=>129|20=>130|10=>120|11=>121|12=>122|13=>123|14=>124|15=>125|16=>126|17=>127|18=>128|30=>143|31=>144|32=>145|33=>146|34=>147|35=>118|40=>153|n=>n,fun|23=>35|25=>3|3=>3|32=>123|22=>35|0=>0|44=>117|46=>121|4=>4|36=>201|35=>200|41=>132|5=>5|9=>9|53=>218|57=>222|63=>226|64=>227|n=>n,fun|n=>n⟩
theorem Tryz.sortInt:Go.Proofs.SlLaysM.n5 Tryz.prog Tryz.sortInt_ren:={
 mixed:=by kernel_rfl
 f5:=⟨Tryz.f71.name,by decide,Tryz.func71.trans (congrArg some (by kernel_rfl))⟩
 f7:=⟨Tryz.f108.name,by decide,Tryz.func108.trans (congrArg some (by kernel_rfl))⟩
 f8:=Tryz.func109.trans (congrArg some (by kernel_rfl))
 f10:=⟨Tryz.f120.name,by decide,Tryz.func120.trans (congrArg some (by kernel_rfl))⟩
 f11:=⟨Tryz.f121.name,by decide,Tryz.func121.trans (congrArg some (by kernel_rfl))⟩
 f12:=⟨Tryz.f122.name,by decide,Tryz.func122.trans (congrArg some (by kernel_rfl))⟩
 f13:=⟨Tryz.f123.name,by decide,Tryz.func123.trans (congrArg some (by kernel_rfl))⟩
 f14:=⟨Tryz.f124.name,by decide,Tryz.func124.trans (congrArg some (by kernel_rfl))⟩
 f15:=⟨Tryz.f125.name,by decide,Tryz.func125.trans (congrArg some (by kernel_rfl))⟩
 f16:=⟨Tryz.f126.name,by decide,Tryz.func126.trans (congrArg some (by kernel_rfl))⟩
 f17:=⟨Tryz.f127.name,by decide,Tryz.func127.trans (congrArg some (by kernel_rfl))⟩
 f18:=⟨Tryz.f128.name,by decide,Tryz.func128.trans (congrArg some (by kernel_rfl))⟩
 f19:=Tryz.func129.trans (congrArg some (by kernel_rfl))
 f20:=Tryz.func130.trans (congrArg some (by kernel_rfl))
 f30:=⟨Tryz.f143.name,by decide,Tryz.func143.trans (congrArg some (by kernel_rfl))⟩
 f31:=Tryz.func144.trans (congrArg some (by kernel_rfl))
 f32:=Tryz.func145.trans (congrArg some (by kernel_rfl))
 f33:=⟨Tryz.f146.name,by decide,Tryz.func146.trans (congrArg some (by kernel_rfl))⟩
 f34:=⟨Tryz.f147.name,by decide,Tryz.func147.trans (congrArg some (by kernel_rfl))⟩
 f35:=⟨Tryz.f118.name,by decide,Tryz.func118.trans (congrArg some (by kernel_rfl))⟩
 f40:=⟨Tryz.f153.name,by decide,Tryz.func153.trans (congrArg some (by kernel_rfl))⟩
 t0:=Tryz.underlying0
 a0:=Tryz.isAgg0
 z0:=Tryz.sizeOf0
 v0:=Tryz.zeroValue0
 t3:=Tryz.underlying3
 a3:=Tryz.isAgg3
 z3:=Tryz.sizeOf3
 v3:=Tryz.zeroValue3
 t4:=Tryz.underlying4
 a4:=Tryz.isAgg4
 z4:=Tryz.sizeOf4
 v4:=Tryz.zeroValue4
 t5:=Tryz.underlying5
 a5:=Tryz.isAgg5
 z5:=Tryz.sizeOf5
 v5:=Tryz.zeroValue5
 t9:=Tryz.underlying9
 a9:=Tryz.isAgg9
 z9:=Tryz.sizeOf9
 v9:=Tryz.zeroValue9
 t22:=Tryz.underlying35
 a22:=Tryz.isAgg35
 z22:=Tryz.sizeOf35
 v22:=Tryz.zeroValue35
 t23:=Tryz.underlying35
 a23:=Tryz.isAgg35
 z23:=Tryz.sizeOf35
 v23:=Tryz.zeroValue35
 t25:=Tryz.underlying3
 a25:=Tryz.isAgg3
 z25:=Tryz.sizeOf3
 v25:=Tryz.zeroValue3
 t32:=Tryz.underlying123
 a32:=Tryz.isAgg123
 z32:=Tryz.sizeOf123
 v32:=Tryz.zeroValue123
 t35:=Tryz.underlying200
 a35:=Tryz.isAgg200
 z35:=Tryz.sizeOf200
 v35:=Tryz.zeroValue200
 t36:=Tryz.underlying201
 a36:=Tryz.isAgg201
 z36:=Tryz.sizeOf201
 v36:=Tryz.zeroValue201
 t41:=Tryz.underlying132
 a41:=Tryz.isAgg132
 z41:=Tryz.sizeOf132
 v41:=Tryz.zeroValue132
 t44:=Tryz.underlying117
 a44:=Tryz.isAgg117
 z44:=Tryz.sizeOf117
 v44:=Tryz.zeroValue117
 t46:=Tryz.underlying121
 a46:=Tryz.isAgg121
 z46:=Tryz.sizeOf121
 v46:=Tryz.zeroValue121
 t53:=Tryz.underlying218
 a53:=Tryz.isAgg218
 z53:=Tryz.sizeOf218
 v53:=Tryz.zeroValue218
 t57:=Tryz.underlying222
 a57:=Tryz.isAgg222
 z57:=Tryz.sizeOf222
 v57:=Tryz.zeroValue222
 t63:=Tryz.underlying226
 a63:=Tryz.isAgg226
 z63:=Tryz.sizeOf226
 v63:=Tryz.zeroValue226
 t64:=Tryz.underlying227
 a64:=Tryz.isAgg227
 z64:=Tryz.sizeOf227
 v64:=Tryz.zeroValue227 }
end Go.Proofs
namespace Go.Proofs.YthlkgmdkabelpaaGreat.X
open Go Go.RowKit Go.Shelf Go.Sort
theorem Ac:vW Tryz.prog 71:=
 ⟨fun dc off cap zs w hH hb hs=>AnyM.slices_Sort_int Tryz.sortInt dc off cap zs w hH hb hs,fun p cap w=>AnyM.slices_Sort_int_none Tryz.sortInt p cap w⟩
open Go.Proofs.YthlkgmdkabelpaaGreat.St
theorem WQ{P:Program}[hM:kJ P]{N k:Nat}{s s':XS}{Q:XQ}{id:Nat}{ops:Array Oper}{p:Prop}(f:p)(q:Q .norm s')(h:p->fE P (cd P (bc [] []) 1) N none ops ops.toList s=some (.code .norm s'):=by intro hf;simp(disch:=first|decide|omega|(simp only[Yh,List.length_cons,List.length_nil,Yk,Ym,Yo]<;>omega)|(simp(disch:=first|decide|omega) only[ae,ab,aa,ci.eq_1];done)) only[hf,go_sem]<;>with_reducible rfl):ay P N k (.region id ops false) s Q:=aE b0 (h f) q
instance {es:bj}{b:Nat}:yF Tryz.prog (bT es b) b:=⟨fun θ h=>iW fun _=>h⟩
abbrev pF(r:List (Nat×Option Value)):List (Nat×Option Value):=(0,some (.pointer (some ⟨0,0,none⟩)))::(4,some (.pointer (some ⟨2,0,none⟩)))::(8,some (.map (some 4)))::r
abbrev pA(es:bj)(r:List (Nat×Option ag)):List (Nat×Option ag):=(0,some (bT es 3))::(2,some zH)::(3,some (fD es))::r
abbrev pR(rs:fF):List (Nat×Option ag):=(4,some (jf 7 rs))::eR 58 7 rs 0
abbrev mC(rs:fF):ag:=.map (aA (fun _ l=>sl l) rs 0) rs.length
instance {rs:fF}:lA Tryz.prog (mC rs):=⟨ki rs⟩
theorem Dv{α:Type}{R:List (Nat×Option α)}{m:Nat}{o:α}:∀{A:List (Nat×Option α)},lk A m=some o->lk (A++R) m=some o
 |[],h=>by cases h
 |(a,x)::A,h=>by
  rw[List.cons_append];by_cases e:a=m
  ·subst e;rw[ab]at h ⊢;exact h
  rw[aa e]at h ⊢;exact Dv h
theorem T1{L:List (Nat×Option ag)}{N m nl:Nat}{lg:List Nat}{rs:fF}(h:lk L m=some (c9 rs))(h1:m<N)(h2:N<16383):vg [.map (some m)] (wd L N lg nl)=some (.ret (pn N),wd ((N,some (lO m))::L) (N+1) lg nl):=
 (Nl (W:=wd L N lg nl) (m:=m) (rs:=rs) (by rw[ae h1 (by omega)];exact h)).trans (by rw[fx];rfl)
theorem Ge{L:List (Nat×Option ag)}{N b m nl:Nat}{lg:List Nat}{rs:fF}(h0:lk L b=some (lO m))(h:lk L m=some (c9 rs))(hn:rs.length<=1000000)(hb:b<N)(h1:m<N)(h2:N<16383)(he:bE rs=[]):lL [pn b] (wd L N lg nl)=some (.ret (.slice none 0 0),wd ((b,none)::L) N (b::lg) (nl+1)):=by
 rw[zd (W:=wd L N lg nl) (rs:=rs) (by rw[ae hb (by omega)];exact h0) (by rw[ae h1 (by omega)];exact h) hn,he];show some (aZ.ret _,(wd L N lg nl).put b none)=_;rw[jS];rfl
theorem Jk{L:List (Nat×Option ag)}{N b m nl:Nat}{lg:List Nat}{rs:fF}{x:Int}{l:List Int}(h0:lk L b=some (lO m))(h:lk L m=some (c9 rs))(hn:rs.length<=1000000)(hb:b<N)(h1:m<N)(h2:N<16383)(he:bE rs=x::l):lL [pn b] (wd L N lg nl)=some (.ret (gs N aH (dn (x::l))),wd ((N,some (ro 3 (dn (x::l))))::(b,none)::L) (N+1) (b::lg) (nl+1)):=by
 rw[zd (W:=wd L N lg nl) (rs:=rs) (by rw[ae hb (by omega)];exact h0) (by rw[ae h1 (by omega)];exact h) hn,he];show some (aZ.ret (jd N (l.length+1)),((wd L N lg nl).put b none).push (ro 3 (dn (x::l))))=_;rw[jS,fx];unfold gs;rw[kK];rfl
theorem VQ{a:Bool}{l l':List UInt8}{h:HB}{w b r N nl:Nat}{L:List (Nat×Option ag)}{lg:List Nat}(hw:lk L w=some (wo a w b l))(hb:lk L b=some (bX l))(hr:lk L r=some (hH h))(hwb:w≠b)(hrw:r≠w)(hrb:r≠b)(h1:w<N)(h2:b<N)(h4:r<N)(h3:N<16383) :
 yK (fun r=>[.slice (some ⟨r,0,none⟩) 32 32]) (some (hH h)) a l zO l' [.pointer (some ⟨w,0,none⟩),.slice (some ⟨r,0,none⟩) 32 32] (wd L N lg nl)=some (.ret zO,wd ((w,some (wo true w N l'))::(N,some (bX l'))::(b,none)::(r,none)::L) (N+1) (w::b::r::lg) (nl+3)):=by
 refine(vH w r b ⟨rfl,?_,?_,hwb,fun o' q=>?_⟩ (fun _ r r' q=>?_)).trans (by simp only[ou.eq_1,jS,fx];rfl)
 ·rw[ae h1 (by omega)];exact hw
 ·rw[ae h2 (by omega)];exact hb
 ·cases q;exact⟨by rw[ae h4 (by omega)];exact hr,hrw,hrb⟩
 injection q with q _;injection q with q;injection q with q;injection q with q
theorem Wn{l:List UInt8}{w b N nl:Nat}{L:List (Nat×Option ag)}{lg:List Nat}(hw:lk L w=some (wo true w b l))(hb:lk L b=some (bX l))(hwb:w≠b)(h1:w<N)(h2:b<N)(h3:N<16383):hks l [.pointer (some ⟨w,0,none⟩)] (wd L N lg nl)=some (.ret (.string (str l)),wd ((b,none)::(w,none)::L) N (b::w::lg) (nl+2)):=
 (Ga (W:=wd L N lg nl) w b (by rw[ae h1 (by omega)];exact hw) (by rw[ae h2 (by omega)];exact hb) hwb).trans (by simp only[jS])
noncomputable def rM(es:bj)(l:List Ce):bj:=if(fm l).2=0 then eE (vq es (aK l) (bD (aK l)).length) (fb (aK l) (bD (aK l)).length)else es
noncomputable def x9(l:List Ce):HB:=if(fm l).2=0 then bf (fb (aK l) (bD (aK l)).length)else hZ
set_option maxHeartbeats 2000000 in
theorem VF(es:bj)(l:List Ce)(hl:l.length<=1000000)(hs:∀c∈l,c.sd.length<=1000000)(hid:∀c∈l,c.id<9223372036854775808):Fp 17 [kF l] es (.tuple #[cr (x9 l),.int .i64 (fm l).2]) (rM es l):=by
 refine⟨enters_of (by kernel_rfl),b7.h,Br.h,?_⟩;show aT _ _ _ (wd [(0,some (bT es 1)),(1,gi es)] 2 [] 0) _;refine low Tryz.func17 Tryz.results17 (h:=?_);show ay _ _ 2 _ _ _;refine cv [(0,some (.pointer (some ⟨0,0,none⟩))),(1,some (kF l))] [(0,some (bT es 3)),(3,some (fD es))] 4 ?_ (hl:=by
  cases es with
  |nil=>exact bg
  |cons x l=>exact kj [(0,0),(1,3)])
 refine rs ?_;refine ak ?_;refine rf (And.intro (fun(x y:Operand) (b o:Nat)=>nH (x:=x) (y:=y) (b:=b) (o:=o) Tryz.underlying26) True.intro) ?_;refine cf ?_;refine ap ?_;show ay _ _ _ _ _ _;refine ak ?_;refine rc (b1 (Rq l hl hs)) ?_;by_cases h0:(fm l).2=0
 ·obtain⟨k1,k2⟩:=pi h0 hid;have e1:rM es l=eE (vq es (aK l) (bD (aK l)).length) (fb (aK l) (bD (aK l)).length):=if_pos h0;have e2:x9 l=bf (fb (aK l) (bD (aK l)).length):=if_pos h0;have hcan:=Bl l (by omega) hs;have hG:=P9 h0 hid;have hlo:(aK l).length<=4000:=by rw[<-y7,Yv,bO];exact k1
  rw[e1,e2,h0];generalize aK l=o at hcan hG hlo ⊢;refine rs ?_;refine cf ?_;refine sk (rs ?_);refine ak ?_;refine rc (b1 hcan) ?_;refine fr (fun i:Nat=>⟨an (pF [(31,some (sl o)),(32,some (.int .i64 (o.length:Nat))),(33,some (.int .i64 (i:Nat)))]),wd (pA es []++pR (cI o i)) ((cI o i).length+7) [] 0,[]⟩) (fun i=>i<=o.length) (fun i=>o.length-i) 0 (Yq _) (fun i hv h=>?_) (fun i hv h=>?_) (h0:=by
   show aX _ _ _ ⟨an (pF [(31,some (sl o)),(32,some (.int .i64 (o.length:Nat))),(33,some (.int .i64 ((0:Nat):Int)))]),wd (pA es [(4,some (.map [] 0))]) 7 [] 0,[]⟩;exact kj [(0,0),(3,3),(5,2),(6,4)])
  ·have hB:=vJ o i hv;have hbi:=(hG _ (bn (l:=o) (i:=i) (by omega))).b.id;have hk:cB o i=(o.getD i default).id.toNat/16:=rfl;have hN:cI o (i+1)=b8 ((cB o i:Nat):Int) (o.getD i default) (cI o i):=rfl;generalize hx:o.getD i default=x at hbi hk hN;obtain⟨xi,xd,xs⟩:=x;simp only at hbi hk;obtain⟨a,rfl⟩:∃a:Nat,xi=a:=⟨_,(Int.toNat_of_nonneg hbi.1).symm⟩;rw[Yt]at hk;generalize hxx:(⟨(a:Int),xd,xs⟩:Ce)=x at hx hN;generalize cB o i=k at hk hN;have hlen:=hB.len;have hrow:=fun q hq=>(hB.row q hq).1
   clear hB;generalize cI o i=M at hN hlen hrow ⊢;rw[<-hxx]at hx;refine bs (rf hx ?_);refine cv (pF [(31,some (sl o)),(32,some (.int .i64 (o.length:Nat))),(33,some (.int .i64 (i:Nat))),(10,some (.pointer (some ⟨5,0,none⟩)))]) (pA es [(5,some (.cells [.int .i64 (a:Int),.int .i64 xd,sl xs] 58 (0,0)))]++pR M) (M.length+7) ?_ (hl:=WP (M.length+7) 5);refine rs ?_;rw[<-hk];rw[<-hxx]at hN;cases hx1:dg ((k:Nat):Int) M 0 with
   |none=>
    have hgk:=gm.1 hx1;have hpl:=E0 hx1;have hM:b8 ((k:Nat):Int) ⟨(a:Int),xd,xs⟩ M=bb ((k:Nat):Int) [⟨(a:Int),xd,xs⟩] M:=by unfold b8;rw[hgk];rfl
    have hup:=fun W rr v=>vp (W:=W) (r:=rr) (v:=v) (B:=7) (k:=((k:Nat):Int)) (rs:=M) [⟨(a:Int),xd,xs⟩]
    refine WQ (And.intro hx1 hup) ?_;refine rl ?_;refine nx (i+1) (by omega) (by omega) ?_;rw[hN,hM];exact yR ((k:Nat):Int) [(⟨(a:Int),xd,xs⟩:Ce)] (M.length+8)
   |some q0=>
    obtain⟨i0,l0⟩:=q0;obtain⟨hpl,hi0,hget,hgk⟩:=Ez hx1;have hM:b8 ((k:Nat):Int) ⟨(a:Int),xd,xs⟩ M=bb ((k:Nat):Int) (l0++[⟨(a:Int),xd,xs⟩]) M:=by unfold b8;rw[hgk];rfl
    have hll:=hrow _ (eK hgk);simp only at hll;have hup:=fun W rr v=>vM (W:=W) (r:=rr) (v:=v) (B:=7) (d:=6) (l0++[⟨(a:Int),xd,xs⟩]) hx1
    refine cv (pF [(31,some (sl o)),(32,some (.int .i64 (o.length:Nat))),(33,some (.int .i64 (i:Nat))),(10,some (.pointer (some ⟨5,0,none⟩))),(11,some (.int .i64 (k:Nat)))]) ((6,(M[i0]?).map fun x=>ro 58 x.2)::(7+i0,none)::(pA es [(5,some (.cells [.int .i64 (a:Int),.int .i64 xd,sl xs] 58 (0,0)))]++((4,some (.map (aA (iL 7 6 i0) M 0) M.length))::eR 58 7 M 0))) (M.length+7) ?_ (hl:=Mg i0 6);rw[hget];refine WQ (And.intro hx1 (And.intro hup (YG (f:=fun x:Int×List Ce=>ro 58 x.2) (a:=(((k:Nat):Int),l0))))) ?_;refine rl ?_;refine nx (i+1) (by omega) (by omega) ?_;rw[hN,hM];exact yR ((k:Nat):Int) (l0++[(⟨(a:Int),xd,xs⟩:Ce)]) (M.length+8)
  rw[show i=o.length by omega];show ay _ _ _ _ _ _;have hB:=vJ o o.length (Nat.le_refl _);have hkl:=Do o;have hkk:bD o=dn (bE (cI o o.length)):=rfl;have hget:=fun i hi=>Dt (o:=o) hG (i:=i) hi
  have hbl:=fun i hi=>Oh (o:=o) (by omega) hG (i:=i) hi
  have hrow:∀k,qv o k=(av k (cI o o.length)).getD []:=fun _=>rfl
  have hT0:fb o 0=2::bK (cI o o.length).length:=rfl;obtain⟨hlen,hrw,_⟩:=hB;generalize cI o o.length=M at hlen hrw hkl hkk hget hrow hT0 ⊢;refine eD (jC (e:=58) (B:=7) (mp:=4) (A:=pA es []) (by decide) (by omega) (by omega) (fun q hq=>by have:=(hrw q hq).1;show _<=4611686018427387904;omega) (fun q hq=>by simp only[YD,Yy,or_false]at hq;rcases hq with rfl|rfl|rfl<;>exact⟨by simp only;omega,by simp only;decide⟩) M.length 0 _ (Nat.zero_add _) (by repeat (first|exact ab|refine Eq.trans (aa (by decide)) ?_)) (fun j _ hj=>by
   repeat (refine Eq.trans (aa (by omega)) ?_)
   rw[fe,if_pos (by omega)];congr 2;omega) (fun m o hm=>by
   have hmm:=tw 7 hm;exact⟨by omega,Dv hm⟩)) ?_
  refine cv (pF []) (pA es [(4,some (mC M))]) 5 ?_ (hl:=kj [(0,0),(2,2),(3,3),(4,4)]);refine rs ?_;refine cv (pF [(12,some (.pointer (some ⟨5,0,none⟩)))]) (pA es [(4,some (mC M)),(5,some (.cells [.pointer none,.slice none 0 0] 84 (0,0))),(6,some (bX []))]) 7 ?_;refine cv (pF [(12,some (.pointer (some ⟨5,0,none⟩)))]) (pA es [(4,some (mC M)),(5,some (wo false 5 6 [])),(6,some (bX []))]) 7 ?_ (hl:=kj [(0,0),(2,2),(3,3),(4,4),(5,5),(6,6)]);have hg1:=wz (a:=false) (l:=[]) (l':=jK [((2:Nat):Int),(M.length:Nat)]) (ns:=[((2:Nat):Int),(M.length:Nat)]) (c:=2) (w:=5) (b:=6) (N:=7) (nl:=0) (lg:=[]) (L:=pA es [(4,some (mC M)),(5,some (wo false 5 6 [])),(6,some (bX []))]) (by repeat (first|exact ab|refine Eq.trans (aa (by decide)) ?_)) (by repeat (first|exact ab|refine Eq.trans (aa (by decide)) ?_)) (by decide) (by decide) (by decide) (by decide);have hok:=wC false [] [((2:Nat):Int),(M.length:Nat)] 2 (fun n hn=>by
   simp only[YD,Yy,or_false]at hn;rcases hn with rfl|rfl<;>omega) (by show 2<=_;decide) (by show 0<2;decide) (by show 0<_;decide)
  rw[List.nil_append]at hok;have hT1:jK [((2:Nat):Int),(M.length:Nat)]=fb o 0:=by rw[ds2,Yt,Yt,gY (by decide),hT0];rfl
  rw[hT1]at hg1 hok;refine lB hg1 (bh (lq hok)) ?_;have hd2:=da (n:=M.length) (by omega);have hTl:(fb o 0).length<=11:=by rw[hT0,List.length_cons];omega
  have hTn:∀i,fb o i≠[]:=fun i=>by
   induction i with
   |zero=>rw[hT0];simp
   |succ i ih=>show fb o i++_++_≠[];simp[ih]
  refine cv (pF [(12,some (.pointer (some ⟨5,0,none⟩)))]) (pA es [(4,some (mC M)),(5,some (wo true 5 6 (fb o 0))),(6,some (bX (fb o 0)))]) 7 ?_ (hl:=kj [(0,0),(2,2),(3,3),(4,4),(5,5),(8,6)]);refine ak ?_;refine jP ⟨an (pF [(12,some (.pointer (some ⟨5,0,none⟩))),(58,some (sl (bD o))),(59,some (.int .i64 ((bD o).length:Nat))),(60,some (.int .i64 ((0:Nat):Int)))]),wd (pA es [(4,some (mC M)),(5,some (wo true 5 6 (fb o 0))),(6,some (bX (fb o 0)))]) 9 [] 0,[]⟩ ?_ ?_
  ·have hL4:lk (pA es [(4,some (mC M)),(5,some (wo true 5 6 (fb o 0))),(6,some (bX (fb o 0)))]) 4=some (c9 M):=(by repeat (first|exact ab|refine Eq.trans (aa (by decide)) ?_));have hk1:=T1 (N:=7) (nl:=0) (lg:=[]) hL4 (by decide) (by decide);cases he:bE M with
   |nil=>
    have hs1:=Ge (L:=(7,some (lO 4))::(pA es [(4,some (mC M)),(5,some (wo true 5 6 (fb o 0))),(6,some (bX (fb o 0)))])) (N:=8) (b:=7) (m:=4) (nl:=0) (lg:=[]) ab ((aa (by decide)).trans hL4) (by omega) (by decide) (by decide) (by decide) he;have hkz:bD o=[]:=by rw[hkk,he];exact List.length_eq_zero_iff.1 (kK [])
    rw[hkz];refine pa (And.intro hk1 hs1) (ur I1 (BF Ac)) ?_;exact bg
   |cons x r=>
    have hs1:=Jk (L:=(7,some (lO 4))::(pA es [(4,some (mC M)),(5,some (wo true 5 6 (fb o 0))),(6,some (bX (fb o 0)))])) (N:=8) (b:=7) (m:=4) (nl:=0) (lg:=[]) ab ((aa (by decide)).trans hL4) (by omega) (by decide) (by decide) (by decide) he;have hkz:bD o=dn (x::r):=by rw[hkk,he]
    have hlk:(dn (x::r)).length<=4000:=by rw[<-hkz];omega
    rw[hkz];refine pa (And.intro hk1 hs1) (ur I1 (BF Ac)) ?_;exact fz 8
  refine fr (fun i:Nat=>⟨an (pF [(12,some (.pointer (some ⟨5,0,none⟩))),(58,some (sl (bD o))),(59,some (.int .i64 ((bD o).length:Nat))),(60,some (.int .i64 (i:Nat)))]),wd (pA (vq es o i) [(4,some (mC M)),(5,some (wo true 5 6 (fb o i))),(6,some (bX (fb o i)))]) 7 [] 0,[]⟩) (fun i=>i<=(bD o).length/\(fb o i).length<=11+42*i) (fun i=>(bD o).length-i) 0 ⟨Yq _,by omega⟩ (fun i hv h=>?_) (fun i hv h=>?_) (h0:=by
   show aX _ _ _ ⟨an (pF [(12,some (.pointer (some ⟨5,0,none⟩))),(58,some (sl (bD o))),(59,some (.int .i64 ((bD o).length:Nat))),(60,some (.int .i64 ((0:Nat):Int)))]),wd (pA es [(4,some (mC M)),(5,some (wo true 5 6 (fb o 0))),(6,some (bX (fb o 0)))]) 7 [] 0,[]⟩;exact kj [(0,0),(2,2),(3,3),(4,4),(5,5),(6,6)])
  ·obtain⟨hv,hTl⟩:=hv;have hi:i<(bD o).length:=by omega
   obtain⟨k,hk1,hk2,⟨b,hb1,hb2,hb3⟩,hb4⟩:=hget i hi;have hbl:=hbl i hi;have eT:fb o (i+1)=fb o i++bK ((bD o).getD i default).toNat++(bf (mE o ((bD o).getD i default))).1:=rfl;have eS:vq es o (i+1)=eE (vq es o i) (mE o ((bD o).getD i default)):=rfl;have ebk:mE o ((bD o).getD i default)=yE k b:=by rw[hk1];unfold mE;rw[hb2,Yt]
   rw[ebk]at eT eS hbl;rw[hk1,Yt]at eT;rw[hb2]at hb4;have hbk:=Wm k b (by omega) hk2 hb4;obtain⟨j,hix⟩:∃j,dg ((k:Nat):Int) M 0=some (j,b):=by
    have:=ij ((k:Nat):Int) M 0;rw[hb1]at this;cases hx:dg ((k:Nat):Int) M 0 with
    |none=>rw[hx]at this;cases this
    |some q=>rw[hx]at this;obtain⟨j,q⟩:=q;exact⟨j,by rw[<-Option.some.inj this]⟩
   have hd1:=da (n:=k) (by omega);have hk4:(bD o).length<=4000:=by omega
   have hsh:=(bf (yE k b)).2;have hTe:(fb o (i+1)).length<=11+42*(i+1):=by rw[eT,Yh,Yh];omega
   generalize yE k b=B at eT eS hbl hbk hsh;generalize fb o i=T at hTl eT ⊢;generalize vq es o i=E at eS ⊢;refine bs (rf hk1 ?_);have hg1:=HH (w:=0) (b:=3) (xs:=[.string (str B)]) (es:=E) (es':=eE E B) (v:=cr (bf B)) (N:=7) (nl:=0) (lg:=[]) (L:=pA E [(4,some (mC M)),(5,some (wo true 5 6 T)),(6,some (bX T))]) (by repeat (first|exact ab|refine Eq.trans (aa (by decide)) ?_)) (by repeat (first|exact ab|refine Eq.trans (aa (by decide)) ?_)) wM (by decide) (by decide) (by decide) (by decide);refine lB (And.intro hix hg1) (ur (nL hbk) (CB (w:=0) (b:=3) (Hc E B (by omega)))) ?_;generalize eE E B=E' at eS hg1 ⊢;generalize bf B=h at eT hsh ⊢;refine cv (pF [(12,some (.pointer (some ⟨5,0,none⟩))),(14,some (.int .i64 (k:Nat))),(15,some (.pointer (some ⟨7,0,none⟩))),(58,some (sl (bD o))),(59,some (.int .i64 ((bD o).length:Nat))),(60,some (.int .i64 (i:Nat)))]) (pA E' [(4,some (mC M)),(5,some (wo true 5 6 T)),(6,some (bX T)),(7,some (hH h))]) 8 ?_ (hl:=kj [(0,0),(2,2),(7,3),(4,4),(5,5),(6,6),(8,7)]);have hg2:=wz (a:=true) (l:=T) (l':=T++jK [((k:Nat):Int)]) (ns:=[((k:Nat):Int)]) (c:=1) (w:=5) (b:=6) (N:=8) (nl:=0) (lg:=[]) (L:=pA E' [(4,some (mC M)),(5,some (wo true 5 6 T)),(6,some (bX T)),(7,some (hH h))]) (by repeat (first|exact ab|refine Eq.trans (aa (by decide)) ?_)) (by repeat (first|exact ab|refine Eq.trans (aa (by decide)) ?_)) (by decide) (by decide) (by decide) (by decide);refine lB hg2 (bh (lq (wC true T [((k:Nat):Int)] 1 (fun n hn=>by
    simp only[YD,Yy,or_false]at hn;subst hn;omega) (by show 1<=_;decide) (by show 0<1;decide) (by omega)))) ?_
   have hd:jK [((k:Nat):Int)]=bK k:=by simp[jK]
   rw[hd];have hTk:(T++bK k).length<=11+42*i+10:=by rw[Yh];omega
   generalize T++bK k=T2 at eT hTk ⊢;refine cv (pF [(12,some (.pointer (some ⟨5,0,none⟩))),(14,some (.int .i64 (k:Nat))),(15,some (.pointer (some ⟨7,0,none⟩))),(58,some (sl (bD o))),(59,some (.int .i64 ((bD o).length:Nat))),(60,some (.int .i64 (i:Nat)))]) (pA E' [(4,some (mC M)),(5,some (wo true 5 6 T2)),(6,some (bX T2)),(7,some (hH h))]) 8 ?_ (hl:=kj [(0,0),(2,2),(3,3),(4,4),(5,5),(9,6),(7,7)]);have hg3:=VQ (a:=true) (l:=T2) (l':=T2++h.1) (h:=h) (w:=5) (b:=6) (r:=7) (N:=8) (nl:=0) (lg:=[]) (L:=pA E' [(4,some (mC M)),(5,some (wo true 5 6 T2)),(6,some (bX T2)),(7,some (hH h))]) (by repeat (first|exact ab|refine Eq.trans (aa (by decide)) ?_)) (by repeat (first|exact ab|refine Eq.trans (aa (by decide)) ?_)) (by repeat (first|exact ab|refine Eq.trans (aa (by decide)) ?_)) (by decide) (by decide) (by decide) (by decide) (by decide) (by decide) (by decide);refine Mz hg3 (bh (lq (VV true T2 h (by omega)))) ?_;refine rl ?_;refine nx (i+1) ⟨by omega,hTe⟩ (by omega) ?_;rw[eT,eS];exact kj [(0,0),(2,2),(3,3),(4,4),(5,5),(8,6)]
  obtain⟨hv,hTl⟩:=hv;rw[show i=(bD o).length by omega]at hTl ⊢;show ay _ _ _ _ _ _;have hne:=hTn (bD o).length;have hk4:(bD o).length<=4000:=by omega
  generalize fb o (bD o).length=T at hTl hne ⊢;generalize vq es o (bD o).length=E at ⊢;refine cv [(0,some (.pointer (some ⟨0,0,none⟩))),(4,some (.pointer (some ⟨2,0,none⟩))),(12,some (.pointer (some ⟨5,0,none⟩)))] (pA E [(5,some (wo true 5 6 T)),(6,some (bX T))]) 7 ?_ (hl:=kj [(0,0),(2,2),(3,3),(5,5),(6,6)]);have hg1:=Wn (l:=T) (w:=5) (b:=6) (N:=7) (nl:=0) (lg:=[]) (L:=pA E [(5,some (wo true 5 6 T)),(6,some (bX T))]) (by repeat (first|exact ab|refine Eq.trans (aa (by decide)) ?_)) (by repeat (first|exact ab|refine Eq.trans (aa (by decide)) ?_)) (by decide) (by decide) (by decide) (by decide);have hg2:=HH (w:=0) (b:=3) (xs:=[.string (str T)]) (es:=E) (es':=eE E T) (v:=cr (bf T)) (N:=7) (nl:=2) (lg:=[6,5]) (L:=(6,none)::(5,none)::pA E [(5,some (wo true 5 6 T)),(6,some (bX T))]) (by repeat (first|exact ab|refine Eq.trans (aa (by decide)) ?_)) (by repeat (first|exact ab|refine Eq.trans (aa (by decide)) ?_)) wM (by decide) (by decide) (by decide) (by decide);refine lB (And.intro hg1 hg2) (ur (H9 T hne (by omega)) (CB (w:=0) (b:=3) (Hc E T (by omega)))) ?_;have e7:gi (eE E T)=some (fD (eE E T)):=by
   have hn:=wM (es:=E) (o:=T);cases hx:eE E T with
   |nil=>exact absurd hx hn
   |cons x r=>rfl
  refine rt ?_;exact⟨rfl,7,by decide,by simp(disch:=decide) only[ae,ab,aa],by rw[e7];simp(disch:=decide) only[ae,ab,aa]⟩
 have e1:rM es l=es:=if_neg h0;have e2:x9 l=hZ:=if_neg h0;rw[e1,e2];refine rs ?_;refine ct ?_;refine rs ?_;refine rt ?_;cases es with
 |nil=>exact⟨rfl,9,by decide,by simp(disch:=decide) only[ae,ab,aa];rfl,rfl⟩
 |cons x r=>exact⟨rfl,3,by decide,by simp(disch:=decide) only[ae,ab,aa],by simp(disch:=decide) only[ae,ab,aa];rfl⟩
end Go.Proofs.YthlkgmdkabelpaaGreat.X
