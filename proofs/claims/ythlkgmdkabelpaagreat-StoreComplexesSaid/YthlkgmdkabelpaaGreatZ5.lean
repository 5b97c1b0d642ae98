/-
  Packed by program (tools/pack.py) out of the texts MZ5 MZ6 MZ7 MZ8. No condition.
-/
import Derived.Test.YthlkgmdkabelpaaGreatZR
import Derived.Test.YthlkgmdkabelpaaGreatZP
set_option linter.all false
namespace Go.Proofs.YthlkgmdkabelpaaGreat.X
open Go Go.RowKit Go.Proofs.YthlkgmdkabelpaaGreat.St
abbrev TS(es:aV)(r:List (Nat×Option ah)):List (Nat×Option ah):=(0,some (aE es 1))::(1,some (bN es))::r
def VM(es:aV)(W':XW):Prop:=W'.get 0=some (aE es 1)/\W'.get 1=some (bN es)
structure Fg(f:FuncId)(xs:List Value)(es:aV)(e:aW):Prop where
 en:cS Tryz.prog f
 bx:cZ xs
 be:pW e
 lo:bg Tryz.prog f (.pointer (some ⟨0,0,none⟩)::xs) (wd (TS es []) 2 [] 0) fun e' W'=>e'=e/\VM es W'
structure Fh(f:FuncId)(xs:List Value)(es:aV)(o:ah):Prop where
 en:cS Tryz.prog f
 bx:cZ xs
 bo:gX Tryz.prog o
 lo:bg Tryz.prog f (.pointer (some ⟨0,0,none⟩)::xs) (wd (TS es []) 2 [] 0) fun e' W'=>VM es W'/\∃n,2<=n/\e'=.ret (.pointer (some ⟨n,0,none⟩))/\W'.get n=some o
open Classical in
noncomputable def PB(w b:Nat)(xs:List Value)(es:aV)(e:aW):HF:=fun A W=>if CM xs es w b A W then some (e,W)else none
open Classical in
noncomputable def LU(w b:Nat)(xs:List Value)(es:aV)(o:ah):HF:=fun A W=>if CM xs es w b A W then some (.ret (.pointer (some ⟨W.next,0,none⟩)),W.push o)else none
theorem jH{f:FuncId}{w b:Nat}{xs:List Value}{es:aV}{e:aW}(h:Fg f xs es e):bS Tryz.prog f (PB w b xs es e):=by
 have key:∀A W e' W',PB w b xs es e A W=some (e',W')->CM xs es w b A W/\e'=e/\W'=W:=fun A W e' W' q=>by
  unfold PB at q;split at q
  ·rename_i hx;cases q;exact⟨hx,rfl,rfl⟩
  cases q
 refine⟨h.en,fun A W e' W' q=>?_,fun A W e' W' q=>?_⟩
 ·obtain⟨_,_,rfl⟩:=key _ _ _ _ q;exact .refl _
 obtain⟨⟨rfl,hw,hb,hwb⟩,rfl,rfl⟩:=key _ _ _ _ q;clear q key;have hbn:=aL hb;have hwn:=aL hw;have t0:(fun n=>if n=w then some 0 else if n=b then some 1 else(none:Option Nat)) w=some 0:=if_pos rfl;have t1:(fun n=>if n=w then some 0 else if n=b then some 1 else(none:Option Nat)) b=some 1:=by simp only[if_neg (Ne.symm hwb),if_pos]
 refine iP (k:=2) (fun m=>if m=0 then w else b) (fun n=>if n=w then some 0 else if n=b then some 1 else none) rfl (fun m m' h h' e=>?_) (fun m h=>?_) (fun n m h=>?_) (fun m oL h=>?_) (av (bI t0) (h.bx _ aj)) h.lo fun eL WL' hS=>?_
 ·have h1:m=0\/m=1:=by omega
  have h2:m'=0\/m'=1:=by omega
  rcases h1 with rfl|rfl<;>rcases h2 with rfl|rfl<;>first|rfl|(exfalso;simp at e;omega)
 ·split
  ·exact hwn
  exact hbn
 ·split at h
  ·rename_i q;cases h;exact⟨by decide,q.symm⟩
  split at h
  ·rename_i q;cases h;exact⟨by decide,q.symm⟩
  cases h
 ·have hm:m<2:=aL h;obtain⟨_,h2⟩:=bY h;have h1:m=0\/m=1:=by omega
  rcases h1 with rfl|rfl
  ·rw[ab]at h2;cases h2;exact⟨by decide,_,hw,dy fun _=>t1⟩
  rw[aa (by decide),ab]at h2;cases h2;exact⟨by decide,_,hb,gh fJ _ _ _ aj⟩
 obtain⟨rfl,g0,g1⟩:=hS;have s0:(fun m=>if m=0 then some w else if m=1 then some b else(none:Option Nat)) 0=some w:=rfl;have s1:(fun m=>if m=0 then some w else if m=1 then some b else(none:Option Nat)) 1=some b:=rfl;refine⟨fun m=>if m=0 then some w else if m=1 then some b else none,fun m x h=>?_,fun m m' x h h'=>?_,fun x o' h=>?_,(by have hb2:=h.be;cases eL<;>exact hb2 _ aj),Nat.le_refl _⟩
 ·split at h
  ·rename_i q;cases h;exact .inl ⟨by omega,by simp[q]⟩
  split at h
  ·rename_i q;cases h;exact .inl ⟨by omega,by simp[q]⟩
  cases h
 ·split at h
  ·split at h'
   ·omega
   split at h'
   ·cases h;cases h';omega
   cases h'
  split at h
  ·split at h'
   ·cases h;cases h';omega
   split at h'
   ·omega
   cases h'
  cases h
 by_cases xw:x=w
 ·subst xw;rw[hw]at h;cases h;exact .inl ⟨0,_,s0,g0,dy fun _=>s1⟩
 by_cases xb:x=b
 ·subst xb;rw[hb]at h;cases h;exact .inl ⟨1,_,s1,g1,gh fJ _ _ _ aj⟩
 refine .inr ⟨h,aL h,fun m hm=>?_⟩;split
 ·exact fun z=>xw z.symm
 exact fun z=>xb z.symm
theorem KC{f:FuncId}{w b:Nat}{xs:List Value}{es:aV}{o:ah}(h:Fh f xs es o):bS Tryz.prog f (LU w b xs es o):=by
 have key:∀A W e' W',LU w b xs es o A W=some (e',W')->CM xs es w b A W/\e'=.ret (.pointer (some ⟨W.next,0,none⟩))/\W'=W.push o:=fun A W e' W' q=>by
  unfold LU at q;split at q
  ·rename_i hx;cases q;exact⟨hx,rfl,rfl⟩
  cases q
 refine⟨h.en,fun A W e' W' q=>?_,fun A W e' W' q=>?_⟩
 ·obtain⟨_,_,rfl⟩:=key _ _ _ _ q;exact .push _ _
 obtain⟨⟨rfl,hw,hb,hwb⟩,rfl,rfl⟩:=key _ _ _ _ q;clear q key;have hbn:=aL hb;have hbo:=h.bo;have hwn:=aL hw;have t0:(fun n=>if n=w then some 0 else if n=b then some 1 else(none:Option Nat)) w=some 0:=if_pos rfl;have t1:(fun n=>if n=w then some 0 else if n=b then some 1 else(none:Option Nat)) b=some 1:=by simp only[if_neg (Ne.symm hwb),if_pos]
 refine iP (k:=2) (fun m=>if m=0 then w else b) (fun n=>if n=w then some 0 else if n=b then some 1 else none) rfl (fun m m' h h' e=>?_) (fun m h=>?_) (fun n m h=>?_) (fun m oL h=>?_) (av (bI t0) (h.bx _ aj)) h.lo fun eL WL' hS=>?_
 ·have h1:m=0\/m=1:=by omega
  have h2:m'=0\/m'=1:=by omega
  rcases h1 with rfl|rfl<;>rcases h2 with rfl|rfl<;>first|rfl|(exfalso;simp at e;omega)
 ·split
  ·exact hwn
  exact hbn
 ·split at h
  ·rename_i q;cases h;exact⟨by decide,q.symm⟩
  split at h
  ·rename_i q;cases h;exact⟨by decide,q.symm⟩
  cases h
 ·have hm:m<2:=aL h;obtain⟨_,h2⟩:=bY h;have h1:m=0\/m=1:=by omega
  rcases h1 with rfl|rfl
  ·rw[ab]at h2;cases h2;exact⟨by decide,_,hw,dy fun _=>t1⟩
  rw[aa (by decide),ab]at h2;cases h2;exact⟨by decide,_,hb,gh fJ _ _ _ aj⟩
 obtain⟨⟨g0,g1⟩,n,hn,rfl,gn⟩:=hS;obtain⟨φ,hφ⟩:∃φ:Nat->Option Nat,φ=fun m=>if m=0 then some w else if m=1 then some b else if m=n then some W.next else none:=⟨_,rfl⟩
 have s0:φ 0=some w:=by rw[hφ];rfl
 have s1:φ 1=some b:=by rw[hφ];rfl
 have s2:φ n=some W.next:=by rw[hφ];simp only[if_neg (show ¬n=0 by omega),if_neg (show ¬n=1 by omega),if_pos]
 have sc:∀m x,φ m=some x->(m=0/\x=w)\/(m=1/\x=b)\/(m=n/\x=W.next):=fun m x h=>by
  rw[hφ]at h;simp only at h;split at h
  ·rename_i q;cases h;exact .inl ⟨q,rfl⟩
  split at h
  ·rename_i q;cases h;exact .inr (.inl ⟨q,rfl⟩)
  split at h
  ·rename_i q;cases h;exact .inr (.inr ⟨q,rfl⟩)
  cases h
 refine⟨φ,fun m x h=>?_,fun m m' x h h'=>?_,fun x o' h=>?_,bI s2,acU _⟩
 ·rcases sc m x h with⟨rfl,rfl⟩|⟨rfl,rfl⟩|⟨rfl,rfl⟩
  ·exact .inl ⟨by decide,rfl⟩
  ·exact .inl ⟨by decide,rfl⟩
  exact .inr ⟨hn,Nat.le_refl _,aci _⟩
 ·rcases sc m x h with⟨q,q1⟩|⟨q,q1⟩|⟨q,q1⟩<;>rcases sc m' x h' with⟨p,p1⟩|⟨p,p1⟩|⟨p,p1⟩<;>omega
 rcases XW.get_push h with⟨rfl,rfl⟩|⟨q1,q2⟩
 ·exact .inl ⟨n,_,s2,gn,hbo _ aj⟩
 by_cases xw:x=w
 ·subst xw;rw[hw]at q2;cases q2;exact .inl ⟨0,_,s0,g0,dy fun _=>s1⟩
 by_cases xb:x=b
 ·subst xb;rw[hb]at q2;cases q2;exact .inl ⟨1,_,s1,g1,gh fJ _ _ _ aj⟩
 refine .inr ⟨q2,aL q2,fun m hm=>?_⟩;split
 ·exact fun z=>xw z.symm
 exact fun z=>xb z.symm
theorem mg{w b n nl:Nat}{xs:List Value}{es:aV}{e:aW}{K:List (Nat×Option ah)}{lg:List Nat}(hw:lk K w=some (aE es b))(hb:lk K b=some (bN es))(hwb:w≠b)(h1:w<n)(h2:b<n)(h3:n<16383) :
 PB w b xs es e (.pointer (some ⟨w,0,none⟩)::xs) (wd K n lg nl)=some (e,wd K n lg nl):=
 if_pos ⟨rfl,by rw[ae h1 (by omega)];exact hw,by rw[ae h2 (by omega)];exact hb,hwb⟩
theorem JT{w b n nl:Nat}{xs:List Value}{es:aV}{o:ah}{K:List (Nat×Option ah)}{lg:List Nat}(hw:lk K w=some (aE es b))(hb:lk K b=some (bN es))(hwb:w≠b)(h1:w<n)(h2:b<n)(h3:n<16383) :
 LU w b xs es o (.pointer (some ⟨w,0,none⟩)::xs) (wd K n lg nl)=some (.ret (.pointer (some ⟨n,0,none⟩)),wd ((n,some o)::K) (n+1) lg nl):=by
 have hA:CM xs es w b (.pointer (some ⟨w,0,none⟩)::xs) (wd K n lg nl):=⟨rfl,by rw[ae h1 (by omega)];exact hw,by rw[ae h2 (by omega)];exact hb,hwb⟩;unfold LU;rw[if_pos hA];simp only[gI,dk]
theorem cu{es:aV}{n nl:Nat}{K:List (Nat×Option ah)}{lg:List Nat}(h0:lk K 0=some (aE es 1))(h1:lk K 1=some (bN es))(hn:2<=n):VM es (wd K n lg nl):=⟨by rw[ae (by omega) (by decide)];exact h0,by rw[ae (by omega) (by decide)];exact h1⟩
theorem vI{s:List UInt8}{m:Nat}(hs:s.length<=140737488351232)(h:(aw s).1=some m):Fo Tryz.prog 85 [] (dt s) (.ret (.int .i64 (m:Nat))) (dt (aw s).2):=by
 have:=tP s hs;rwa [h]at this
theorem wa{s:List UInt8}(hs:s.length<=140737488351232)(h:(aw s).1=none):Fo Tryz.prog 85 [] (dt s) (.pan (fC 11)) (dt (aw s).2):=by
 have:=tP s hs;rwa [h]at this
abbrev q8(es:aV)(h:HB):List (Nat×Option ah):=[(0,some (aE es 1)),(1,some (bN es)),(2,some (hH h))]
theorem Wo{es:aV}{h:HB}:qh vF rC [.pointer (some ⟨0,0,none⟩),bu h] (wd (q8 es h) 3 [] 0)=some (.ret (.tuple #[((aD h es).map dh).getD (.string (str [])),.bool (aD h es).isSome]),wd (q8 es h) 3 [] 0):=
 XI (OQ rfl rfl (by decide) (by decide) (by decide) (by decide)) GJ
theorem Kl(es:aV)(h:HB)(kd:UInt8){S:aW->XW->Prop}(hS:∀{n nl:Nat} {K:List (Nat×Option ah)} {lg:List Nat},lk K 0=some (aE es 1)->lk K 1=some (bN es)->2<=n->((eX kd (aD h es)).2≠0->S (.pan (fC (eX kd (aD h es)).2)) (wd K n lg nl))/\∀r,eX kd (aD h es)=(kd::r,0)->∀q,2<=q->lk K q=some (dt r)->q<n->q<16383->S (.ret (.pointer (some ⟨q,0,none⟩))) (wd K n lg nl)):bg Tryz.prog 84 [.pointer (some ⟨0,0,none⟩),bu h,.int .u8 (kd.toNat:Nat)] (wd (TS es []) 2 [] 0) S:=by
 have hG:=Wo (es:=es) (h:=h);refine low Tryz.func84 Tryz.results84 (h:=?_);show ar _ _ 2 _ _ _;refine rs ?_;refine cv [(0,some (.pointer (some ⟨0,0,none⟩))),(2,some (.int .u8 (kd.toNat:Nat))),(4,some (.pointer (some ⟨2,0,none⟩)))] (q8 es h) 3 ?_;cases hx:aD h es with
 |none=>
  rw[hx]at hG hS;have hG:qh vF rC [.pointer (some ⟨0,0,none⟩),bu h] (wd (q8 es h) 3 [] 0)=some (.ret (.tuple #[.string (str []),.bool false]),wd (q8 es h) 3 [] 0):=hG;refine eO hG (bh I2) ?_;refine rS ?_;refine ct ?_;refine pl (p:=True) trivial b0 (pt ?_);exact(hS (K:=q8 es h) rfl rfl (show 2<=3 by decide)).1 (fun e=>(by cases e))
 |some o=>
  rw[hx]at hG hS;have hG:qh vF rC [.pointer (some ⟨0,0,none⟩),bu h] (wd (q8 es h) 3 [] 0)=some (.ret (.tuple #[.string (str o),.bool true]),wd (q8 es h) 3 [] 0):=hG;refine eO hG (bh I2) ?_;refine rS ?_;refine cf ?_;refine sk ?_;cases o with
  |nil=>
   have hd:decide (([]:List UInt8)=[])=true:=by simp
   refine ai (rf hd ?_);refine ct ?_;refine pl (p:=True) trivial b0 (pt ?_);exact(hS (K:=q8 es h) rfl rfl (show 2<=3 by decide)).1 (fun e=>(by cases e))
  |cons c r=>
   have hd:decide ((c::r)=([]:List UInt8))=false:=by simp
   by_cases hc:c=kd
   ·subst hc;have h2:((c.toNat:Int) !=(c.toNat:Int))=false:=by simp
    have h3:decide ((c.toNat:Int)=(c.toNat:Int))=true:=by simp
    refine ai (rf (And.intro hd (And.intro h2 h3)) ?_);refine cf ?_;refine sk ?_;refine rs ?_;refine rt ?_;exact(hS (by repeat (first|exact ab|refine Eq.trans (aa (by decide)) ?_)) (by repeat (first|exact ab|refine Eq.trans (aa (by decide)) ?_)) (show 2<=4 by decide)).2 r (if_pos rfl) 3 (by decide) ab (by decide) (by decide)
   have h2:((c.toNat:Int) !=(kd.toNat:Int))=true:=by
    have:c.toNat≠kd.toNat:=fun e=>hc (UInt8.toNat_inj.1 e)
    simp only[bne_iff_ne,ne_eq];omega
   have h3:decide ((c.toNat:Int)=(kd.toNat:Int))=false:=decide_eq_false (by
    have:c.toNat≠kd.toNat:=fun e=>hc (UInt8.toNat_inj.1 e)
    omega)
   refine ai (rf (And.intro hd (And.intro h2 h3)) ?_);refine ct ?_;refine pl (p:=True) trivial b0 (pt ?_);have e:eX kd (some (c::r))=([],51):=if_neg hc;have:=(hS (K:=q8 es h) (lg:=[]) (nl:=0) rfl rfl (show 2<=3 by decide)).1;rw[e]at this;exact this (fun e=>(by cases e))
theorem C2{es:aV}{h:HB}{kd:UInt8}{r:List UInt8}(ho:eX kd (aD h es)=(kd::r,0)):Fh 84 [bu h,.int .u8 (kd.toNat:Nat)] es (dt r):=
 ⟨enters_of (by kernel_rfl),b7.h,aB b7.h,Kl es h kd fun h0 h1 hn=>⟨fun e=>absurd (by rw[ho]) e,fun r' hr q hq hl hqn hq2=>by
  rw[ho]at hr;cases hr;exact⟨cu h0 h1 hn,q,hq,rfl,by rw[ae hqn hq2];exact hl⟩⟩⟩
theorem Mp{es:aV}{h:HB}{kd:UInt8}(he:(eX kd (aD h es)).2≠0):Fg 84 [bu h,.int .u8 (kd.toNat:Nat)] es (.pan (fC (eX kd (aD h es)).2)):=
 ⟨enters_of (by kernel_rfl),b7.h,rm.h,Kl es h kd fun h0 h1 hn=>⟨fun e=>⟨rfl,cu h0 h1 hn⟩,fun r' hr q hq hl hqn hq2=>absurd (by rw[hr]) he⟩⟩
theorem WN{L L':List (Nat×Option ah)}{n n' nl nl':Nat}{lg lg':List Nat}(hn2:n'<16383:=by decide)(h:∀q∈L,∀o,q.2=some o->q.1<n'/\lk L' q.1=some o:=by
 intro q hq o ho;simp only[acd,ab6,or_false]at hq;rcases hq with rfl|rfl<;>(cases ho;refine⟨(by dsimp only;decide),?_⟩;dsimp only;repeat (first|exact ab|refine Eq.trans (aa (by decide)) ?_))):∀m o,(wd L n lg nl).get m=some o->(wd L' n' lg' nl').get m=some o:=fun m o hg=>by
 obtain⟨h1,h2⟩:=bY hg;obtain⟨h3,h4⟩:=h _ (bK h2) o rfl;rw[ae h3 (by have h5:m<n':=h3;omega)];exact h4
theorem zdt{P:Program}{R:XK}{N:Nat}{rd:Option Nat}{all:Array Oper}{dl:List Bool}{o:Oper}{l:List Oper}{s:XS}:kK P R N rd all (true::dl) (o::l) s=BG (kK P R N rd all dl l) o s (cw N s.fr o.dst none):=rfl
theorem zdf{P:Program}{R:XK}{N:Nat}{rd:Option Nat}{all:Array Oper}{dl:List Bool}{o:Oper}{l:List Oper}{s:XS}:kK P R N rd all (false::dl) (o::l) s=fV (kK P R N rd all dl l) o s (iu P R N rd all s o):=rfl
section
variable {P:Program} [hM:kz P] {H:ci} {N k:Nat} {s s':XS} {Q:XQ} {id:Nat} {ops:Array Oper} {d:Code} {pv:Value} {rs:List bp}
theorem pd{p:Prop}(f:p)(b:dv P H)(j:Nat)(dl:List Bool)(S:XS)(q:Q (.pan pv) S){oj:Oper}{sp:XS}{r:bp}(hms:(List.range' 0 ops.size).map (fq (bG ops) j)=dl:=by kernel_rfl)
 (h:p->kK P (bc P H 1) N none ops dl ops.toList s=some (rs,s'):=by intro hf;simp(disch:=first|decide|omega|(simp only[abP,List.length_cons,List.length_nil,abR,abT,abX]<;>omega)|(simp(disch:=decide) only[ae,ab,aa,b9.eq_1];done)) only[hf,jF,aJ,eF,dN,fZ,aY.eq_1,aY.eq_2,fV.eq_1,cW.eq_1,cW.eq_2,YH,zdt,zdf,BG.eq_1,BG.eq_2,go_sem]<;>with_reducible rfl)
 (hk:Gk P ops s.ds.length rs j=true:=by kernel_rfl) (ho:ops[j]?=some oj:=by simp only[List.getElem?_toArray,List.getElem?_cons_succ,List.getElem?_cons_zero]<;>with_reducible rfl) (hr:rs[j]?=some r:=by simp only[List.getElem?_cons_succ,List.getElem?_cons_zero]<;>with_reducible rfl)
 (hp:p->iu P (bc P H 1) N none ops r.s oj=some (.out pv sp):=by intro hf;simp(disch:=first|decide|omega|(simp only[abP,List.length_cons,List.length_nil,abR,abT,abX]<;>omega)|(simp(disch:=decide) only[ae,ab,aa,b9.eq_1];done)) only[hf,jF,aJ,eF,dN,fZ,go_sem]<;>with_reducible rfl)
 (hsf:sp.fr=r.s.fr:=by rfl) (hsd:sp.ds=r.s.ds:=by rfl) (hnx:sp.W.next=r.s.W.next:=by rfl) (hS:∀n o,S.W.get n=some o->sp.W.get n=some o:=by exact WN) (hSn:s'.W.next<=S.W.next:=by exact Nat.le_of_ble_eq_true rfl) (hSf:∀t,S.fr.get t=none:=by intro t;exact Sh) (hSd:S.ds=s.ds:=by rfl):ar P N k (.region id ops true) s Q:=
 Bq b j dl (W':=sp.W) hms (h f) hk ho hr (by rw[hp f,<-hsf,<-hsd]) hnx hS hSn hSf hSd q
end
theorem G7{k:Nat}{h:HB}:gA Tryz.prog 109 (.int .i64 (k:Nat)::an h.1) 0=some (.agg (.int .i64 (k:Nat)::an h.1).toArray):=by
 unfold gA;rw[Js,PN];show(bif Nat.beq (((Value.int .i64 (k:Nat)::an h.1).drop 0).take 33).length 33 then some (Value.agg (((Value.int .i64 (k:Nat)::an h.1).drop 0).take 33).toArray)else none)=_;rw[List.drop_zero,List.take_of_length_le (by rw[x3];exact Nat.le_refl _),x3];rfl
noncomputable instance:mu Tryz.prog (En true) 109:=⟨fun e=>Value.agg (.int .i64 (e.k:Nat)::an e.h.1).toArray,Tryz.t109,_,FS,rfl,Gs,rfl,fun _=>G7,fun _=>rfl⟩
theorem Oc{k:Nat}{h:HB}:gq (.cells (.int .i64 (k:Nat)::an h.1) 109 (0,0)) 1 1=some (.new (ro 109 [(⟨k,h⟩:En true)]) fun n=>gs n 1 [(⟨k,h⟩:En true)]):=by
 have e:ro 109 [(⟨k,h⟩:En true)]=.cells (.int .i64 (k:Nat)::an h.1) 109 (0,0):=by unfold ro;rw[ab7,acV,List.append_nil];rfl
 rw[e];rfl
attribute [go_sem] G7
attribute [go_sem high] Oc
theorem F4{α:Type}(x:α){acc:List α}:∀{o:Option (List α)},(o.map (x::·)).map (acc++·)=o.map ((acc++[x])++·)
 |none=>rfl
 |some l=>by show some (acc++x::l)=some (acc++[x]++l);simp
def Km(te:mG×Nat):aW:=if te.2=0 then .ret (sl (eh true te.1))else .pan (fC te.2)
set_option maxHeartbeats 1000000 in
theorem D2(es:aV)(h:HB)(hb:∀t,aD h es=some t->t.length<=10000000):Fg 47 [bu h] es (Km (cz (aD h es))):=by
 refine⟨enters_of (by kernel_rfl),b7.h,(by unfold Km;split<;>exact rm.h),?_⟩;have hol:=oP (kd:=2) hb;have hz:=s5 (kd:=2) (g:=aD h es);have hbs:∀r,eX 2 (aD h es)=(2::r,0)->Fh 84 [bu h,.int .u8 ((2:Nat):Int)] es (dt r):=fun r hr=>C2 (kd:=2) hr
 have hbn:(eX 2 (aD h es)).2≠0->Fg 84 [bu h,.int .u8 ((2:Nat):Int)] es (.pan (fC (eX 2 (aD h es)).2)):=fun he=>Mp (kd:=2) he
 unfold cz;generalize eX 2 (aD h es)=oe at hol hz hbs hbn ⊢;obtain⟨o,e⟩:=oe;simp only at hol hz hbs hbn ⊢;refine low Tryz.func47 Tryz.results47 (h:=?_);show ar _ _ 2 _ _ _;refine rs ?_;refine cv [(0,some (.pointer (some ⟨0,0,none⟩))),(3,some (.pointer (some ⟨2,0,none⟩)))] (q8 es h) 3 ?_;by_cases he:e=0
 ·subst he;rw[if_pos rfl];obtain⟨r,_,rfl⟩:=hz rfl;have hgo:=JT (w:=0) (b:=1) (n:=3) (nl:=0) (lg:=[]) (xs:=[bu h,.int .u8 ((2:Nat):Int)]) (es:=es) (o:=dt r) (K:=q8 es h) rfl rfl (by decide) (by decide) (by decide) (by decide);refine eO hgo (bh (KC (w:=0) (b:=1) (hbs r rfl))) ?_;rw[List.length_cons]at hol;refine rs ?_;refine rs ?_;show ar _ _ _ _ _ _;generalize hR:tv ((2::r).drop 1)=R;have hR:tv r=R:=hR;unfold tv at hR;cases hn:(aw r).1 with
  |none=>
   rw[hn]at hR;have hR:none=R:=hR;refine ai (pq (p:=True) trivial (lL (wa (by omega) hn)) ?_);refine pt ?_;exact⟨by rw[<-hR];rfl,cu (by repeat (first|exact ab|refine Eq.trans (aa (by decide)) ?_)) (by repeat (first|exact ab|refine Eq.trans (aa (by decide)) ?_)) (by decide)⟩
  |some m=>
   rw[hn]at hR;have hR:nA m (-1) (aw r).2=R:=hR;have hnl:=ed 9 0 0 r;have hnl:(aw r).2.length<=r.length:=hnl;refine TQ (lL (vI (by omega) hn)) ?_;generalize(aw r).2=s0 at hR hnl;refine fo (fun x:Nat×Int×mG×List UInt8=>⟨ao [(5,some (.pointer (some ⟨3,0,none⟩))),(6,some (gs 4 aq (eh true x.2.2.1))),(7,some (.int .i64 x.2.1)),(8,some (.int .i64 (x.1:Nat)))],wd [(0,some (aE es 1)),(1,some (bN es)),(3,some (dt x.2.2.2)),(4,some (ro 109 (eh true x.2.2.1)))] 5 [] 0,[]⟩)
    (fun x=>x.1<9223372036854775808/\x.2.2.1.length+x.2.2.2.length<=10000000/\R=(nA x.1 x.2.1 x.2.2.2).map (x.2.2.1++·)) (fun x=>x.1) (m,-1,[],s0) ⟨(kH 9 0 0 r m rfl acZ hn).1,by show 0+s0.length<=_;omega,by rw[<-hR];simp⟩ (fun x hv hc=>?_) (fun x hv hc=>?_)
   ·obtain⟨n,last,acc,s⟩:=x;obtain⟨v1,v2,v4⟩:=hv;simp only at hc v1 v2 v4;obtain⟨n,rfl⟩:∃n',n=n'+1:=⟨n-1,by omega⟩;rw[nA]at v4;have hnl2:(aw s).2.length<=s.length:=ed 9 0 0 s;cases hk:(aw s).1 with
    |none=>
     rw[hk]at v4;have v5:R=none:=v4;refine bs (pq (p:=True) trivial (lL (wa (by omega) hk)) ?_);refine pt ?_;exact⟨by rw[v5];rfl,cu (by repeat (first|exact ab|refine Eq.trans (aa (by decide)) ?_)) (by repeat (first|exact ab|refine Eq.trans (aa (by decide)) ?_)) (by decide)⟩
    |some k=>
     rw[hk]at v4;simp only at v4;refine bs (rc (lL (vI (by omega) hk)) ?_);generalize(aw s).2=s2 at v4 hnl2;refine cv [(5,some (.pointer (some ⟨3,0,none⟩))),(6,some (gs 4 aq (eh true acc))),(7,some (.int .i64 last)),(8,some (.int .i64 ((n+1:Nat):Int))),(9,some (.pointer (some ⟨5,0,none⟩)))] [(0,some (aE es 1)),(1,some (bN es)),(3,some (dt s2)),(4,some (ro 109 (eh true acc))),(5,some (.cells (pi k s2 0) 109 (0,0)))] 6 ?_;have hk0:(pi k s2 0)[0]?=some (.int .i64 (k:Nat)):=rfl;by_cases c1:last<(k:Int)
     ·have d1:decide (last<(k:Int))=true:=decide_eq_true (by omega);by_cases c2:k<576460752303423488
      ·have d2:decide ((k:Int)<((576460752303423488:Nat):Int))=true:=decide_eq_true (by omega);refine eO (And.intro hk0 (And.intro d1 d2)) (b1 j6) ?_;refine rf hk0 ?_;by_cases c3:32<=s2.length
       ·rw[if_pos ⟨c1,c2,c3⟩]at v4;have f1:(List.take 32 s2).length=32:=by rw[abR];omega
        have f2:∀l:List UInt8,List.map (fun b=>Value.int .u8 (b.toNat:Int)) l=an l:=fun _=>rfl
        have f4:(an (List.take 32 s2)).length=32:=by rw[db,f1]
        have f3:List.take 32 (an (List.take 32 s2))=an (List.take 32 s2):=List.take_of_length_le (by rw[f4];exact Nat.le_refl _);have f5:(an (List.take 32 s2)).all dr=true:=m4;have f6:(pi k s2 0).length=33:=Hm (by decide) c3;have f7:List.take 1 (pi k s2 0)=[.int .i64 (k:Nat)]:=rfl;have f8:List.drop 33 (pi k s2 0)=[]:=aco (by rw[f6];exact Nat.le_refl _);refine kT (And.intro hk0 (And.intro f1 (And.intro f2 (And.intro f3 (And.intro f4 (And.intro f5 (And.intro f6 (And.intro f7 (And.intro f8 (List.append_nil (an (List.take 32 s2)))))))))))) (lL (Ht s2 32 c3 (by omega))) ?_;rw[<-FG c3];have hla:(eh true acc).length=acc.length:=ab1 _;generalize zY s2=hh at v4;show ar _ _ _ _ ⟨ao _,wd ((5,some (.cells (.int .i64 (k:Nat)::an hh.1) 109 (0,0)))::_) _ _ _,_⟩ _;refine rl ?_;refine rl ?_;refine nx (n,(k:Int),acc++[(k,hh)],s2.drop 32) ⟨by show n<_;omega,by show(acc++[(k,hh)]).length+(s2.drop 32).length<=_;rw[abP,ab5,abT];omega,?_⟩ (by show n<n+1;omega) ?_
        ·exact v4.trans (F4 (k,hh))
        show bz _ _ _ ⟨ao [(5,some (.pointer (some ⟨3,0,none⟩))),(6,some (gs 4 aq (eh true (acc++[(k,hh)])))),(7,some (.int .i64 (k:Int))),(8,some (.int .i64 (n:Nat)))],wd [(0,some (aE es 1)),(1,some (bN es)),(3,some (dt (s2.drop 32))),(4,some (ro 109 (eh true (acc++[(k,hh)]))))] 5 [] 0,[]⟩;rw[show eh true (acc++[(k,hh)])=eh true acc++[(⟨k,hh⟩:En true)] by unfold eh;rw[acn];rfl];exact fb [(0,0),(1,1),(3,3),(7,4)]
       rw[if_neg (by omega)]at v4;have v5:R=none:=v4;refine ai (pd (pv:=fC 11) hk0 (lL (GP s2 32 (by omega) (by decide))) 3 [false,false,false,true,true] ⟨ao [],wd [(0,some (aE es 1)),(1,some (bN es))] 6 [] 0,[]⟩ (pt ⟨by rw[v5];rfl,cu (by repeat (first|exact ab|refine Eq.trans (aa (by decide)) ?_)) (by repeat (first|exact ab|refine Eq.trans (aa (by decide)) ?_)) (by decide)⟩))
      have d2:decide ((k:Int)<((576460752303423488:Nat):Int))=false:=decide_eq_false (by omega);rw[if_neg (by omega)]at v4;have v5:R=none:=v4;refine pq (And.intro hk0 (And.intro d1 d2)) (b1 is) ?_;refine pt ?_;exact⟨by rw[v5];rfl,cu (by repeat (first|exact ab|refine Eq.trans (aa (by decide)) ?_)) (by repeat (first|exact ab|refine Eq.trans (aa (by decide)) ?_)) (by decide)⟩
     have d1:decide (last<(k:Int))=false:=decide_eq_false (by omega);rw[if_neg (by omega)]at v4;have v5:R=none:=v4;refine pq (And.intro hk0 d1) (b1 is) ?_;refine pt ?_;exact⟨by rw[v5];rfl,cu (by repeat (first|exact ab|refine Eq.trans (aa (by decide)) ?_)) (by repeat (first|exact ab|refine Eq.trans (aa (by decide)) ?_)) (by decide)⟩
   obtain⟨n,last,acc,s⟩:=x;obtain⟨v1,v2,v4⟩:=hv;simp only at hc v1 v2 v4;obtain rfl:n=0:=by omega
   rw[nA]at v4;show ar _ _ _ _ _ _;by_cases hp:s=[]
   ·subst hp;rw[if_pos rfl]at v4;have v5:R=some acc:=by rw[v4];simp
    have hla:(eh true acc).length=acc.length:=ab1 _;have hd:decide (([]:List UInt8)=[])=true:=by simp
    refine eO hd (b1 j6) ?_;refine rs ?_;refine cv [(4,some (sl (eh true acc)))] [(0,some (aE es 1)),(1,some (bN es))] 5 ?_ (hl:=fz 4);refine rt ?_;exact⟨by rw[v5];rfl,cu (by repeat (first|exact ab|refine Eq.trans (aa (by decide)) ?_)) (by repeat (first|exact ab|refine Eq.trans (aa (by decide)) ?_)) (by decide)⟩
   rw[if_neg hp]at v4;have v5:R=none:=v4;have hd:decide (s=([]:List UInt8))=false:=decide_eq_false hp;refine pq hd (b1 is) ?_;refine pt ?_;exact⟨by rw[v5];rfl,cu (by repeat (first|exact ab|refine Eq.trans (aa (by decide)) ?_)) (by repeat (first|exact ab|refine Eq.trans (aa (by decide)) ?_)) (by decide)⟩
 rw[if_neg he];have hgo:=mg (w:=0) (b:=1) (n:=3) (nl:=0) (lg:=[]) (xs:=[bu h,.int .u8 ((2:Nat):Int)]) (es:=es) (e:=.pan (fC e)) (K:=q8 es h) rfl rfl (by decide) (by decide) (by decide) (by decide);refine pq hgo (bh (jH (w:=0) (b:=1) (hbn he))) ?_;refine pt ?_;exact⟨by unfold Km;rw[if_neg he],cu rfl rfl (by decide)⟩
def U3(a:List Value)(W:XW)(q:Nat×List UInt8):Prop:=a=[.pointer (some ⟨q.1,0,none⟩)]/\W.get q.1=some (dt q.2)/\q.2.length<=140737488351232
open Classical in
noncomputable def hN:HF:=fun a W=>if h:∃q,U3 a W q then some (Lc (aw h.choose.2).1,W.put h.choose.1 (some (dt (aw h.choose.2).2)))else none
theorem PI{w:Nat}{s:List UInt8}{W:XW}(hw:W.get w=some (dt s))(hs:s.length<=140737488351232):hN [.pointer (some ⟨w,0,none⟩)] W=some (Lc (aw s).1,W.put w (some (dt (aw s).2))):=by
 have hx:∃q,U3 [.pointer (some ⟨w,0,none⟩)] W q:=⟨(w,s),rfl,hw,hs⟩;unfold hN;rw[dif_pos hx];obtain⟨h1,h2,_⟩:=hx.choose_spec;generalize hx.choose=q at h1 h2 ⊢;obtain⟨w',s'⟩:=q;injection h1 with h1 _;injection h1 with h1;injection h1 with h1;injection h1 with h1 _;simp only at h1 h2;subst h1;rw[hw]at h2;injection h2 with h2;injection h2 with h2;injection h2 with h2 _;injection h2 with h2;rw[<-y5 h2]
theorem Hq{w m:Nat}{s:List UInt8}{W:XW}(hw:W.get w=some (dt s))(hm:(aw s).1=some m)(hs:s.length<=140737488351232):hN [.pointer (some ⟨w,0,none⟩)] W=some (.ret (.int .i64 (m:Nat)),W.put w (some (dt (aw s).2))):=by
 rw[PI hw hs,hm];rfl
theorem Hk{w:Nat}{s:List UInt8}{W:XW}(hw:W.get w=some (dt s))(hm:(aw s).1=none)(hs:s.length<=140737488351232):hN [.pointer (some ⟨w,0,none⟩)] W=some (.pan (fC 11),W.put w (some (dt (aw s).2))):=by
 rw[PI hw hs,hm];rfl
theorem qa:bS Tryz.prog 85 hN:=by
 have key:∀a W e' W',hN a W=some (e',W')->∃w s,a=[.pointer (some ⟨w,0,none⟩)]/\W.get w=some (dt s)/\s.length<=140737488351232/\e'=Lc (aw s).1/\W'=W.put w (some (dt (aw s).2)):=fun a W e' W' q=>by
  unfold hN at q;split at q
  ·rename_i hx;cases q;exact⟨_,_,hx.choose_spec.1,hx.choose_spec.2.1,hx.choose_spec.2.2,rfl,rfl⟩
  cases q
 refine⟨enters_of (by kernel_rfl),fun a W e' W' q=>?_,fun a W e' W' q=>?_⟩
 ·obtain⟨w,s,_,_,_,_,rfl⟩:=key _ _ _ _ q;exact .put _ _ _
 obtain⟨w,s,rfl,hw,hs,rfl,rfl⟩:=key _ _ _ _ q;exact(DT (tP s hs)).sim _ _ _ _ (JE hw)
theorem Y0{k:Nat}{s r:List UInt8}{a:Nat}(h:(aw s).1=some a)(hr:(gG k s).2=some r):(gG k s).1.id=((16*k+a:Nat):Int):=by
 unfold gG at hr ⊢;rw[h]at hr ⊢;simp only at hr ⊢;by_cases c:16<=a
 ·rw[if_pos c]at hr;cases hr
 rw[if_neg c]at hr ⊢;split
 ·rename_i q;rw[q]at hr;cases hr
 rename_i b q;rw[q]at hr;simp only at hr;split
 ·rename_i q2;rw[q2]at hr;cases hr
 rfl
def Io(k a b:Nat)(s:List UInt8):Ce×Option (List UInt8):=match(aw s).1 with
 |none=>(DD,none)
 |some m=>(⟨((16*k+a:Nat):Int),((b:Nat):Int),(mA m (-1) (aw s).2 []).1⟩,(mA m (-1) (aw s).2 []).2)
def Ik(k a:Nat)(s:List UInt8):Ce×Option (List UInt8):=match(aw s).1 with
 |none=>(DD,none)
 |some b=>Io k a b (aw s).2
theorem Yy{k a:Nat}{s:List UInt8}(h:(aw s).1=some a):gG k s=if 16<=a then(DD,none)else Ik k a (aw s).2:=by
 unfold gG Ik Io;rw[h];rfl
theorem Ra{k n a:Nat}{last:Int}{s:List UInt8}(h:(aw s).1=some a)(hl:((16*k+a:Nat):Int)<=last):kA k (n+1) last s=none:=by
 unfold kA;split
 ·rfl
 rename_i r hr;rw[if_pos (by rw[Y0 h hr];exact hl)]
theorem Dr{k n:Nat}{last:Int}{s:List UInt8}(h:(gG k s).2=none):kA k (n+1) last s=none:=by
 unfold kA;rw[h]
theorem NA{k n:Nat}{last:Int}{s r:List UInt8}(h:(gG k s).2=some r)(hl:¬(gG k s).1.id<=last):kA k (n+1) last s=(kA k n (gG k s).1.id r).map ((gG k s).1::·):=by
 show(match(gG k s).2 with
  |none=>none
  |some r=>if(gG k s).1.id<=last then none else(kA k n (gG k s).1.id r).map ((gG k s).1::·))=_
 rw[h];simp only;rw[if_neg hl]
def PQ(te:List Ce×Nat):aW:=if te.2=0 then .ret (sl te.1)else .pan (fC te.2)
theorem C1{s:List UInt8}{m:Nat}(hm:(aw s).1=some m)(hs:s.length<=140737488351232):∀W:XW,W.get 3=some (dt s)->hN [.pointer (some ⟨3,0,none⟩)] W=some (.ret (.int .i64 (m:Nat)),W.put 3 (some (dt (aw s).2))):=fun W hw=>Hq hw hm hs
theorem y6{s:List UInt8}(hm:(aw s).1=none)(hs:s.length<=140737488351232):∀W:XW,W.get 3=some (dt s)->hN [.pointer (some ⟨3,0,none⟩)] W=some (.pan (fC 11),W.put 3 (some (dt (aw s).2))):=fun W hw=>Hk hw hm hs
theorem Pp{s:List UInt8}{m n nl:Nat}{K:List (Nat×Option ah)}{lg:List Nat}(hm:(aw s).1=some m)(hs:s.length<=140737488351232)(h3:lk K 3=some (dt s))(hn:3<n):hN [.pointer (some ⟨3,0,none⟩)] (wd K n lg nl)=some (.ret (.int .i64 (m:Nat)),wd ((3,some (dt (aw s).2))::K) n (3::lg) (nl+1)):=
 (Hq (by rw[ae hn (by decide)];exact h3) hm hs).trans (by rw[i4])
theorem Za{s:List UInt8}{n nl:Nat}{K:List (Nat×Option ah)}{lg:List Nat}(hm:(aw s).1=none)(hs:s.length<=140737488351232)(h3:lk K 3=some (dt s))(hn:3<n):hN [.pointer (some ⟨3,0,none⟩)] (wd K n lg nl)=some (.pan (fC 11),wd ((3,some (dt (aw s).2))::K) n (3::lg) (nl+1)):=
 (Hk (by rw[ae hn (by decide)];exact h3) hm hs).trans (by rw[i4])
def LaI(k:Nat)(last:Int)(acc:List Ce):Prop:=(last=-1/\iq acc=-1)\/∃l0:Nat,l0<16/\last=(l0:Int)/\iq acc=((16*k+l0:Nat):Int)
abbrev enO(k:Nat)(h:HB):ah:=.cells (.int .i64 (k:Nat)::an h.1) 109 (0,0)
abbrev pZ(es:aV)(k:Nat)(h:HB)(r:List (Nat×Option ah)):List (Nat×Option ah):=(0,some (aE es 1))::(1,some (bN es))::(2,some (enO k h))::r
set_option maxHeartbeats 2000000 in
theorem Lh(es:aV)(k:Nat)(h:HB)(hk:k<576460752303423488)(hb:∀t,aD h es=some t->t.length<=1000000):Fg 80 [Ks k h] es (PQ (dM k (aD h es))):=by
 refine⟨enters_of (by kernel_rfl),b7.h,(by unfold PQ;split<;>exact rm.h),?_⟩;have hol:=oP (kd:=1) hb;have hz:=s5 (kd:=1) (g:=aD h es);have hbs:∀r,eX 1 (aD h es)=(1::r,0)->Fh 84 [bu h,.int .u8 ((1:Nat):Int)] es (dt r):=fun r hr=>C2 (kd:=1) hr
 have hbn:(eX 1 (aD h es)).2≠0->Fg 84 [bu h,.int .u8 ((1:Nat):Int)] es (.pan (fC (eX 1 (aD h es)).2)):=fun he=>Mp (kd:=1) he
 unfold dM;generalize eX 1 (aD h es)=oe at hol hz hbs hbn ⊢;obtain⟨o,e⟩:=oe;simp only at hol hz hbs hbn ⊢;refine low Tryz.func80 Tryz.results80 (h:=?_);show ar _ _ 2 _ _ _;refine rs ?_;refine cv [(0,some (.pointer (some ⟨0,0,none⟩))),(3,some (.pointer (some ⟨2,0,none⟩)))] (pZ es k h []) 3 ?_;by_cases he:e=0
 ·subst he;rw[if_pos rfl];obtain⟨r,_,rfl⟩:=hz rfl;have hgo:=JT (w:=0) (b:=1) (n:=3) (nl:=0) (lg:=[]) (xs:=[bu h,.int .u8 ((1:Nat):Int)]) (es:=es) (o:=dt r) (K:=pZ es k h []) rfl rfl (by decide) (by decide) (by decide) (by decide);refine eO hgo (bh (KC (w:=0) (b:=1) (hbs r rfl))) ?_;rw[List.length_cons]at hol;refine cv [(3,some (.pointer (some ⟨2,0,none⟩))),(5,some (.pointer (some ⟨3,0,none⟩)))] (pZ es k h [(3,some (dt r))]) 4 ?_;generalize hR:Am k ((1::r).drop 1)=R;have hR:Am k r=R:=hR;unfold Am at hR;have hr0:r.length<=140737488351232:=by omega
  cases hn:(aw r).1 with
  |none=>
   rw[hn]at hR;have v5:R=none:=hR.symm;refine ai (pd (pv:=fC 11) (y6 hn hr0) (oZ qa (fj j6)) 1 [false,true,false,false,true,true] ⟨ao [],wd [(0,some (aE es 1)),(1,some (bN es))] 4 [] 0,[]⟩ (pt ⟨by rw[v5];rfl,cu rfl rfl (by decide)⟩))
  |some k'=>
   rw[hn]at hR;simp only at hR;have hs1:(aw r).2.length<=r.length:=ed 9 0 0 r;have hNr:=C1 hn hr0;generalize(aw r).2=s1 at hR hs1 hNr;by_cases c1:k'=k
   ·obtain rfl:=c1.symm;rw[if_pos rfl]at hR;have d1:decide (((k:Nat):Int)=((k:Nat):Int))=true:=decide_eq_true rfl;refine kT (And.intro hNr d1) (oZ qa (fj j6)) ?_;clear d1 hNr;refine cv [(3,some (.pointer (some ⟨2,0,none⟩))),(5,some (.pointer (some ⟨3,0,none⟩)))] (pZ es k h [(3,some (dt s1))]) 4 ?_;have hs10:s1.length<=140737488351232:=by omega
    cases hn1:(aw s1).1 with
    |none=>
     rw[hn1]at hR;have v5:R=none:=hR.symm;refine pq (y6 hn1 hs10) (bh qa) ?_;refine pt ?_;exact⟨by rw[v5];rfl,cu (by repeat (first|exact ab|refine Eq.trans (aa (by decide)) ?_)) (by repeat (first|exact ab|refine Eq.trans (aa (by decide)) ?_)) (by decide)⟩
    |some n=>
     rw[hn1]at hR;simp only at hR;have hs2:(aw s1).2.length<=s1.length:=ed 9 0 0 s1;have hnl:=(kH 9 0 0 s1 n rfl acZ hn1).1;have hNr:=C1 hn1 hs10;generalize(aw s1).2=s2 at hR hs2 hNr;refine eO hNr (bh qa) ?_;by_cases c2:n=0
     ·rw[if_pos c2]at hR;have v5:R=none:=hR.symm;have d2:decide (((0:Nat):Int)<((n:Nat):Int))=false:=decide_eq_false (by omega);refine pq d2 (b1 is) ?_;refine pt ?_;exact⟨by rw[v5];rfl,cu (by repeat (first|exact ab|refine Eq.trans (aa (by decide)) ?_)) (by repeat (first|exact ab|refine Eq.trans (aa (by decide)) ?_)) (by decide)⟩
     rw[if_neg c2]at hR;have d2:decide (((0:Nat):Int)<((n:Nat):Int))=true:=decide_eq_true (by omega);refine eO d2 (b1 j6) ?_;refine rs ?_;refine rs ?_;refine ai (fo (fun x:Nat×Int×List Ce×List UInt8=>⟨ao [(3,some (.pointer (some ⟨2,0,none⟩))),(5,some (.pointer (some ⟨3,0,none⟩))),(6,some (.int .i64 (x.1:Nat))),(7,some (gs 4 aq x.2.2.1)),(8,some (.int .i64 x.2.1))],wd (pZ es k h [(3,some (dt x.2.2.2)),(4,some (ro 58 x.2.2.1))]) 5 [] 0,[]⟩)
      (fun x=>x.1<9223372036854775808/\x.2.2.1.length+x.2.2.2.length<=1000000/\LaI k x.2.1 x.2.2.1/\R=(kA k x.1 (iq x.2.2.1) x.2.2.2).map (x.2.2.1++·)) (fun x=>x.1) (n,-1,[],s2) ⟨hnl,by show 0+s2.length<=_;omega,.inl ⟨rfl,rfl⟩,by rw[<-hR];show kA k n (-1) s2=(kA k n (-1) s2).map ([]++·);simp⟩ (fun x hv hc=>?_) (fun x hv hc=>?_))
     ·obtain⟨n,last,acc,s⟩:=x;obtain⟨v1,v2,v3,v4⟩:=hv;simp only at hc v1 v2 v3 v4;obtain⟨n,rfl⟩:∃n',n=n'+1:=⟨n-1,by omega⟩;have hsb:s.length<=140737488351232:=by omega
      cases ha:(aw s).1 with
      |none=>
       have v5:R=none:=by rw[v4,Dr (by unfold gG;rw[ha])];rfl
       refine bs (pq (y6 ha hsb) (bh qa) ?_);refine pt ?_;exact⟨by rw[v5];rfl,cu (by repeat (first|exact ab|refine Eq.trans (aa (by decide)) ?_)) (by repeat (first|exact ab|refine Eq.trans (aa (by decide)) ?_)) (by decide)⟩
      |some a=>
       have hs3:(aw s).2.length<s.length:=(kH 9 0 0 s a rfl acZ ha).2;have hNa:=C1 ha hsb;have hE2:=Yy (k:=k) ha;generalize hE:gG k s=E at hE2;have hfail:E.2=none->R=none:=fun q=>by rw[v4,Dr (by rw[hE];exact q)];rfl
       have hlow:((16*k+a:Nat):Int)<=iq acc->R=none:=fun q=>by rw[v4,Ra ha q];rfl
       generalize(aw s).2=t1 at hE2 hs3 hNa;refine bs (eO hNa (bh qa) ?_);by_cases c3:last<(a:Int)
       ·have d3:decide (last<(a:Int))=true:=decide_eq_true c3;by_cases c4:a<16
        ·have d4:decide ((a:Int)<((16:Nat):Int))=true:=decide_eq_true (by omega);rw[if_neg (by omega)]at hE2;refine eO (And.intro d3 d4) (b1 j6) ?_;refine rs ?_;refine cv [(3,some (.pointer (some ⟨2,0,none⟩))),(5,some (.pointer (some ⟨3,0,none⟩))),(6,some (.int .i64 (n+1:Nat))),(7,some (gs 4 aq acc)),(8,some (.int .i64 (a:Nat))),(9,some (.int .i64 (a:Nat)))] (pZ es k h [(3,some (dt t1)),(4,some (ro 58 acc))]) 5 ?_;have ht1:t1.length<=140737488351232:=by omega
         cases hb1:(aw t1).1 with
         |none=>
          unfold Ik at hE2;rw[hb1]at hE2;have v5:R=none:=hfail (by rw[hE2]);refine ai (pd (pv:=fC 11) (y6 hb1 ht1) (bh qa) 6 [false,false,false,false,false,false,true,true,false,true] ⟨ao [],wd [(0,some (aE es 1)),(1,some (bN es))] 6 [] 0,[]⟩ (pt ⟨by rw[v5];rfl,cu rfl rfl (by decide)⟩))
         |some b=>
          unfold Ik at hE2;rw[hb1]at hE2;have hE2:E=Io k a b (aw t1).2:=hE2;have hs4:(aw t1).2.length<=t1.length:=ed 9 0 0 t1;have hNb:=C1 hb1 ht1;generalize(aw t1).2=t2 at hE2 hs4 hNb;refine kT hNb (bh qa) ?_;refine cv [(3,some (.pointer (some ⟨2,0,none⟩))),(5,some (.pointer (some ⟨3,0,none⟩))),(6,some (.int .i64 ((n+1:Nat):Int))),(7,some (gs 4 aq acc)),(8,some (.int .i64 (a:Nat))),(10,some (.pointer (some ⟨5,0,none⟩)))] (pZ es k h [(3,some (dt t2)),(4,some (ro 58 acc)),(5,some (.cells [.int .i64 ((16*k+a:Nat):Int),.int .i64 ((b:Nat):Int),gs 6 aq ([]:List Sd)] 58 (0,0))),(6,some (ro 60 ([]:List Sd)))]) 7 ?_ (hl:=mO (wW (m:=6) (o:=ro 60 ([]:List Sd)) (by decide) (by decide)) (fb [(0,0),(1,1),(2,2),(3,3),(4,4),(5,5),(6,6)]));have ht2:t2.length<=140737488351232:=by omega
          unfold Io at hE2;refine rs ?_;cases hm1:(aw t2).1 with
          |none=>
           rw[hm1]at hE2;have v5:R=none:=hfail (by rw[hE2]);refine ai (pq (y6 hm1 ht2) (bh qa) ?_);refine pt ?_;exact⟨by rw[v5];rfl,cu (by repeat (first|exact ab|refine Eq.trans (aa (by decide)) ?_)) (by repeat (first|exact ab|refine Eq.trans (aa (by decide)) ?_)) (by decide)⟩
          |some m=>
           rw[hm1]at hE2;simp only at hE2;have hs5:(aw t2).2.length<=t2.length:=ed 9 0 0 t2;have hml:=(kH 9 0 0 t2 m rfl acZ hm1).1;have hNm:=C1 hm1 ht2;generalize(aw t2).2=t3 at hE2 hs5 hNm;generalize hF:mA m (-1) t3 []=F at hE2;have hfF:F.2=none->R=none:=fun q=>hfail (by rw[hE2];exact q)
           refine ai (eO hNm (bh qa) ?_);refine fo (fun y:Nat×Int×List Sd×List UInt8=>⟨ao [(3,some (.pointer (some ⟨2,0,none⟩))),(5,some (.pointer (some ⟨3,0,none⟩))),(6,some (.int .i64 ((n+1:Nat):Int))),(7,some (gs 4 aq acc)),(8,some (.int .i64 (a:Nat))),(10,some (.pointer (some ⟨5,0,none⟩))),(11,some (.int .i64 y.2.1)),(12,some (.int .i64 (y.1:Nat)))],wd (pZ es k h [(3,some (dt y.2.2.2)),(4,some (ro 58 acc)),(5,some (.cells [.int .i64 ((16*k+a:Nat):Int),.int .i64 ((b:Nat):Int),gs 6 aq y.2.2.1] 58 (0,0))),(6,some (ro 60 y.2.2.1))]) 7 [] 0,[]⟩)
            (fun y=>y.1<9223372036854775808/\y.2.2.1.length+y.2.2.2.length<s.length/\mA y.1 y.2.1 y.2.2.2 y.2.2.1=F) (fun y=>y.1) (m,-1,[],t3) ⟨hml,by show 0+t3.length<_;omega,hF⟩ (fun y hw hc2=>?_) (fun y hw hc2=>?_)
           ·obtain⟨m,side,sacc,t⟩:=y;obtain⟨w1,w2,w4⟩:=hw;simp only at hc2 w1 w2 w4;obtain⟨m,rfl⟩:∃m',m=m'+1:=⟨m-1,by omega⟩;rw[mA]at w4;have htb:t.length<=140737488351232:=by omega
            have hs6:(aw t).2.length<=t.length:=ed 9 0 0 t;cases hd1:(aw t).1 with
            |none=>
             rw[hd1]at w4;have v5:R=none:=hfF (by rw[<-w4]);refine bs (pq (y6 hd1 htb) (bh qa) ?_);refine pt ?_;exact⟨by rw[v5];rfl,cu (by repeat (first|exact ab|refine Eq.trans (aa (by decide)) ?_)) (by repeat (first|exact ab|refine Eq.trans (aa (by decide)) ?_)) (by decide)⟩
            |some d=>
             rw[hd1]at w4;simp only at w4;have hlt6:(aw t).2.length<t.length:=(kH 9 0 0 t d rfl acZ hd1).2;have hNd:=Pp (K:=pZ es k h [(3,some (dt t)),(4,some (ro 58 acc)),(5,some (.cells [.int .i64 ((16*k+a:Nat):Int),.int .i64 ((b:Nat):Int),gs 6 aq sacc] 58 (0,0))),(6,some (ro 60 sacc))]) (n:=7) (lg:=[]) (nl:=0) hd1 htb (by repeat (first|exact ab|refine Eq.trans (aa (by decide)) ?_)) (by decide);generalize(aw t).2=t4 at w4 hs6 hNd hlt6;have ht4:t4.length<=140737488351232:=by omega
             have hs7:(aw t4).2.length<=t4.length:=ed 9 0 0 t4;cases hg1:(aw t4).1 with
             |none=>
              rw[hg1]at w4;have v5:R=none:=hfF (by
               rw[<-w4];split<;>rfl)
              have hNg:=Za (K:=(3,some (dt t4))::pZ es k h [(3,some (dt t)),(4,some (ro 58 acc)),(5,some (.cells [.int .i64 ((16*k+a:Nat):Int),.int .i64 ((b:Nat):Int),gs 6 aq sacc] 58 (0,0))),(6,some (ro 60 sacc))]) (n:=7) (lg:=[3]) (nl:=1) hg1 ht4 ab (by decide);refine bs (pq (And.intro hNd hNg) (bh qa) ?_);refine pt ?_;exact⟨by rw[v5];rfl,cu (by repeat (first|exact ab|refine Eq.trans (aa (by decide)) ?_)) (by repeat (first|exact ab|refine Eq.trans (aa (by decide)) ?_)) (by decide)⟩
             |some g=>
              rw[hg1]at w4;simp only at w4;have hNg:=Pp (K:=(3,some (dt t4))::pZ es k h [(3,some (dt t)),(4,some (ro 58 acc)),(5,some (.cells [.int .i64 ((16*k+a:Nat):Int),.int .i64 ((b:Nat):Int),gs 6 aq sacc] 58 (0,0))),(6,some (ro 60 sacc))]) (n:=7) (lg:=[3]) (nl:=1) hg1 ht4 ab (by decide);generalize(aw t4).2=t5 at w4 hs7 hNg;refine bs (eO (And.intro hNd hNg) (bh qa) ?_);by_cases c5:side<(d:Int)
              ·have d5:decide (side<(d:Int))=true:=decide_eq_true c5;rw[if_neg (by omega)]at w4;by_cases c6:g<2
               ·have d6:decide ((g:Int)<((2:Nat):Int))=true:=decide_eq_true (by omega);rw[if_neg (by omega)]at w4;refine eO (And.intro d5 d6) (b1 j6) ?_;refine rs ?_;refine rl ?_;refine rl ?_;refine nx (m,(d:Int),sacc++[(((d:Nat):Int),((1:Nat):Int)-((2*g:Nat):Int))],t5) ⟨by show m<_;omega,by show(sacc++_).length+t5.length<_;rw[abP,ab5];omega,w4⟩ (by show m<m+1;omega) ?_;show bz _ _ _ ⟨ao [(3,some (.pointer (some ⟨2,0,none⟩))),(5,some (.pointer (some ⟨3,0,none⟩))),(6,some (.int .i64 ((n+1:Nat):Int))),(7,some (gs 4 aq acc)),(8,some (.int .i64 (a:Nat))),(10,some (.pointer (some ⟨5,0,none⟩))),(11,some (.int .i64 (d:Int))),(12,some (.int .i64 (m:Nat)))],wd (pZ es k h [(3,some (dt t5)),(4,some (ro 58 acc)),(5,some (.cells [.int .i64 ((16*k+a:Nat):Int),.int .i64 ((b:Nat):Int),gs 6 aq (sacc++[(((d:Nat):Int),((1:Nat):Int)-((2*g:Nat):Int))])] 58 (0,0))),(6,some (ro 60 (sacc++[(((d:Nat):Int),((1:Nat):Int)-((2*g:Nat):Int))])))]) 7 [] 0,[]⟩;exact fb [(0,0),(1,1),(2,2),(3,3),(4,4),(5,5),(8,6)]
               have d6:decide ((g:Int)<((2:Nat):Int))=false:=decide_eq_false (by omega);rw[if_pos (by omega)]at w4;have v5:R=none:=hfF (by rw[<-w4]);refine pq (And.intro d5 d6) (b1 is) ?_;refine pt ?_;exact⟨by rw[v5];rfl,cu (by repeat (first|exact ab|refine Eq.trans (aa (by decide)) ?_)) (by repeat (first|exact ab|refine Eq.trans (aa (by decide)) ?_)) (by decide)⟩
              have d5:decide (side<(d:Int))=false:=decide_eq_false c5;rw[if_pos (by omega)]at w4;have v5:R=none:=hfF (by rw[<-w4]);refine pq d5 (b1 is) ?_;refine pt ?_;exact⟨by rw[v5];rfl,cu (by repeat (first|exact ab|refine Eq.trans (aa (by decide)) ?_)) (by repeat (first|exact ab|refine Eq.trans (aa (by decide)) ?_)) (by decide)⟩
           obtain⟨m,side,sacc,t⟩:=y;obtain⟨w1,w2,w4⟩:=hw;simp only at hc2 w1 w2 w4;obtain rfl:m=0:=by omega
           rw[mA]at w4;rw[<-w4]at hE2;simp only at hE2;have hgood:=NA (k:=k) (n:=n) (last:=iq acc) (s:=s) (r:=t) (by rw[hE,hE2]) (by
            rw[hE,hE2];show ¬((16*k+a:Nat):Int)<=iq acc;rcases v3 with⟨q1,q2⟩|⟨l0,_,q1,q2⟩
            ·rw[q2];omega
            rw[q2];omega)
           rw[hgood,hE,hE2]at v4;simp only at v4;show ar _ _ _ _ _ _;refine cv [(3,some (.pointer (some ⟨2,0,none⟩))),(5,some (.pointer (some ⟨3,0,none⟩))),(6,some (.int .i64 ((n+1:Nat):Int))),(7,some (gs 4 aq acc)),(8,some (.int .i64 (a:Nat))),(10,some (.pointer (some ⟨5,0,none⟩)))] (pZ es k h [(3,some (dt t)),(4,some (ro 58 acc)),(5,some (xn ((16*k+a:Nat):Int) ((b:Nat):Int) sacc))]) 7 ?_ (hl:=xS 6);refine rl ?_;refine rl ?_;refine nx (n,(a:Int),acc++[(⟨((16*k+a:Nat):Int),((b:Nat):Int),sacc⟩:Ce)],t) ⟨by show n<_;omega,by show(acc++_).length+t.length<=_;rw[abP,ab5];omega,.inr ⟨a,c4,rfl,p8⟩,?_⟩ (by show n<n+1;omega) ?_
           ·show R=(kA k n (iq (acc++[_])) t).map ((acc++[_])++·);rw[p8];exact v4.trans (F4 _)
           exact fb [(0,0),(1,1),(2,2),(3,3),(8,4)]
        have d4:decide ((a:Int)<((16:Nat):Int))=false:=decide_eq_false (by omega);rw[if_pos (by omega)]at hE2;have v5:R=none:=hfail (by rw[hE2]);refine pq (And.intro d3 d4) (b1 is) ?_;refine pt ?_;exact⟨by rw[v5];rfl,cu (by repeat (first|exact ab|refine Eq.trans (aa (by decide)) ?_)) (by repeat (first|exact ab|refine Eq.trans (aa (by decide)) ?_)) (by decide)⟩
       have d3:decide (last<(a:Int))=false:=decide_eq_false c3;have v5:R=none:=hlow (by
        rcases v3 with⟨q1,q2⟩|⟨l0,_,q1,q2⟩
        ·omega
        rw[q2];omega)
       refine pq d3 (b1 is) ?_;refine pt ?_;exact⟨by rw[v5];rfl,cu (by repeat (first|exact ab|refine Eq.trans (aa (by decide)) ?_)) (by repeat (first|exact ab|refine Eq.trans (aa (by decide)) ?_)) (by decide)⟩
     obtain⟨n,last,acc,s⟩:=x;obtain⟨v1,v2,v3,v4⟩:=hv;simp only at hc v1 v2 v3 v4;obtain rfl:n=0:=by omega
     rw[kA]at v4;show ar _ _ _ _ _ _;by_cases hp:s=[]
     ·subst hp;rw[if_pos rfl]at v4;have v5:R=some acc:=by rw[v4];simp
      have hd:decide (([]:List UInt8)=[])=true:=by simp
      refine eO hd (b1 j6) ?_;refine rs ?_;refine cv [(4,some (sl acc))] [(0,some (aE es 1)),(1,some (bN es))] 5 ?_ (hl:=fz 4);refine rt ?_;exact⟨by rw[v5];rfl,cu (by repeat (first|exact ab|refine Eq.trans (aa (by decide)) ?_)) (by repeat (first|exact ab|refine Eq.trans (aa (by decide)) ?_)) (by decide)⟩
     rw[if_neg hp]at v4;have v5:R=none:=v4;have hd:decide (s=([]:List UInt8))=false:=decide_eq_false hp;refine pq hd (b1 is) ?_;refine pt ?_;exact⟨by rw[v5];rfl,cu (by repeat (first|exact ab|refine Eq.trans (aa (by decide)) ?_)) (by repeat (first|exact ab|refine Eq.trans (aa (by decide)) ?_)) (by decide)⟩
   rw[if_neg c1]at hR;have v5:R=none:=hR.symm;have d1:decide (((k':Nat):Int)=((k:Nat):Int))=false:=decide_eq_false (by omega);refine ai (pd (pv:=fC 11) (And.intro hNr d1) (oZ qa (fj is)) 5 [false,false,false,false,false,true] ⟨ao [],wd [(0,some (aE es 1)),(1,some (bN es))] 4 [] 0,[]⟩ (pt ⟨by rw[v5];rfl,cu rfl rfl (by decide)⟩))
 rw[if_neg he];have hgo:=mg (w:=0) (b:=1) (n:=3) (nl:=0) (lg:=[]) (xs:=[bu h,.int .u8 ((1:Nat):Int)]) (es:=es) (e:=.pan (fC e)) (K:=pZ es k h []) rfl rfl (by decide) (by decide) (by decide) (by decide);refine pq hgo (bh (jH (w:=0) (b:=1) (hbn he))) ?_;refine pt ?_;exact⟨by unfold PQ;rw[if_neg he],cu rfl rfl (by decide)⟩
end Go.Proofs.YthlkgmdkabelpaaGreat.X
