/-
  Packed by program (tools/pack.py) out of the texts UB17 UB18 UB19 UB20 UB21 UB22 UB25 UB26 UB27 UB29. No condition.
-/
import Derived.Test.YthlkgmdkabelpaaGreatNI
set_option linter.all false
open Nat(reduceAdd reduceMul reduceSub)
namespace Go.Proofs.YthlkgmdkabelpaaGreat.X
open Go Go.RowKit
def cR(w b:Nat)(l:List UInt8):bb:=.cells [.pointer (some ⟨w,0,none⟩),.slice (some ⟨b,0,none⟩) l.length aM] 84 (0,0)
def bZ(l:List UInt8):bb:=.cells (aF l) 5 (0,0)
abbrev PW:=List Value->List UInt8->Option (Value×List UInt8)
def NG(W:XW)(w b:Nat):Option (Value×List UInt8)->Option (cz×XW)
 |some (v,l)=>some (.ret v,(((W.put b none).push (bZ l)).put w (some (cR w W.next l))))
 |none=>none
def RL(p:PW)(xs:List Value)(W:XW)(w b n:Nat):Option (List UInt8)->Option (cz×XW)
 |some l=>bif Nat.beq l.length n then NG W w b (p xs l)else none
 |none=>none
def UA(p:PW)(xs:List Value)(W:XW)(w b n:Nat):Option bb->Option (cz×XW)
 |some (.cells cs e (0,0))=>bif Nat.beq e 5 then RL p xs W w b n (dE cs)else none
 |_=>none
def IG(p:PW)(xs:List Value)(W:XW)(w:Nat):Option bb->Option (cz×XW)
 |some (.cells [.pointer (some ⟨w',0,none⟩),.slice (some ⟨b,0,none⟩) n c] e (0,0))=>bif Nat.beq e 84&&Nat.beq w' w&&Nat.beq c aM&&!(Nat.beq w b)then UA p xs W w b n (W.get b)else none
 |_=>none
def po(p:PW):HF:=fun args W=>match args with
 |.pointer (some ⟨w,0,none⟩)::xs=>IG p xs W w (W.get w)
 |_=>none
theorem kf:∀{cs:List Value} {l:List UInt8},dE cs=some l->cs=aF l
 |[],l,h=>by cases h;rfl
 |v::cs,l,h=>by
  unfold dE at h;split at h
  ·rename_i n;cases hb:dE cs with
   |none=>rw[hb]at h;cases h
   |some r=>
    rw[hb]at h;unfold qu at h;cases hn:Nat.blt n 256 with
    |false=>simp only[hn]at h;cases h
    |true=>
     simp only[hn]at h;cases h;have h256:n<256:=Nat.le_of_ble_eq_true hn;rw[kf hb];show _=Value.int .u8 ((UInt8.ofNat n).toNat:Int)::aF r;rw[show(UInt8.ofNat n).toNat=n from by simp;omega];rfl
  cases h
theorem FN{p:PW}{args:List Value}{W W':XW}{e:cz}(h:po p args W=some (e,W')):∃w b xs l v l',args=.pointer (some ⟨w,0,none⟩)::xs/\w≠b/\W.get w=some (cR w b l)/\W.get b=some (bZ l)/\p xs l=some (v,l')/\e=.ret v/\W'=((W.put b none).push (bZ l')).put w (some (cR w W.next l')):=by
 unfold po at h;split at h
 ·rename_i w xs;unfold IG at h;split at h
  ·rename_i w' b n c t hg;cases hc:(Nat.beq t 84&&Nat.beq w' w&&Nat.beq c aM&&!(Nat.beq w b))with
   |false=>rw[hc]at h;cases h
   |true=>
    rw[hc]at h;simp only[ZX,aaE]at hc;obtain⟨⟨⟨e1,e2⟩,e3⟩,e4⟩:=hc;have e1:=ZT e1;have e2:=ZT e2;have e3:=ZT e3;subst e1 e2 e3;simp only[cond_true]at h;unfold UA at h;split at h
    ·rename_i cs t' hb;cases ht:Nat.beq t' 5 with
     |false=>rw[ht]at h;cases h
     |true=>
      rw[ht]at h;have:=ZT ht;subst this;simp only[cond_true]at h;cases hl:dE cs with
      |none=>rw[hl]at h;cases h
      |some l=>
       rw[hl]at h;unfold RL at h;cases hn:Nat.beq l.length n with
       |false=>simp only[hn]at h;cases h
       |true=>
        simp only[hn,cond_true]at h;have:=ZT hn;subst this;cases hp:p xs l with
        |none=>rw[hp]at h;cases h
        |some q=>
         obtain⟨v,l'⟩:=q;rw[hp]at h;cases h;refine⟨w',b,xs,l,v,l',rfl,fun q=>?_,hg,by rw[hb,kf hl];rfl,hp,rfl,rfl⟩;subst q;rw[ZY]at e4;cases e4
    cases h
  cases h
 cases h
theorem de{P:Program}{l:List UInt8}:fY P (bZ l):=bc (dn l)
theorem NR{p:PW}{f:FuncId}(he:fi Tryz.prog f)(hb:∀xs l v l',p xs l=some (v,l')->dt xs/\dG v)
 (hl:∀xs l v l',p xs l=some (v,l')->aN Tryz.prog f (.pointer (some ⟨0,0,none⟩)::xs) (wd [(0,some (cR 0 1 l)),(1,some (bZ l))] 2 [] 0) fun e W'=>e=.ret v/\∃b',2<=b'/\W'.get 0=some (cR 0 b' l')/\W'.get b'=some (bZ l')):bD Tryz.prog f (po p):=by
 refine⟨he,fun args W e W' h=>?_,fun args W e W' h=>?_⟩
 ·obtain⟨w,b,xs,l,v,l',_,_,_,_,_,_,rfl⟩:=FN h;exact((cK.put _ _ _).trans (cK.push _ _)).trans (cK.put _ _ _)
 obtain⟨w,b,xs,l,v,l',rfl,hwb,hw,hr,hp,rfl,rfl⟩:=FN h;have hwn:=cw hw;have hbn:=cw hr;have t0:(fun n=>if n=w then some 0 else if n=b then some 1 else(none:Option Nat)) w=some 0:=if_pos rfl;have t1:(fun n=>if n=w then some 0 else if n=b then some 1 else(none:Option Nat)) b=some 1:=by simp only[if_neg (Ne.symm hwb),if_pos]
 refine mj (k:=2) (fun m=>if m=0 then w else b) (fun n=>if n=w then some 0 else if n=b then some 1 else none) rfl (fun m m' h h' e=>?_) (fun m h=>?_) (fun n m h=>?_) (fun m oL h=>?_) (ax (ay t0) ((hb _ _ _ _ hp).1 _ ah)) (hl _ _ _ _ hp) (fun eL WL' hS=>?_)
 ·by_cases h0:m=0<;>by_cases h1:m'=0<;>simp only[h0,h1,if_true,if_false]at e ⊢
  ·exact absurd e hwb
  ·exact absurd e.symm hwb
  omega
 ·split<;>omega
 ·split at h
  ·rename_i q;cases h;exact⟨by decide,q.symm⟩
  split at h
  ·rename_i q;cases h;exact⟨by decide,q.symm⟩
  cases h
 ·have hm:m<2:=cw h;obtain⟨_,h2⟩:=dV h;have:m=0\/m=1:=by omega
  rcases this with rfl|rfl
  ·rw[ab]at h2;cases h2;exact⟨by decide,_,hw,bJ (ax (ay t0) (ax (bI t1) aX))⟩
  rw[aa (by decide),ab]at h2;cases h2;exact⟨by decide,_,hr,de _ ah⟩
 obtain⟨rfl,b',hb2,g0,g1⟩:=hS;have s0:(fun m=>if m=0 then some w else if m=b' then some W.next else(none:Option Nat)) 0=some w:=if_pos rfl;have s1:(fun m=>if m=0 then some w else if m=b' then some W.next else(none:Option Nat)) b'=some W.next:=by simp only[if_neg (show ¬b'=0 by omega),if_pos]
 refine⟨fun m=>if m=0 then some w else if m=b' then some W.next else none,fun m x h=>?_,fun m m' x h h'=>?_,fun x o' h=>?_,(hb _ _ _ _ hp).2 _ ah,aaX _⟩
 ·split at h
  ·rename_i q;cases h;exact .inl ⟨by omega,by simp[q]⟩
  split at h
  ·rename_i q;cases h;exact .inr ⟨by omega,Nat.le_refl _,aan _⟩
  cases h
 ·split at h
  ·split at h'
   ·omega
   split at h'
   ·cases h;cases h';omega
   cases h'
  split at h
  ·split at h'
   ·cases h;cases h';omega
   split at h'
   ·omega
   cases h'
  cases h
 rcases XW.get_put h with⟨rfl,q⟩|⟨q1,q2⟩
 ·cases q;exact .inl ⟨0,_,s0,g0,bJ (ax (ay s0) (ax (bI s1) aX))⟩
 rcases XW.get_push q2 with⟨e1,e2⟩|⟨e1,e2⟩
 ·subst e2;exact .inl ⟨b',_,by rw[e1];exact s1,g1,de _ ah⟩
 rcases XW.get_put e2 with⟨_,z⟩|⟨z1,z2⟩
 ·cases z
 refine .inr ⟨z2,cw z2,fun m hm=>?_⟩;split
 ·exact fun z=>q1 z.symm
 exact fun z=>z1 z.symm
abbrev PS:=List Value->Nat->List UInt8->Option (Value×List UInt8)
def SR(p:PS)(W:XW)(w b n r m c:Nat)(l:List UInt8):Option bb->Option (cz×XW)
 |some (.cells cs e (0,0))=>bif Nat.ble m c&&!(Nat.beq r w)&&!(Nat.beq r b)then NG (W.put r none) w b (p cs m l)else none
 |_=>none
def RU(p:PS)(r m c:Nat)(W:XW)(w b n:Nat):Option (List UInt8)->Option (cz×XW)
 |some l=>bif Nat.beq l.length n then SR p W w b n r m c l (W.get r)else none
 |none=>none
def SB(p:PS)(r m c:Nat)(W:XW)(w b n:Nat):Option bb->Option (cz×XW)
 |some (.cells cs e (0,0))=>bif Nat.beq e 5 then RU p r m c W w b n (dE cs)else none
 |_=>none
def TU(p:PS)(r m c:Nat)(W:XW)(w:Nat):Option bb->Option (cz×XW)
 |some (.cells [.pointer (some ⟨w',0,none⟩),.slice (some ⟨b,0,none⟩) n c'] e (0,0))=>bif Nat.beq e 84&&Nat.beq w' w&&Nat.beq c' aM&&!(Nat.beq w b)then SB p r m c W w b n (W.get b)else none
 |_=>none
def Fp(p:PS):HF:=fun args W=>match args with
 |[.pointer (some ⟨w,0,none⟩),.slice (some ⟨r,0,none⟩) m c]=>TU p r m c W w (W.get w)
 |_=>none
theorem CC{a b:Nat}(h:Nat.beq a b=false):a≠b:=fun e=>by subst e;rw[ZY]at h;cases h
theorem FM{p:PS}{args:List Value}{W W':XW}{e:cz}(h:Fp p args W=some (e,W')):∃w b r m c cs t l v l',args=[.pointer (some ⟨w,0,none⟩),.slice (some ⟨r,0,none⟩) m c]/\w≠b/\r≠w/\r≠b/\m<=c/\W.get w=some (cR w b l)/\W.get b=some (bZ l)/\W.get r=some (.cells cs t (0,0))/\p cs m l=some (v,l')/\e=.ret v/\W'=(((W.put r none).put b none).push (bZ l')).put w (some (cR w W.next l')):=by
 unfold Fp at h;split at h
 ·rename_i w r m c;unfold TU at h;split at h
  ·rename_i w' b n c' t hg;cases hc:(Nat.beq t 84&&Nat.beq w' w&&Nat.beq c' aM&&!(Nat.beq w b))with
   |false=>rw[hc]at h;cases h
   |true=>
    rw[hc]at h;simp only[ZX,aaE]at hc;obtain⟨⟨⟨e1,e2⟩,e3⟩,e4⟩:=hc;have e1:=ZT e1;have e2:=ZT e2;have e3:=ZT e3;subst e1 e2 e3;simp only[cond_true]at h;unfold SB at h;split at h
    ·rename_i cs t' hb;cases ht:Nat.beq t' 5 with
     |false=>rw[ht]at h;cases h
     |true=>
      rw[ht]at h;have:=ZT ht;subst this;simp only[cond_true]at h;cases hl:dE cs with
      |none=>rw[hl]at h;cases h
      |some l=>
       rw[hl]at h;unfold RU at h;cases hn:Nat.beq l.length n with
       |false=>simp only[hn]at h;cases h
       |true=>
        simp only[hn,cond_true]at h;have:=ZT hn;subst this;unfold SR at h;split at h
        ·rename_i cr tr hr;cases hk:(Nat.ble m c&&!(Nat.beq r w')&&!(Nat.beq r b))with
         |false=>rw[hk]at h;cases h
         |true=>
          rw[hk]at h;simp only[ZX,aaE]at hk;obtain⟨⟨k1,k2⟩,k3⟩:=hk;simp only[cond_true]at h;cases hp:p cr m l with
          |none=>rw[hp]at h;cases h
          |some q=>
           obtain⟨v,l'⟩:=q;rw[hp]at h;cases h;exact⟨w',b,r,m,c,cr,tr,l,v,l',rfl,CC e4,CC k2,CC k3,Nat.le_of_ble_eq_true k1,hg,by rw[hb,kf hl];rfl,hr,hp,rfl,rfl⟩
        cases h
    cases h
  cases h
 cases h
theorem VX{p:PS}{f:FuncId}(he:fi Tryz.prog f)(hb:∀cs m l v l',p cs m l=some (v,l')->dt cs/\dG v)
 (hl:∀cs m c t l v l',m<=c->p cs m l=some (v,l')->aN Tryz.prog f [.pointer (some ⟨0,0,none⟩),.slice (some ⟨2,0,none⟩) m c] (wd [(0,some (cR 0 1 l)),(1,some (bZ l)),(2,some (.cells cs t (0,0)))] 3 [] 0) fun e W'=>e=.ret v/\∃b',3<=b'/\W'.get 0=some (cR 0 b' l')/\W'.get b'=some (bZ l')):bD Tryz.prog f (Fp p):=by
 refine⟨he,fun args W e W' h=>?_,fun args W e W' h=>?_⟩
 ·obtain⟨w,b,r,m,c,cs,t,l,v,l',_,_,_,_,_,_,_,_,_,_,rfl⟩:=FM h;exact(((cK.put _ _ _).trans (cK.put _ _ _)).trans (cK.push _ _)).trans (cK.put _ _ _)
 obtain⟨w,b,r,n,c,cs,t,l,v,l',rfl,hwb,hrw,hrb,hnc,hw,hr,hrr,hp,rfl,rfl⟩:=FM h;have hwn:=cw hw;have hbn:=cw hr;have hrn:=cw hrr;have t0:(fun n=>if n=w then some 0 else if n=b then some 1 else if n=r then some 2 else(none:Option Nat)) w=some 0:=if_pos rfl;have t1:(fun n=>if n=w then some 0 else if n=b then some 1 else if n=r then some 2 else(none:Option Nat)) b=some 1:=by simp only[if_neg (Ne.symm hwb),if_pos]
 have t2:(fun n=>if n=w then some 0 else if n=b then some 1 else if n=r then some 2 else(none:Option Nat)) r=some 2:=by simp only[if_neg hrw,if_neg hrb,if_pos]
 refine mj (k:=3) (fun m=>if m=0 then w else if m=1 then b else r) (fun n=>if n=w then some 0 else if n=b then some 1 else if n=r then some 2 else none) rfl (fun m m' h h' e=>?_) (fun m h=>?_) (fun n m h=>?_) (fun m oL h=>?_) (ax (ay t0) (ax (bI t2) aX)) (hl _ _ _ t _ _ _ hnc hp) (fun eL WL' hS=>?_)
 ·have a1:m=0\/m=1\/m=2:=by omega
  have a2:m'=0\/m'=1\/m'=2:=by omega
  rcases a1 with rfl|rfl|rfl<;>rcases a2 with rfl|rfl|rfl<;>simp only[if_pos,if_neg,Nat.one_ne_zero,if_true,if_false,show(2:Nat)≠0 from by decide,show(2:Nat)≠1 from by decide]at e ⊢<;>first|exact absurd e hwb|exact absurd e.symm hwb|exact absurd e hrw|exact absurd e.symm hrw|exact absurd e hrb|exact absurd e.symm hrb
 ·split
  ·omega
  split<;>omega
 ·split at h
  ·rename_i q;cases h;exact⟨by decide,q.symm⟩
  split at h
  ·rename_i q;cases h;exact⟨by decide,q.symm⟩
  split at h
  ·rename_i q;cases h;exact⟨by decide,q.symm⟩
  cases h
 ·have hm:m<3:=cw h;obtain⟨_,h2⟩:=dV h;have:m=0\/m=1\/m=2:=by omega
  rcases this with rfl|rfl|rfl
  ·rw[ab]at h2;cases h2;exact⟨by decide,_,hw,bJ (ax (ay t0) (ax (bI t1) aX))⟩
  ·rw[aa (by decide),ab]at h2;cases h2;exact⟨by decide,_,hr,de _ ah⟩
  rw[aa (by decide),aa (by decide),ab]at h2;cases h2;exact⟨by decide,_,hrr,bc (hb _ _ _ _ _ hp).1 _ ah⟩
 obtain⟨rfl,b',hb2,g0,g1⟩:=hS;have s0:(fun m=>if m=0 then some w else if m=b' then some W.next else(none:Option Nat)) 0=some w:=if_pos rfl;have s1:(fun m=>if m=0 then some w else if m=b' then some W.next else(none:Option Nat)) b'=some W.next:=by simp only[if_neg (show ¬b'=0 by omega),if_pos]
 refine⟨fun m=>if m=0 then some w else if m=b' then some W.next else none,fun m x h=>?_,fun m m' x h h'=>?_,fun x o' h=>?_,(hb _ _ _ _ _ hp).2 _ ah,aaX _⟩
 ·split at h
  ·rename_i q;cases h;exact .inl ⟨by omega,by simp[q]⟩
  split at h
  ·rename_i q;cases h;exact .inr ⟨by omega,Nat.le_refl _,aan _⟩
  cases h
 ·split at h
  ·split at h'
   ·omega
   split at h'
   ·cases h;cases h';omega
   cases h'
  split at h
  ·split at h'
   ·cases h;cases h';omega
   split at h'
   ·omega
   cases h'
  cases h
 rcases XW.get_put h with⟨rfl,q⟩|⟨q1,q2⟩
 ·cases q;exact .inl ⟨0,_,s0,g0,bJ (ax (ay s0) (ax (bI s1) aX))⟩
 rcases XW.get_push q2 with⟨e1,e2⟩|⟨e1,e2⟩
 ·subst e2;exact .inl ⟨b',_,by rw[e1];exact s1,g1,de _ ah⟩
 rcases XW.get_put e2 with⟨_,z⟩|⟨z1,z2⟩
 ·cases z
 rcases XW.get_put z2 with⟨_,y⟩|⟨y1,y2⟩
 ·cases y
 refine .inr ⟨y2,cw y2,fun m hm=>?_⟩;split
 ·exact fun z=>q1 z.symm
 split
 ·exact fun z=>z1 z.symm
 exact fun z=>y1 z.symm
abbrev PQ:=List Value->List UInt8->Option Value
theorem Fm{W:XW}{n b:Nat}{l:List UInt8}(h:W.get n=some (cR n b l)):FJ [.pointer (some ⟨n,0,none⟩)] W=some (.ret (.tuple #[]),W):=by
 unfold FJ yL kF;simp only;rw[h];show(match(bif Nat.beq n n&&Nat.beq 0 0 then some (Value.tuple #[],W)else none:Option (Value×XW))with|some (v,W')=>some (cz.ret v,W')|none=>none)=_;rw[ZY,ZY];rfl
noncomputable def NX:List (FuncId×HF):=[(73,FJ)]
theorem ga:dv Tryz.prog (cE NX []):=⟨mixed,bU (.cons _ _ _ Rm .nil) .nil⟩
theorem A4{l:List UInt8}{n:Nat}(h:n<256):aF l++[.int .u8 ((n:Nat):Int)]=aF (l++[UInt8.ofNat n]):=by
 unfold aF;rw[aaI];congr 1;show _=[Value.int .u8 ((UInt8.ofNat n).toNat:Int)];rw[show(UInt8.ofNat n).toNat=n from by simp;omega]
theorem O5{l m:List UInt8}:aF l++aF m=aF (l++m):=by unfold aF;rw[aaI]
theorem zj(l:List UInt8)(n:Nat)(hn:n<256)(hl:l.length<1000000000000):aN Tryz.prog 69 [.pointer (some ⟨0,0,none⟩),.int .u8 (n:Int)] (wd [(0,some (cR 0 1 l)),(1,some (bZ l))] 2 [] 0) fun e W'=>e=.ret .nilIface/\∃b',2<=b'/\W'.get 0=some (cR 0 b' (l++[UInt8.ofNat n]))/\W'.get b'=some (bZ (l++[UInt8.ofNat n])):=by
 refine be ga Tryz.func69 rfl (Nat.le_of_ble_eq_true rfl) ?_;simp only[aY.eq_1,aY.eq_2,bf,Tryz.ntmps69,reduceAdd];have hcc:=Fm (W:=wd [(0,some (cR 0 1 l)),(1,some (bZ l))] 2 [] 0) (n:=0) (b:=1) (l:=l) (by rw[bO (by decide) (by decide),ab]);refine ae (ac (e:=?e1) (s':=?s1) ga ?h1 ?q1)
 case h1=>simp(disch:=decide) only[go_sem];all_goals rfl
 refine ae (ac ga (by simp(disch:=decide) only[NX,hcc,go_sem]<;>with_reducible rfl) ?_);refine ae (ac ga (by simp(disch:=first|decide|omega|(simp only[List.length_cons,List.length_nil,ZM,bK,ZR,ZV];omega)) only[cR,bZ,A4,go_sem]<;>with_reducible rfl) ?_);refine ae (ac (e:=?e4) (s':=?s4) ga ?h4 ?q4)
 case h4=>simp(disch:=decide) only[go_sem];all_goals rfl
 refine bh ?_;refine⟨_,?e5,?W5,rfl,?h5,?q5⟩
 case h5=>simp(disch:=decide) only[Tryz.results69,go_sem];all_goals rfl
 refine⟨rfl,3,by decide,?_,?_⟩
 ·simp(disch:=decide) only[cR,ZM,go_sem]
 simp(disch:=decide) only[bZ,go_sem]
theorem Lj{P:Program}{W:XW}{b n:Nat}{k:IntKind}{pe:TypeId}:vN P W (.pointer (some ⟨b,0,none⟩)) (.int k ((n+1:Nat):Int)) (some (.pointer pe))=za P W b (n+1) pe (W.get b):=rfl
theorem OG{P:Program}{W:XW}{b n:Nat}{pe:TypeId}{c:List Value}{e:TypeId}{fr:Nat×Nat}:za P W b n pe (some (.cells c e fr))=bif Nat.ble n c.length&&Nat.beq e pe&&Nat.beq fr.1 0&&Nat.beq (P.cellsOf pe) 1&&Nat.ble n 1099511627776 then yQ W b n c e fr (dE (c.take n))else none:=rfl
theorem O6{W:XW}{b n:Nat}{c:List Value}{e:TypeId}{fr:Nat×Nat}{l:List UInt8}:yQ W b n c e fr (some l)=some (.mod (.string (str l)) (W.put b (some (.cells c e (0,Nat.max fr.2 n))))):=rfl
theorem SO:Tryz.prog.cellsOf 5=1:=by kernel_rfl
theorem Ed(l:List UInt8)(h0:l≠[])(hl:l.length<1000000000000):aN Tryz.prog 39 [.pointer (some ⟨0,0,none⟩)] (wd [(0,some (cR 0 1 l)),(1,some (bZ l))] 2 [] 0) fun e W'=>e=.ret (.string (str l)):=by
 refine be ga Tryz.func39 rfl (Nat.le_of_ble_eq_true rfl) ?_;simp only[aY.eq_1,aY.eq_2,bf,Tryz.ntmps39,reduceAdd];refine ae (ac ga (by simp(disch:=decide) only[go_sem]<;>with_reducible rfl) ?_);obtain⟨n,hn⟩:∃n,l.length=n+1:=⟨l.length-1,by have:l.length≠0:=fun e=>h0 (List.length_eq_zero_iff.1 e);omega⟩;refine bl ga ⟨aI [(2,some (.string (str l)))],wd [] 2 [] 0,[]⟩ ?hz ?qz
 case hz=>
  refine⟨?rsz,?sz,?hzz,?kz,?lz⟩
  case hzz=>simp(disch:=first|decide|omega|(simp only[List.length_cons,List.length_nil,ZM,bK,ZR,ZV];omega)) only[aE.eq_1,aE.eq_2,cm.eq_1,bd.eq_1,bd.eq_2,cR,bZ,hn,Tryz.underlying145,Lj,OG,SO,jB,O6,go_sem]<;>with_reducible rfl
  case kz=>kernel_rfl
  case lz=>exact ak (by simp(disch:=decide) [ai,ab,aa,ag]) (by simp[ai]) (by decide)
 refine bh ?_;refine⟨_,?e7,?W7,rfl,?h7,?q7⟩
 case h7=>simp(disch:=decide) only[Tryz.results39,go_sem];all_goals rfl
 rfl
theorem Gz(l m:List UInt8)(c:Nat)(t:TypeId)(hm:m≠[])(hl:l.length+m.length<1000000000000):aN Tryz.prog 38 [.pointer (some ⟨0,0,none⟩),.slice (some ⟨2,0,none⟩) m.length c] (wd [(0,some (cR 0 1 l)),(1,some (bZ l)),(2,some (.cells (aF m) t (0,0)))] 3 [] 0) fun e W'=>e=.ret (.tuple #[.int .i64 (m.length:Int),.nilIface])/\∃b',3<=b'/\W'.get 0=some (cR 0 b' (l++m))/\W'.get b'=some (bZ (l++m)):=by
 refine be ga Tryz.func38 rfl (Nat.le_of_ble_eq_true rfl) ?_;simp only[aY.eq_1,aY.eq_2,bf,Tryz.ntmps38,reduceAdd];have hcc:=Fm (W:=wd [(0,some (cR 0 1 l)),(1,some (bZ l)),(2,some (.cells (aF m) t (0,0)))] 3 [] 0) (n:=0) (b:=1) (l:=l) (by rw[bO (by decide) (by decide),ab]);have hml:m.length≠0:=fun e=>hm (List.length_eq_zero_iff.1 e)
 have hsrc:fg (wd [(0,some (cR 0 1 l)),(1,some (bZ l)),(2,some (.cells (aF m) t (0,0)))] 3 [] 0) 1 m.length (.slice (some ⟨2,0,none⟩) m.length c)=some (aF m):=by
  show(bif Nat.beq m.length 0 then some []else match(wd [(0,some (cR 0 1 l)),(1,some (bZ l)),(2,some (.cells (aF m) t (0,0)))] 3 [] 0).get 2 with
   |some (.cells c _ _)=>bif Nat.beq ((c.drop 0).take (m.length*1)).length (m.length*1)then some ((c.drop 0).take (m.length*1))else none
   |_=>none)=_
  rw[bO (by decide) (by decide),aa (by decide),aa (by decide),ab,gk hml];simp only[cond_false,List.drop_zero,aak];rw[List.take_of_length_le (by rw[bK];exact Nat.le_refl _),bK,ZY];rfl
 simp only[cR,bZ]at hsrc;refine ae (ac (e:=?e1) (s':=?s1) ga ?h1 ?q1)
 case h1=>simp(disch:=decide) only[go_sem];all_goals rfl
 refine ae (ac ga (by simp(disch:=decide) only[NX,hcc,go_sem]<;>with_reducible rfl) ?_);refine ae (ac ga (by simp(disch:=first|decide|omega|(simp only[List.length_cons,List.length_nil,ZM,bK,ZR,ZV];omega)) only[cR,bZ,hsrc,u6,O5,go_sem]<;>with_reducible rfl) ?_);refine ae (ac (e:=?e4) (s':=?s4) ga ?h4 ?q4)
 case h4=>simp(disch:=decide) only[go_sem];all_goals rfl
 refine bh ?_;refine⟨_,?e5,?W5,rfl,?h5,?q5⟩
 case h5=>simp(disch:=decide) only[Tryz.results38,go_sem];all_goals rfl
 refine⟨rfl,3,by decide,?_,?_⟩
 ·simp(disch:=decide) only[cR,ZM,go_sem]
 simp(disch:=decide) only[bZ,go_sem]
def o8:PW:=fun xs l=>match xs with
 |[.int .u8 (.ofNat n)]=>bif Nat.blt n 256&&Nat.blt l.length 1000000000000 then some (.nilIface,l++[UInt8.ofNat n])else none
 |_=>none
theorem I7{n:Nat}{l:List UInt8}(hn:n<256)(hl:l.length<1000000000000):o8 [.int .u8 (n:Int)] l=some (.nilIface,l++[UInt8.ofNat n]):=by
 show(bif Nat.blt n 256&&Nat.blt l.length 1000000000000 then _ else none)=_;rw[jQ hn,jQ hl];rfl
theorem uR{xs:List Value}{l l':List UInt8}{v:Value}(h:o8 xs l=some (v,l')):∃n:Nat,xs=[.int .u8 (n:Int)]/\n<256/\l.length<1000000000000/\v=.nilIface/\l'=l++[UInt8.ofNat n]:=by
 unfold o8 at h;split at h
 ·rename_i n;cases hc:(Nat.blt n 256&&Nat.blt l.length 1000000000000)with
  |false=>rw[hc]at h;cases h
  |true=>
   rw[hc]at h;simp only[ZX]at hc;cases h;exact⟨n,rfl,Nat.le_of_ble_eq_true hc.1,Nat.le_of_ble_eq_true hc.2,rfl,rfl⟩
 cases h
theorem Nx:bD Tryz.prog 69 (po o8):=NR (enters_of (by kernel_rfl)) (fun xs l v l' h=>by
 obtain⟨n,rfl,_,_,rfl,rfl⟩:=uR h;exact⟨aw (aG 1 rfl) aQ,aG 8 rfl⟩) (fun xs l v l' h=>by
 obtain⟨n,rfl,hn,hl,rfl,rfl⟩:=uR h;exact zj l n hn hl)
def AG(n:Nat):Value:=.tuple #[.int .i64 (n:Int),.nilIface]
theorem F4{n:Nat}:dG (AG n):=fp (aw (aG 1 rfl) (aw (aG 8 rfl) aQ))
def BW:PS:=fun cs n l=>match dE cs with
 |some m=>bif Nat.blt 0 m.length&&Nat.beq m.length n&&Nat.blt (l.length+m.length) 1000000000000 then some (AG m.length,l++m)else none
 |none=>none
theorem Rt{m l:List UInt8}{n:Nat}(hm:0<m.length)(hn:m.length=n)(hl:l.length+m.length<1000000000000):BW (aF m) n l=some (AG m.length,l++m):=by
 unfold BW;rw[jB];simp only;rw[jQ hm,jQ hl,NU hn];rfl
theorem Yh:bD Tryz.prog 38 (Fp BW):=by
 have inv:∀cs n l v l',BW cs n l=some (v,l')->∃m,cs=aF m/\n=m.length/\m≠[]/\l.length+m.length<1000000000000/\v=AG m.length/\l'=l++m:=fun cs n l v l' h=>by
  unfold BW at h;cases hb:dE cs with
  |none=>rw[hb]at h;cases h
  |some m=>
   rw[hb]at h;simp only at h;cases hc:(Nat.blt 0 m.length&&Nat.beq m.length n&&Nat.blt (l.length+m.length) 1000000000000)with
   |false=>rw[hc]at h;cases h
   |true=>
    rw[hc]at h;simp only[ZX]at hc;cases h;refine⟨m,kf hb,(ZT hc.1.2).symm,fun e=>?_,Nat.le_of_ble_eq_true hc.2,rfl,rfl⟩;have:=Nat.le_of_ble_eq_true hc.1.1;rw[e]at this;exact absurd this (by decide)
 exact VX (enters_of (by kernel_rfl)) (fun cs n l v l' h=>by
  obtain⟨m,rfl,rfl,_,_,rfl,rfl⟩:=inv _ _ _ _ _ h;exact⟨dn _,F4⟩) (fun cs n c t l v l' hc h=>by
  obtain⟨m,rfl,rfl,hm,hl,rfl,rfl⟩:=inv _ _ _ _ _ h;exact Gz l m c t hm hl)
theorem Jf{p:PW}{xs:List Value}{l l':List UInt8}{v:Value}{W:XW}{w b:Nat}(hw:W.get w=some (cR w b l))(hb:W.get b=some (bZ l))(hwb:w≠b)(hp:p xs l=some (v,l')) :
 po p (.pointer (some ⟨w,0,none⟩)::xs) W=some (.ret v,((W.put b none).push (bZ l')).put w (some (cR w W.next l'))):=by
 show IG p xs W w (W.get w)=_;rw[hw];show(bif Nat.beq 84 84&&Nat.beq w w&&Nat.beq aM aM&&!(Nat.beq w b)then UA p xs W w b l.length (W.get b)else none)=_;rw[ZY,ZY,ZY,gk hwb,hb];show(bif Nat.beq 5 5 then RL p xs W w b l.length (dE (aF l))else none)=_;rw[ZY,jB];show(bif Nat.beq l.length l.length then NG W w b (p xs l)else none)=_;rw[ZY,hp];rfl
noncomputable def T8:List (FuncId×HF):=[(69,po o8)]
theorem kh:dv Tryz.prog (cE T8 []):=⟨mixed,bU (.cons _ _ _ Nx .nil) .nil⟩
def nP(b:Nat)(l:List UInt8):List (Nat×Option bb):=[(0,some (cR 0 b l)),(b,some (bZ l))]
theorem zf{b n N:Nat}{l:List UInt8}{lg:List Nat}{nl:Nat}(hb:b=1\/b=2)(hN:3<=N)(hN2:N<1000)(hn:n<256)(hl:l.length<1000000000000) :
 po o8 [.pointer (some ⟨0,0,none⟩),.int .u8 (n:Int)] (wd (nP b l) N lg nl)=some (.ret .nilIface,wd ((0,some (cR 0 N (l++[UInt8.ofNat n])))::(N,some (bZ (l++[UInt8.ofNat n])))::(b,none)::nP b l) (N+1) (0::b::lg) (nl+1+1)):=by
 have hw:(wd (nP b l) N lg nl).get 0=some (cR 0 b l):=by rw[bO (by omega) (by decide)];rfl
 have hr:(wd (nP b l) N lg nl).get b=some (bZ l):=by rw[bO (by omega) (by omega)];unfold nP;rw[aa (by omega),ab]
 rw[Jf hw hr (by omega) (I7 hn hl)];rfl
def dU(n:Nat):List UInt8:=if h:128<=n then UInt8.ofNat (n%128+128)::dU (n/128)else[UInt8.ofNat n]
termination_by n
decreasing_by omega
theorem xN{n:Nat}(h:128<=n):dU n=UInt8.ofNat (n%128+128)::dU (n/128):=by rw[dU,dif_pos h]
theorem oD{n:Nat}(h:n<128):dU n=[UInt8.ofNat n]:=by rw[dU,dif_neg (by omega)]
theorem Jm:∀(k n:Nat),n<128^(k+1)->(dU n).length<=k+1
 |0,n,h=>by rw[oD (by omega)];exact Nat.le_refl _
 |k+1,n,h=>by
  by_cases hn:128<=n
  ·rw[xN hn,List.length_cons];have:=Jm k (n/128) (by rw[Nat.pow_succ]at h;exact Nat.div_lt_of_lt_mul (by omega));omega
  rw[oD (by omega)];show 1<=_;omega
theorem wu{n:Nat}(h:n<18446744073709551616):(dU n).length<=10:=Jm 9 n (by
 have:(128:Nat)^(9+1)=1180591620717411303424:=rfl;omega)
def nI(l:List Nat):List Int:=List.map (fun(n:Nat)=>(n:Int)) l
theorem tD{l:List Nat}:(ao (some (nI l))).length=l.length:=aaq _
theorem KK{l:List Nat}{i:Nat}(h:i<l.length):(ao (some (nI l)))[i]'(by rw[tD];exact h)=(l[i]:Int):=List.getElem_map _
def eF(l:List Nat):List UInt8:=l.flatMap dU
theorem Dj{a b c:Nat}(ha:a<2^64)(hb:b<2^64)(hc:a ||| b=c)(hc2:c<2^63):mU .or .i64 (a:Int) (b:Int)=(c:Int):=by
 unfold mU;simp only;rw[zB,zB,BitVec.toNat_or,aaQ,aaQ,show a%2^IntKind.i64.bits=a from Nat.mod_eq_of_lt ha,show b%2^IntKind.i64.bits=b from Nat.mod_eq_of_lt hb,hc];exact wrap_i64 (by omega) (by omega)
structure Xi(ns:List Nat)(l0:List UInt8) where
 i:Nat
 b:Nat
 acc:List UInt8
 h:i<=ns.length
 hb:b=1\/b=2
 le:acc.length<=l0.length+10*i
 b2:0<i->b=2
 eq:acc++eF (ns.drop i)=l0++eF ns
structure Xf(n0:Nat)(l0:List UInt8) where
 n:Nat
 b:Nat
 acc:List UInt8
 hb:b=1\/b=2
 hn:n<9223372036854775808
 eq:acc++dU n=l0++dU n0
set_option maxHeartbeats 2000000 in
theorem A8(l0:List UInt8)(ns:List Nat)(h0:∀n∈ns,n<9223372036854775808)(hns:ns.length<=1000000)(hne:ns≠[])(hl0:l0.length<900000000000):aN Tryz.prog 34 [.pointer (some ⟨0,0,none⟩),al au (some (nI ns))] (wd [(0,some (cR 0 1 l0)),(1,some (bZ l0))] 2 [] 0) fun e W'=>e=.ret (.tuple #[])/\∃b',2<=b'/\W'.get 0=some (cR 0 b' (l0++eF ns))/\W'.get b'=some (bZ (l0++eF ns)):=by
 have hon:bk (al au (some (nI ns)))=true:=bL _;have hln:∀W,fm W (al au (some (nI ns))) (some (.slice 3))=some (.val (some (.int .i64 (ns.length:Int)))):=fun W=>by
  rw[<-tD];exact da _
 refine be kh Tryz.func34 rfl (Nat.le_of_ble_eq_true rfl) ?_;simp only[aY.eq_1,aY.eq_2,bf,Tryz.ntmps34,reduceAdd];refine ae (ac (e:=?e1) (s':=?s1) kh ?h1 ?q1)
 case h1=>simp(disch:=decide) only[hon,hln,go_sem];all_goals rfl
 refine aD ?_;refine aU (ak (F':=[(0,some (.pointer (some ⟨0,0,none⟩))),(6,some (al au (some (nI ns)))),(7,some (.int .i64 (ns.length:Int))),(8,some (.int .i64 ((0:Nat):Int)))]) (L':=nP 1 l0) (n':=3) (lg':=[]) (nl':=0) (by simp(disch:=decide) [ai,ab,aa,ag]) (by simp(disch:=decide) [ai,ab,aa,ag,nP]) (by decide)) ?_;refine bw (α:=Xi ns l0) (fun y=>⟨aI [(0,some (.pointer (some ⟨0,0,none⟩))),(6,some (al au (some (nI ns)))),(7,some (.int .i64 (ns.length:Int))),(8,some (.int .i64 (y.i:Int)))],wd (nP y.b y.acc) 3 [] 0,[]⟩) (fun y=>ns.length-y.i) ?_ ⟨0,1,l0,Z3 _,.inl rfl,Nat.le_refl _,fun h=>absurd h (Nat.lt_irrefl _),rfl⟩;intro ⟨i,b,acc,hi,hb,hle,hb0,heq⟩;simp only;by_cases hlt:i<ns.length
 ·obtain⟨n0,hn0⟩:∃n,n=ns[i]:=⟨_,rfl⟩;have hnb:=h0 n0 (by rw[hn0];exact aay hlt);have h10:=wu (n:=n0) (by omega);have hix:∀j,dB Tryz.prog (some (.slice 3)) (some (al au (some (nI ns)))) (some (.int j ((i:Nat):Int)))=some (.val (some (FP [.int .i64 (n0:Int)]))):=fun j=>by
   have hl2:i<(ao (some (nI ns))).length:=by rw[tD];exact hlt
   have:(ao (some (nI ns)))[i]=(n0:Int):=by rw[KK hlt,hn0]
   rw[show([.int .i64 (n0:Int)]:List Value)=au (ao (some (nI ns)))[i] by rw[this];rfl];exact kC hl2
  have hld:∀W a,fo Tryz.prog W 3 (FP [.int .i64 a])=some (.int .i64 a):=fun W a=>xF a
  have hnxt:eF (ns.drop i)=dU n0++eF (ns.drop (i+1)):=by rw[aac hlt,hn0];rfl
  rw[hnxt]at heq;refine ae (ac (e:=?e2) (s':=?s2) kh ?h2 ?q2)
  case h2=>simp(disch:=decide) only[go_sem];all_goals rfl
  refine ae (aZ (by simp(disch:=first|decide|omega) only[go_sem]<;>with_reducible rfl) ?_);refine aH ?_;refine ae (aD ?_);refine ae (ac (e:=?e4) (s':=?s4) kh ?h4 ?q4)
  case h4=>simp(disch:=decide) only[hix,hld,go_sem];all_goals rfl
  refine ae (aD ?_);refine aU (s':=⟨aI [(0,some (.pointer (some ⟨0,0,none⟩))),(6,some (al au (some (nI ns)))),(7,some (.int .i64 (ns.length:Int))),(8,some (.int .i64 (i:Int))),(5,some (.int .i64 (n0:Int)))],wd (nP b acc) 3 [] 0,[]⟩) (ak (by simp(disch:=decide) [ai,ab,aa,ag]) (by rcases hb with rfl|rfl<;>simp(disch:=decide) [ai,ab,aa,ag,nP]) (by decide)) ?_;refine bw (α:=Xf n0 acc) (fun x=>⟨aI [(0,some (.pointer (some ⟨0,0,none⟩))),(6,some (al au (some (nI ns)))),(7,some (.int .i64 (ns.length:Int))),(8,some (.int .i64 (i:Int))),(5,some (.int .i64 (x.n:Int)))],wd (nP x.b x.acc) 3 [] 0,[]⟩) (fun x=>x.n) ?_ ⟨n0,b,acc,hb,hnb,rfl⟩;intro ⟨n,b2,acc2,hb2,hn,heq2⟩;simp only;have hla:acc2.length+(dU n).length<=acc.length+10:=by have:=congrArg List.length heq2;rw[ZM,ZM]at this;omega
  refine ae ?_;by_cases hbig:128<=n
  ·have hor:mU .or .i64 ((n%128:Nat):Int) ((128:Nat):Int)=((n%128+128:Nat):Int):=Dj (by omega) (by decide) (by rw[show(128:Nat)=1*2^7 from rfl,Ir (by omega)]) (by omega);have hgo:=zf (N:=3) (lg:=[]) (nl:=0) hb2 (by decide) (by decide) (show n%128+128<256 by omega) (l:=acc2) (by omega);refine ae (ac (e:=?e5) (s':=?s5) kh ?h5 ?q5)
   case h5=>simp(disch:=decide) only[go_sem];all_goals rfl
   refine aZ (by simp(disch:=first|decide|omega) only[go_sem]<;>with_reducible rfl) ?_;refine aH ?_;refine ae (aD ?_);refine ac kh (by simp(disch:=first|decide|omega) only[T8,hor,hgo,go_sem]<;>with_reducible rfl) ?_;show bA _ _ _ _ _ _;refine ac (e:=?e8) (s':=?s8) kh ?h8 ?q8
   case h8=>simp(disch:=decide) only[go_sem];all_goals rfl
   refine⟨⟨n/2^7,2,acc2++[UInt8.ofNat (n%128+128)],.inr rfl,by omega,by rw[<-heq2,xN hbig,show n/2^7=n/128 from rfl];simp⟩,by simp only;omega,?_⟩;exact aV [(0,some 0),(3,some 2)] [(2,some 3)] (by decide) (by decide) (by decide)
    (af (by decide) rfl (ay rfl) (af (by decide) rfl (aB ba _ _ ah) (af (by decide) rfl (ar 1 rfl) (af (by decide) rfl (ar 1 rfl) (af (by decide) rfl (ar 1 rfl) aR)))))
    (aj 0 rfl (by decide) (by decide) rfl (bJ (ax (ay rfl) (ax (bI rfl) aX)))
    (aj 3 rfl (by decide) (by decide) rfl (de _ ah) bj)) .nil
  rw[oD (by omega)]at heq2;have hgo:=zf (N:=3) (lg:=[]) (nl:=0) hb2 (by decide) (by decide) (show n<256 by omega) (l:=acc2) (by omega);have hl2:=congrArg List.length heq2;rw[ZM,ZM]at hl2;refine ae (ac (e:=?e9) (s':=?s9) kh ?h9 ?q9)
  case h9=>simp(disch:=decide) only[go_sem];all_goals rfl
  refine aO (by simp(disch:=first|decide|omega) only[go_sem]<;>with_reducible rfl) ?_;refine bp ?_;show bA _ _ _ _ _ _;refine ac kh (by simp(disch:=first|decide|omega) only[T8,hgo,go_sem]<;>with_reducible rfl) ?_;show bA _ _ _ _ _ _;refine ac kh (by simp(disch:=first|decide|omega) only[go_sem]<;>with_reducible rfl) ?_;refine⟨⟨i+1,2,acc2++[UInt8.ofNat n],by omega,.inr rfl,?_,fun _=>rfl,?_⟩,by simp only;omega,?_⟩
  ·rw[heq2,ZM];omega
  ·rw[heq2,Z7];exact heq
  exact aV [(0,some 0),(3,some 2)] [(2,some 3)] (by decide) (by decide) (by decide)
   (af (v:=.pointer (some ⟨0,0,none⟩)) (by decide) (by simp(disch:=first|decide|omega) only[ab,aa]) (ay (by simp(disch:=first|decide|omega) only[ab,aa])) (af (v:=al au (some (nI ns))) (by decide) (by simp(disch:=first|decide|omega) only[ab,aa]) (aB ba _ _ ah) (af (v:=.int .i64 (ns.length:Int)) (by decide) (by simp(disch:=first|decide|omega) only[ab,aa]) (ar 1 rfl) (af (v:=.int .i64 ((i+1:Nat):Int)) (by decide) (by simp(disch:=first|decide|omega) only[ab,aa]) (ar 1 rfl) aR))))
   (aj 0 rfl (by decide) (by decide) rfl (bJ (ax (ay rfl) (ax (bI rfl) aX)))
   (aj 3 rfl (by decide) (by decide) rfl (de _ ah) bj)) .nil
 have ei:i=ns.length:=by omega
 rw[Z5 (by omega)]at heq;have heq:acc=l0++eF ns:=by rw[<-heq];unfold eF;simp
 rw[<-heq];refine ae (ac (e:=?e13) (s':=?s13) kh ?h13 ?q13)
 case h13=>simp(disch:=decide) only[go_sem];all_goals rfl
 refine ae (aO (by simp(disch:=first|decide|omega) only[go_sem]<;>with_reducible rfl) ?_);refine bp ?_;refine⟨_,?e15,?W15,rfl,?h15,?q15⟩
 case h15=>simp(disch:=decide) only[Tryz.results34,go_sem];all_goals rfl
 have hnl:ns.length≠0:=fun e=>hne (List.length_eq_zero_iff.1 e)
 have hb3:=hb0 (by omega);refine⟨rfl,b,by omega,?_,?_⟩
 ·rw[bO (by decide) (by decide)];rfl
 rw[bO (by omega) (by omega)];unfold nP;rw[aa (by omega),ab]
theorem KG:∀{l l':List Nat},nI l=nI l'->l=l'
 |[],[],_=>rfl
 |[],b::l',h=>by cases h
 |a::l,[],h=>by cases h
 |a::l,b::l',h=>by
  have h:((a:Int)::nI l)=((b:Int)::nI l'):=h;injection h with h1 h2;rw[Int.ofNat.inj h1,KG h2]
def qK(ns:List Nat)(l:List UInt8):Prop:=(∀n∈ns,n<9223372036854775808)/\ns.length<=1000000/\ns≠[]/\l.length<900000000000
open Classical in
noncomputable def pp:PW:=fun xs l=>if h:∃ns:List Nat,xs=[al au (some (nI ns))]/\qK ns l then some (.tuple #[],l++eF (Classical.choose h))else none
theorem Kq{ns:List Nat}{l:List UInt8}(h:qK ns l):pp [al au (some (nI ns))] l=some (.tuple #[],l++eF ns):=by
 have hx:∃ms:List Nat,[al au (some (nI ns))]=[al au (some (nI ms))]/\qK ms l:=⟨ns,rfl,h⟩;have e:pp [al au (some (nI ns))] l=some (.tuple #[],l++eF (Classical.choose hx)):=dif_pos hx;have h2:=(ZQ hx).1;injection h2 with h2 _;have h3:=fQ dA mB (aan 0) h2;injection h3 with h3;rw[e,<-KG h3]
theorem XI:bD Tryz.prog 34 (po pp):=by
 have inv:∀xs l v l',pp xs l=some (v,l')->∃ns:List Nat,xs=[al au (some (nI ns))]/\qK ns l/\v=.tuple #[]/\l'=l++eF ns:=fun xs l v l' h=>by
  unfold pp at h;split at h
  ·rename_i hx;cases h;exact⟨_,(ZQ hx).1,(ZQ hx).2,rfl,rfl⟩
  cases h
 exact NR (enters_of (by kernel_rfl)) (fun xs l v l' h=>by
  obtain⟨ns,rfl,_,rfl,rfl⟩:=inv _ _ _ _ h;exact⟨aw (aB ba _) aQ,aG 8 rfl⟩) (fun xs l v l' h=>by
  obtain⟨ns,rfl,⟨h1,h2,h3,h4⟩,rfl,rfl⟩:=inv _ _ _ _ h;exact A8 l ns h1 h2 h3 h4)
def Xs(W:XW)(w b:Nat):Option Value->Option (cz×XW)
 |some v=>some (.ret v,(W.put w none).put b none)
 |none=>none
def RF(p:PQ)(xs:List Value)(W:XW)(w b n:Nat):Option (List UInt8)->Option (cz×XW)
 |some l=>bif Nat.beq l.length n then Xs W w b (p xs l)else none
 |none=>none
def Ud(p:PQ)(xs:List Value)(W:XW)(w b n:Nat):Option bb->Option (cz×XW)
 |some (.cells cs e (0,0))=>bif Nat.beq e 5 then RF p xs W w b n (dE cs)else none
 |_=>none
def SD(p:PQ)(xs:List Value)(W:XW)(w:Nat):Option bb->Option (cz×XW)
 |some (.cells [.pointer (some ⟨w',0,none⟩),.slice (some ⟨b,0,none⟩) n c] e (0,0))=>bif Nat.beq e 84&&Nat.beq w' w&&Nat.beq c aM&&!(Nat.beq w b)then Ud p xs W w b n (W.get b)else none
 |_=>none
def vt(p:PQ):HF:=fun args W=>match args with
 |.pointer (some ⟨w,0,none⟩)::xs=>SD p xs W w (W.get w)
 |_=>none
theorem Ff{p:PQ}{args:List Value}{W W':XW}{e:cz}(h:vt p args W=some (e,W')):∃w b xs l v,args=.pointer (some ⟨w,0,none⟩)::xs/\w≠b/\W.get w=some (cR w b l)/\W.get b=some (bZ l)/\p xs l=some v/\e=.ret v/\W'=(W.put w none).put b none:=by
 unfold vt at h;split at h
 ·rename_i w xs;unfold SD at h;split at h
  ·rename_i w' b n c t hg;cases hc:(Nat.beq t 84&&Nat.beq w' w&&Nat.beq c aM&&!(Nat.beq w b))with
   |false=>rw[hc]at h;cases h
   |true=>
    rw[hc]at h;simp only[ZX,aaE]at hc;obtain⟨⟨⟨e1,e2⟩,e3⟩,e4⟩:=hc;have e1:=ZT e1;have e2:=ZT e2;have e3:=ZT e3;subst e1 e2 e3;simp only[cond_true]at h;unfold Ud at h;split at h
    ·rename_i cs t' hb;cases ht:Nat.beq t' 5 with
     |false=>rw[ht]at h;cases h
     |true=>
      rw[ht]at h;have:=ZT ht;subst this;simp only[cond_true]at h;cases hl:dE cs with
      |none=>rw[hl]at h;cases h
      |some l=>
       rw[hl]at h;unfold RF at h;cases hn:Nat.beq l.length n with
       |false=>simp only[hn]at h;cases h
       |true=>
        simp only[hn,cond_true]at h;have:=ZT hn;subst this;cases hp:p xs l with
        |none=>rw[hp]at h;cases h
        |some q=>
         rw[hp]at h;cases h;refine⟨w',b,xs,l,q,rfl,fun q=>?_,hg,by rw[hb,kf hl];rfl,hp,rfl,rfl⟩;subst q;rw[ZY]at e4;cases e4
    cases h
  cases h
 cases h
theorem WN{p:PQ}{f:FuncId}(he:fi Tryz.prog f)(hb:∀xs l v,p xs l=some v->dt xs/\dG v)
 (hl:∀xs l v,p xs l=some v->aN Tryz.prog f (.pointer (some ⟨0,0,none⟩)::xs) (wd [(0,some (cR 0 1 l)),(1,some (bZ l))] 2 [] 0) fun e W'=>e=.ret v):bD Tryz.prog f (vt p):=by
 refine⟨he,fun args W e W' h=>?_,fun args W e W' h=>?_⟩
 ·obtain⟨w,b,xs,l,v,_,_,_,_,_,_,rfl⟩:=Ff h;exact(cK.put _ _ _).trans (cK.put _ _ _)
 obtain⟨w,b,xs,l,v,rfl,hwb,hw,hr,hp,rfl,rfl⟩:=Ff h;have hwn:=cw hw;have hbn:=cw hr;have t0:(fun n=>if n=w then some 0 else if n=b then some 1 else(none:Option Nat)) w=some 0:=if_pos rfl;have t1:(fun n=>if n=w then some 0 else if n=b then some 1 else(none:Option Nat)) b=some 1:=by simp only[if_neg (Ne.symm hwb),if_pos]
 refine mj (k:=2) (fun m=>if m=0 then w else b) (fun n=>if n=w then some 0 else if n=b then some 1 else none) rfl (fun m m' h h' e=>?_) (fun m h=>?_) (fun n m h=>?_) (fun m oL h=>?_) (ax (ay t0) ((hb _ _ _ hp).1 _ ah)) (hl _ _ _ hp) (fun eL WL' hS=>?_)
 ·by_cases h0:m=0<;>by_cases h1:m'=0<;>simp only[h0,h1,if_true,if_false]at e ⊢
  ·exact absurd e hwb
  ·exact absurd e.symm hwb
  omega
 ·split<;>omega
 ·split at h
  ·rename_i q;cases h;exact⟨by decide,q.symm⟩
  split at h
  ·rename_i q;cases h;exact⟨by decide,q.symm⟩
  cases h
 ·have hm:m<2:=cw h;obtain⟨_,h2⟩:=dV h;have:m=0\/m=1:=by omega
  rcases this with rfl|rfl
  ·rw[ab]at h2;cases h2;exact⟨by decide,_,hw,bJ (ax (ay t0) (ax (bI t1) aX))⟩
  rw[aa (by decide),ab]at h2;cases h2;exact⟨by decide,_,hr,de _ ah⟩
 have hS:eL=.ret v:=hS;subst hS;refine⟨fun _=>none,fun m x h=>(by cases h),fun m m' x h h'=>(by cases h),fun x o' hx=>?_,(hb _ _ _ hp).2 _ ah,Nat.le_refl _⟩;rcases XW.get_put hx with⟨_,z⟩|⟨z1,z2⟩
 ·cases z
 rcases XW.get_put z2 with⟨_,y⟩|⟨y1,y2⟩
 ·cases y
 refine .inr ⟨y2,cw y2,fun m hm=>?_⟩;split
 ·exact fun q=>y1 q.symm
 exact fun q=>z1 q.symm
def rW:PQ:=fun xs l=>match xs with
 |[]=>bif Nat.blt 0 l.length&&Nat.blt l.length 1000000000000 then some (.string (str l))else none
 |_=>none
theorem ye{l:List UInt8}(h0:0<l.length)(hl:l.length<1000000000000):rW [] l=some (.string (str l)):=by
 show(bif Nat.blt 0 l.length&&Nat.blt l.length 1000000000000 then _ else none)=_;rw[jQ h0,jQ hl];rfl
theorem Oc:bD Tryz.prog 39 (vt rW):=by
 have inv:∀xs l v,rW xs l=some v->xs=[]/\l≠[]/\l.length<1000000000000/\v=.string (str l):=fun xs l v h=>by
  unfold rW at h;split at h
  ·cases hc:(Nat.blt 0 l.length&&Nat.blt l.length 1000000000000)with
   |false=>rw[hc]at h;cases h
   |true=>
    rw[hc]at h;simp only[ZX]at hc;cases h;refine⟨rfl,fun e=>?_,Nat.le_of_ble_eq_true hc.2,rfl⟩;have:=Nat.le_of_ble_eq_true hc.1;rw[e]at this;exact absurd this (by decide)
  cases h
 exact WN (enters_of (by kernel_rfl)) (fun xs l v h=>by
  obtain⟨rfl,_,_,rfl⟩:=inv _ _ _ h;exact⟨aQ,aG 1 rfl⟩) (fun xs l v h=>by
  obtain⟨rfl,h0,hl,rfl⟩:=inv _ _ _ h;exact Ed l h0 hl)
def jG:bb:=.cells [.pointer none,.slice none 0 0] 84 (0,0)
theorem Ms:FJ [.pointer (some ⟨0,0,none⟩)] (wd [(0,some jG)] 1 [] 0)=some (.ret (.tuple #[]),wd [(0,some (.cells [.pointer (some ⟨0,0,none⟩),.slice none 0 0] 84 (0,0))),(0,some jG)] 1 [0] 1):=by kernel_rfl
theorem wI(n:Nat)(hn:n<256):aN Tryz.prog 69 [.pointer (some ⟨0,0,none⟩),.int .u8 (n:Int)] (wd [(0,some jG)] 1 [] 0) fun e W'=>e=.ret .nilIface/\∃b',1<=b'/\W'.get 0=some (cR 0 b' [UInt8.ofNat n])/\W'.get b'=some (bZ [UInt8.ofNat n]):=by
 refine be ga Tryz.func69 rfl (Nat.le_of_ble_eq_true rfl) ?_;simp only[aY.eq_1,aY.eq_2,bf,Tryz.ntmps69,reduceAdd];have hb1:[Value.int .u8 ((n:Nat):Int)]=aF [UInt8.ofNat n]:=A4 (l:=[]) hn;refine ae (ac (e:=?e1) (s':=?s1) ga ?h1 ?q1)
 case h1=>simp(disch:=decide) only[go_sem];all_goals rfl
 refine ae (ac (e:=?e2) (s':=?s2) ga ?h2 ?q2)
 case h2=>simp(disch:=decide) only[NX,Ms,go_sem];all_goals rfl
 refine ae (ac (e:=?e3) (s':=?s3) ga ?h3 ?q3)
 case h3=>simp(disch:=decide) only[go_sem];all_goals rfl
 refine ae (ac (e:=?e4) (s':=?s4) ga ?h4 ?q4)
 case h4=>simp(disch:=decide) only[go_sem];all_goals rfl
 refine bh ?_;refine⟨_,?e5,?W5,rfl,?h5,?q5⟩
 case h5=>simp(disch:=decide) only[Tryz.results69,go_sem];all_goals rfl
 refine⟨rfl,2,by decide,?_,?_⟩
 ·simp(disch:=decide) only[cR,go_sem]
 simp(disch:=decide) only[bZ,go_sem];rw[hb1]
def UH(W:XW)(w:Nat):Option (Value×List UInt8)->Option (cz×XW)
 |some (v,l)=>some (.ret v,(W.push (bZ l)).put w (some (cR w W.next l)))
 |none=>none
def TH(p:PW)(xs:List Value)(W:XW)(w:Nat):Option bb->Option (cz×XW)
 |some (.cells [.pointer none,.slice none 0 0] e (0,0))=>bif Nat.beq e 84 then UH W w (p xs [])else none
 |_=>none
def vJ(p:PW):HF:=fun args W=>match args with
 |.pointer (some ⟨w,0,none⟩)::xs=>TH p xs W w (W.get w)
 |_=>none
theorem Ia{p:PW}{xs:List Value}{v:Value}{l:List UInt8}{W:XW}{w:Nat}(hw:W.get w=some jG)(hp:p xs []=some (v,l)):vJ p (.pointer (some ⟨w,0,none⟩)::xs) W=some (.ret v,(W.push (bZ l)).put w (some (cR w W.next l))):=by
 show TH p xs W w (W.get w)=_;rw[hw];show(bif Nat.beq 84 84 then UH W w (p xs [])else none)=_;rw[ZY,hp];rfl
theorem N5{f:FuncId}{p:PW}(he:fi Tryz.prog f)(hb:∀xs v l,p xs []=some (v,l)->dt xs/\dG v)
 (hl:∀xs v l,p xs []=some (v,l)->aN Tryz.prog f (.pointer (some ⟨0,0,none⟩)::xs) (wd [(0,some jG)] 1 [] 0) fun e W'=>e=.ret v/\∃b',1<=b'/\W'.get 0=some (cR 0 b' l)/\W'.get b'=some (bZ l)):bD Tryz.prog f (vJ p):=by
 have inv:∀args W e W',vJ p args W=some (e,W')->∃(w:Nat) (xs:List Value) (v:Value) (l:List UInt8),args=.pointer (some ⟨w,0,none⟩)::xs/\p xs []=some (v,l)/\W.get w=some jG/\e=.ret v/\W'=(W.push (bZ l)).put w (some (cR w W.next l)):=fun args W e W' h=>by
  unfold vJ at h;split at h
  ·rename_i w xs;unfold TH at h;split at h
   ·rename_i t hg;cases hc:Nat.beq t 84 with
    |false=>rw[hc]at h;cases h
    |true=>
     rw[hc]at h;have:=ZT hc;subst this;have h:UH W w (p xs [])=some (e,W'):=h;cases hp:p xs []with
     |none=>rw[hp]at h;cases h
     |some q=>
      obtain⟨v,l⟩:=q;rw[hp]at h;cases h;exact⟨w,xs,v,l,rfl,hp,hg,rfl,rfl⟩
   cases h
  cases h
 refine⟨he,fun args W e W' h=>?_,fun args W e W' h=>?_⟩
 ·obtain⟨w,xs,v,l,_,_,_,_,rfl⟩:=inv _ _ _ _ h;exact(cK.push _ _).trans (cK.put _ _ _)
 obtain⟨w,xs,v,l,rfl,hp,hw,rfl,rfl⟩:=inv _ _ _ _ h;have hwn:=cw hw;obtain⟨hbx,hbv⟩:=hb _ _ _ hp;refine mj (k:=1) (fun _=>w) (only w) rfl (fun m m' h h' _=>by omega) (fun m h=>hwn) (fun x m h=>by
  unfold only at h;split at h
  ·rename_i q;cases h;exact⟨by omega,q.symm⟩
  ·cases h) (fun m oL h=>by
  have hm:m<1:=cw h;have:m=0:=by omega
  subst this;rw[bO (by omega) (by omega),ab]at h;cases h;exact⟨by omega,_,hw,bc (aw (aG 8 rfl) (aw (aG 8 rfl) aQ)) _ ah⟩) (ax (ay ip) (hbx _ ah)) (hl _ _ _ hp) (fun eL WL' hS=>?_)
 obtain⟨rfl,b',hb2,g0,g1⟩:=hS;have s0:(fun m=>if m=0 then some w else if m=b' then some W.next else(none:Option Nat)) 0=some w:=if_pos rfl;have s1:(fun m=>if m=0 then some w else if m=b' then some W.next else(none:Option Nat)) b'=some W.next:=by simp only[if_neg (show ¬b'=0 by omega),if_pos]
 refine⟨fun m=>if m=0 then some w else if m=b' then some W.next else none,fun m x h=>?_,fun m m' x h h'=>?_,fun x o' h=>?_,hbv _ ah,aaX _⟩
 ·split at h
  ·rename_i q;cases h;exact .inl ⟨by omega,rfl⟩
  split at h
  ·rename_i q;cases h;exact .inr ⟨by omega,Nat.le_refl _,aan _⟩
  cases h
 ·split at h
  ·split at h'
   ·omega
   split at h'
   ·cases h;cases h';omega
   cases h'
  split at h
  ·split at h'
   ·cases h;cases h';omega
   split at h'
   ·omega
   cases h'
  cases h
 rcases XW.get_put h with⟨rfl,q⟩|⟨q1,q2⟩
 ·cases q;exact .inl ⟨0,_,s0,g0,bJ (ax (ay s0) (ax (bI s1) aX))⟩
 rcases XW.get_push q2 with⟨e1,e2⟩|⟨e1,e2⟩
 ·subst e2;exact .inl ⟨b',_,by rw[e1];exact s1,g1,de _ ah⟩
 exact .inr ⟨e2,cw e2,fun m hm=>fun z=>q1 z.symm⟩
theorem Va:bD Tryz.prog 69 (vJ o8):=by
 refine N5 (enters_of (by kernel_rfl)) (fun xs v l h=>?_) (fun xs v l h=>?_)
 ·obtain⟨n,rfl,hn,_,rfl,rfl⟩:=uR h;exact⟨aw (aG 1 rfl) aQ,aG 8 rfl⟩
 obtain⟨n,rfl,hn,_,rfl,rfl⟩:=uR h;exact wI n hn
theorem X9:bD Tryz.prog 69 (ju (po o8) (vJ o8)):=o6 Nx Va
def sM(b:Nat):List UInt8->List (Nat×Option bb)
 |[]=>[(0,some jG)]
 |x::l=>nP b (x::l)
theorem Hw{b:Nat}{l:List UInt8}(h:l≠[]):sM b l=nP b l:=by
 cases l with
 |nil=>exact absurd rfl h
 |cons x l=>rfl
theorem BR{b:Nat}{l:List UInt8}{x:UInt8}:sM b (l++[x])=nP b (l++[x]):=Hw (by simp)
theorem A3(n:Nat):0<(dU n).length:=by
 by_cases h:128<=n
 ·rw[xN h];exact Nat.succ_pos _
 rw[oD (by omega)];exact Nat.succ_pos _
noncomputable def Xp:HF:=ju (po o8) (vJ o8)
noncomputable def T3:List (FuncId×HF):=[(69,Xp)]
theorem jW:dv Tryz.prog (cE T3 []):=⟨mixed,bU (.cons _ _ _ X9 .nil) .nil⟩
theorem Bx{b n:Nat}{l:List UInt8}(hb:b=1\/b=2)(hn:n<256)(hl:l.length<1000000000000) :
 ∃W',Xp [.pointer (some ⟨0,0,none⟩),.int .u8 (n:Int)] (wd (sM b l) 3 [] 0)=some (.ret .nilIface,W')/\W'.next=4/\W'.get 0=some (cR 0 3 (l++[UInt8.ofNat n]))/\W'.get 3=some (bZ (l++[UInt8.ofNat n])):=by
 cases l with
 |nil=>
  have h0:po o8 [.pointer (some ⟨0,0,none⟩),.int .u8 (n:Int)] (wd (sM b []) 3 [] 0)=none:=by show IG o8 [.int .u8 (n:Int)] (wd [(0,some jG)] 3 [] 0) 0 ((wd [(0,some jG)] 3 [] 0).get 0)=none;rw[bO (by decide) (by decide),ab];rfl
  have h1:=Ia (p:=o8) (W:=wd (sM b []) 3 [] 0) (w:=0) (by show(wd [(0,some jG)] 3 [] 0).get 0=_;rw[bO (by decide) (by decide),ab]) (I7 (l:=[]) hn (by decide));refine⟨_,pj h0 h1,rfl,?_,?_⟩
  ·simp only[gR,di,bf];rw[bO (by decide) (by decide),ab]
  simp only[gR,di,bf];rw[bO (by decide) (by decide),aa (by decide),ab]
 |cons x l=>
  have h1:=zf (N:=3) (lg:=[]) (nl:=0) hb (by decide) (by decide) hn hl;exact⟨_,iH h1,rfl,by rw[bO (by decide) (by decide),ab],by rw[bO (by decide) (by decide),aa (by decide),ab]⟩
set_option maxHeartbeats 2000000 in
theorem Aw(ns:List Nat)(h0:∀n∈ns,n<9223372036854775808)(hns:ns.length<=1000000)(hne:ns≠[]):aN Tryz.prog 34 [.pointer (some ⟨0,0,none⟩),al au (some (nI ns))] (wd [(0,some jG)] 1 [] 0) fun e W'=>e=.ret (.tuple #[])/\∃b',1<=b'/\W'.get 0=some (cR 0 b' (eF ns))/\W'.get b'=some (bZ (eF ns)):=by
 obtain⟨l0,hl0e⟩:∃l0:List UInt8,l0=[]:=⟨_,rfl⟩;have hl0:l0.length<900000000000:=by rw[hl0e];decide
 have hon:bk (al au (some (nI ns)))=true:=bL _;have hln:∀W,fm W (al au (some (nI ns))) (some (.slice 3))=some (.val (some (.int .i64 (ns.length:Int)))):=fun W=>by
  rw[<-tD];exact da _
 refine be jW Tryz.func34 rfl (Nat.le_of_ble_eq_true rfl) ?_;simp only[aY.eq_1,aY.eq_2,bf,Tryz.ntmps34,reduceAdd];refine ae (ac (e:=?e1) (s':=?s1) jW ?h1 ?q1)
 case h1=>simp(disch:=decide) only[hon,hln,go_sem];all_goals rfl
 refine aD ?_;refine aU (ak (F':=[(0,some (.pointer (some ⟨0,0,none⟩))),(6,some (al au (some (nI ns)))),(7,some (.int .i64 (ns.length:Int))),(8,some (.int .i64 ((0:Nat):Int)))]) (L':=sM 1 []) (n':=3) (lg':=[]) (nl':=0) (by simp(disch:=decide) [ai,ab,aa,ag]) (by simp(disch:=decide) [ai,ab,aa,ag,sM]) (by decide)) ?_;rw[show sM 1 []=sM 1 l0 by rw[hl0e]];refine bw (α:=Xi ns l0) (fun y=>⟨aI [(0,some (.pointer (some ⟨0,0,none⟩))),(6,some (al au (some (nI ns)))),(7,some (.int .i64 (ns.length:Int))),(8,some (.int .i64 (y.i:Int)))],wd (sM y.b y.acc) 3 [] 0,[]⟩) (fun y=>ns.length-y.i) ?_ ⟨0,1,l0,Z3 _,.inl rfl,Nat.le_refl _,fun h=>absurd h (Nat.lt_irrefl _),rfl⟩;intro ⟨i,b,acc,hi,hb,hle,hb0,heq⟩;simp only;by_cases hlt:i<ns.length
 ·obtain⟨n0,hn0⟩:∃n,n=ns[i]:=⟨_,rfl⟩;have hnb:=h0 n0 (by rw[hn0];exact aay hlt);have h10:=wu (n:=n0) (by omega);have hix:∀j,dB Tryz.prog (some (.slice 3)) (some (al au (some (nI ns)))) (some (.int j ((i:Nat):Int)))=some (.val (some (FP [.int .i64 (n0:Int)]))):=fun j=>by
   have hl2:i<(ao (some (nI ns))).length:=by rw[tD];exact hlt
   have:(ao (some (nI ns)))[i]=(n0:Int):=by rw[KK hlt,hn0]
   rw[show([.int .i64 (n0:Int)]:List Value)=au (ao (some (nI ns)))[i] by rw[this];rfl];exact kC hl2
  have hld:∀W a,fo Tryz.prog W 3 (FP [.int .i64 a])=some (.int .i64 a):=fun W a=>xF a
  have hnxt:eF (ns.drop i)=dU n0++eF (ns.drop (i+1)):=by rw[aac hlt,hn0];rfl
  rw[hnxt]at heq;refine ae (ac (e:=?e2) (s':=?s2) jW ?h2 ?q2)
  case h2=>simp(disch:=decide) only[go_sem];all_goals rfl
  refine ae (aZ (by simp(disch:=first|decide|omega) only[go_sem]<;>with_reducible rfl) ?_);refine aH ?_;refine ae (aD ?_);refine ae (ac (e:=?e4) (s':=?s4) jW ?h4 ?q4)
  case h4=>simp(disch:=decide) only[hix,hld,go_sem];all_goals rfl
  refine ae (aD ?_);refine aU (s':=⟨aI [(0,some (.pointer (some ⟨0,0,none⟩))),(6,some (al au (some (nI ns)))),(7,some (.int .i64 (ns.length:Int))),(8,some (.int .i64 (i:Int))),(5,some (.int .i64 (n0:Int)))],wd (sM b acc) 3 [] 0,[]⟩) (u5 (by simp(disch:=decide) [ai,ab,aa,ag])) ?_;refine bw (α:=Xf n0 acc) (fun x=>⟨aI [(0,some (.pointer (some ⟨0,0,none⟩))),(6,some (al au (some (nI ns)))),(7,some (.int .i64 (ns.length:Int))),(8,some (.int .i64 (i:Int))),(5,some (.int .i64 (x.n:Int)))],wd (sM x.b x.acc) 3 [] 0,[]⟩) (fun x=>x.n) ?_ ⟨n0,b,acc,hb,hnb,rfl⟩;intro ⟨n,b2,acc2,hb2,hn,heq2⟩;simp only;have hla:acc2.length+(dU n).length<=acc.length+10:=by have:=congrArg List.length heq2;rw[ZM,ZM]at this;omega
  refine ae ?_;by_cases hbig:128<=n
  ·have hor:mU .or .i64 ((n%128:Nat):Int) ((128:Nat):Int)=((n%128+128:Nat):Int):=Dj (by omega) (by decide) (by rw[show(128:Nat)=1*2^7 from rfl,Ir (by omega)]) (by omega);obtain⟨W2,hgo,hw2,hw0,hw3⟩:=Bx hb2 (show n%128+128<256 by omega) (l:=acc2) (by omega);refine ae (ac (e:=?e5) (s':=?s5) jW ?h5 ?q5)
   case h5=>simp(disch:=decide) only[go_sem];all_goals rfl
   refine aZ (by simp(disch:=first|decide|omega) only[go_sem]<;>with_reducible rfl) ?_;refine aH ?_;refine ae (aD ?_);refine ac jW (by simp(disch:=first|decide|omega) only[T3,hor,hgo,go_sem]<;>with_reducible rfl) ?_;show bA _ _ _ _ _ _;refine aU (iF (L:=[(0,some (cR 0 3 (acc2++[UInt8.ofNat (n%128+128)]))),(3,some (bZ (acc2++[UInt8.ofNat (n%128+128)])))]) (n':=4) (lg:=[]) (nl:=0) (by rw[hw2];exact Nat.le_refl _) fun n o e=>?_) ?_
   ·have hcases:=bX e;simp only[ZU,ZS,or_false,Prod.mk.injEq,Option.some.injEq]at hcases;rcases hcases with⟨rfl,rfl⟩|⟨rfl,rfl⟩<;>assumption
   refine ac (e:=?e8) (s':=?s8) jW ?h8 ?q8
   case h8=>simp(disch:=decide) only[go_sem];all_goals rfl
   refine⟨⟨n/2^7,2,acc2++[UInt8.ofNat (n%128+128)],.inr rfl,by omega,by rw[<-heq2,xN hbig,show n/2^7=n/128 from rfl];simp⟩,by simp only;omega,?_⟩;simp only;rw[BR];exact aV [(0,some 0),(3,some 2)] [(2,some 3)] (by decide) (by decide) (by decide)
    (af (by decide) rfl (ay rfl) (af (by decide) rfl (aB ba _ _ ah) (af (by decide) rfl (ar 1 rfl) (af (by decide) rfl (ar 1 rfl) (af (by decide) rfl (ar 1 rfl) aR)))))
    (aj 0 rfl (by decide) (by decide) rfl (bJ (ax (ay rfl) (ax (bI rfl) aX)))
    (aj 3 rfl (by decide) (by decide) rfl (de _ ah) bj)) .nil
  rw[oD (by omega)]at heq2;obtain⟨W2,hgo,hw2,hw0,hw3⟩:=Bx hb2 (show n<256 by omega) (l:=acc2) (by omega);have hl2:=congrArg List.length heq2;rw[ZM,ZM]at hl2;refine ae (ac (e:=?e9) (s':=?s9) jW ?h9 ?q9)
  case h9=>simp(disch:=decide) only[go_sem];all_goals rfl
  refine aO (by simp(disch:=first|decide|omega) only[go_sem]<;>with_reducible rfl) ?_;refine bp ?_;show bA _ _ _ _ _ _;refine ac jW (by simp(disch:=first|decide|omega) only[T3,hgo,go_sem]<;>with_reducible rfl) ?_;show bA _ _ _ _ _ _;refine aU (iF (L:=[(0,some (cR 0 3 (acc2++[UInt8.ofNat n]))),(3,some (bZ (acc2++[UInt8.ofNat n])))]) (n':=4) (lg:=[]) (nl:=0) (by rw[hw2];exact Nat.le_refl _) fun n o e=>?_) ?_
  ·have hcases:=bX e;simp only[ZU,ZS,or_false,Prod.mk.injEq,Option.some.injEq]at hcases;rcases hcases with⟨rfl,rfl⟩|⟨rfl,rfl⟩<;>assumption
  refine ac jW (by simp(disch:=first|decide|omega) only[go_sem]<;>with_reducible rfl) ?_;refine⟨⟨i+1,2,acc2++[UInt8.ofNat n],by omega,.inr rfl,?_,fun _=>rfl,?_⟩,by simp only;omega,?_⟩
  ·rw[heq2,ZM];omega
  ·rw[heq2,Z7];exact heq
  simp only;rw[BR];exact aV [(0,some 0),(3,some 2)] [(2,some 3)] (by decide) (by decide) (by decide)
   (af (v:=.pointer (some ⟨0,0,none⟩)) (by decide) (by simp(disch:=first|decide|omega) only[ab,aa]) (ay (by simp(disch:=first|decide|omega) only[ab,aa])) (af (v:=al au (some (nI ns))) (by decide) (by simp(disch:=first|decide|omega) only[ab,aa]) (aB ba _ _ ah) (af (v:=.int .i64 (ns.length:Int)) (by decide) (by simp(disch:=first|decide|omega) only[ab,aa]) (ar 1 rfl) (af (v:=.int .i64 ((i+1:Nat):Int)) (by decide) (by simp(disch:=first|decide|omega) only[ab,aa]) (ar 1 rfl) aR))))
   (aj 0 rfl (by decide) (by decide) rfl (bJ (ax (ay rfl) (ax (bI rfl) aX)))
   (aj 3 rfl (by decide) (by decide) rfl (de _ ah) bj)) .nil
 have ei:i=ns.length:=by omega
 rw[Z5 (by omega)]at heq;have heq:acc=l0++eF ns:=by rw[<-heq];unfold eF;simp
 have hnl:ns.length≠0:=fun e=>hne (List.length_eq_zero_iff.1 e)
 have hb3:=hb0 (by omega);subst hb3;have hac:acc=eF ns:=by rw[heq,hl0e];rfl
 rw[<-hac];have hnil:acc≠[]:=fun e=>by
  rw[e]at hac;rcases ns with _|⟨n,ns⟩
  ·exact hne rfl
  have:=congrArg List.length hac;unfold eF at this;rw[Z8,ZM]at this;have h1:=A3 n;simp only[List.length_nil]at this;omega
 rw[Hw hnil];refine ae (ac (e:=?e13) (s':=?s13) jW ?h13 ?q13)
 case h13=>simp(disch:=decide) only[go_sem];all_goals rfl
 refine ae (aO (by simp(disch:=first|decide|omega) only[go_sem]<;>with_reducible rfl) ?_);refine bp ?_;refine⟨_,?e15,?W15,rfl,?h15,?q15⟩
 case h15=>simp(disch:=decide) only[Tryz.results34,go_sem];all_goals rfl
 refine⟨rfl,2,by decide,?_,?_⟩
 ·rw[bO (by decide) (by decide)];rfl
 rw[bO (by decide) (by decide)];unfold nP;rw[aa (by decide),ab]
theorem E5{xs:List Value}{l l':List UInt8}{v:Value}(h:pp xs l=some (v,l')):∃ns:List Nat,xs=[al au (some (nI ns))]/\qK ns l/\v=.tuple #[]/\l'=l++eF ns:=by
 unfold pp at h;split at h
 ·rename_i hx;cases h;exact⟨_,(ZQ hx).1,(ZQ hx).2,rfl,rfl⟩
 cases h
theorem WI:bD Tryz.prog 34 (vJ pp):=by
 refine N5 (enters_of (by kernel_rfl)) (fun xs v l h=>?_) (fun xs v l h=>?_)
 ·obtain⟨ns,rfl,_,rfl,rfl⟩:=E5 h;exact⟨aw (aB ba _) aQ,aG 8 rfl⟩
 obtain⟨ns,rfl,⟨h1,h2,h3,_⟩,rfl,rfl⟩:=E5 h;exact Aw ns h1 h2 h3
theorem NF:bD Tryz.prog 34 (ju (po pp) (vJ pp)):=o6 XI WI
def Xm(s:Int):Nat:=if s=1 then 0 else 1
def g9(k:Nat)(x:aC):List Nat:=[(x.id-16*k).toNat,x.dim.toNat,(ao x.sides).length]
def eo(y:bC):List Nat:=[y.1.toNat,Xm y.2]
def qO(y:bC):List UInt8:=eF (eo y)
def xg(k:Nat)(x:aC):List UInt8:=eF (g9 k x)++(ao x.sides).flatMap qO
def lX(k:Nat)(l:List aC):List UInt8:=eF [1,k,l.length]++l.flatMap (xg k)
structure BO(k:Nat)(l:List aC):Prop where
 hn:l.length<=4000
 hk:k<576460752303423488
 id:∀x∈l,16*(k:Int)<=x.id/\x.id<9223372036854775808
 dim:∀x∈l,0<=x.dim/\x.dim<=8
 few:∀x∈l,(ao x.sides).length<=64
 side:∀x∈l,∀y∈ao x.sides,0<=y.1/\y.1<9223372036854775808/\(y.2=1\/y.2=-1)
noncomputable def ve:HF:=ju (po pp) (vJ pp)
noncomputable def EE:List (FuncId×HF):=[(34,ve),(39,vt rW)]
theorem co:dv Tryz.prog (cE EE []):=⟨mixed,bU (.cons _ _ _ NF (.cons _ _ _ Oc .nil)) .nil⟩
theorem Cy{p:PQ}{xs:List Value}{l:List UInt8}{v:Value}{W:XW}{w b:Nat}(hw:W.get w=some (cR w b l))(hb:W.get b=some (bZ l))(hwb:w≠b)(hp:p xs l=some v):vt p (.pointer (some ⟨w,0,none⟩)::xs) W=some (.ret v,(W.put w none).put b none):=by
 show SD p xs W w (W.get w)=_;rw[hw];show(bif Nat.beq 84 84&&Nat.beq w w&&Nat.beq aM aM&&!(Nat.beq w b)then Ud p xs W w b l.length (W.get b)else none)=_;rw[ZY,ZY,ZY,gk hwb,hb];show(bif Nat.beq 5 5 then RF p xs W w b l.length (dE (aF l))else none)=_;rw[ZY,jB];show(bif Nat.beq l.length l.length then Xs W w b (p xs l)else none)=_;rw[ZY,hp];rfl
theorem L2{k:Nat}{l:List aC}:0<(lX k l).length:=by
 unfold lX eF;rw[ZM,Z8,ZM];have:=A3 1;omega
theorem IY{ns:List Nat}{W:XW}{w:Nat}(hw:W.get w=some jG)(h:qK ns []):ve [.pointer (some ⟨w,0,none⟩),al au (some (nI ns))] W=some (.ret (.tuple #[]),(W.push (bZ (eF ns))).put w (some (cR w W.next (eF ns)))):=by
 have h0:po pp [.pointer (some ⟨w,0,none⟩),al au (some (nI ns))] W=none:=by show IG pp [al au (some (nI ns))] W w (W.get w)=none;rw[hw];rfl
 exact pj h0 (Ia hw (Kq h))
theorem AO{ns:List Nat}{l:List UInt8}{W:XW}{w b:Nat}(hw:W.get w=some (cR w b l))(hb:W.get b=some (bZ l))(hwb:w≠b)(h:qK ns l):ve [.pointer (some ⟨w,0,none⟩),al au (some (nI ns))] W=some (.ret (.tuple #[]),((W.put b none).push (bZ (l++eF ns))).put w (some (cR w W.next (l++eF ns)))):=
 iH (Jf hw hb hwb (Kq h))
theorem iW:∀{ns:List Nat},(∀n∈ns,n<18446744073709551616)->(eF ns).length<=10*ns.length
 |[],_=>Nat.le_refl _
 |n::ns,h=>by
  have h1:=wu (h n aaf);have h2:=iW (ns:=ns) fun m hm=>h m (aal _ hm)
  unfold eF at h2 ⊢;rw[Z8,ZM,List.length_cons];omega
structure Zi(k:Nat)(l:List aC) where
 i:Nat
 acc:List UInt8
 h:i<=l.length
 le:acc.length<=30+2000*i
 eq:acc++(l.drop i).flatMap (xg k)=lX k l
structure ZI(ys:List bC)(acc1:List UInt8) where
 j:Nat
 acc:List UInt8
 h:j<=ys.length
 le:acc.length<=acc1.length+20*j
 eq:acc++(ys.drop j).flatMap qO=acc1++ys.flatMap qO
set_option maxHeartbeats 4000000 in
theorem G4(k:Nat)(l:List aC)(hb:BO k l):aN Tryz.prog 37 [.int .i64 (k:Int),al an (some l)] (wd [] 0 [] 0) fun e W'=>e=.ret (.string (str (lX k l))):=by
 have hol:bk (al an (some l))=true:=bL _;have hln:∀W,fm W (al an (some l)) (some (.slice 58))=some (.val (some (.int .i64 (l.length:Int)))):=fun W=>da _
 have hn:=hb.hn;have hk:=hb.hk;refine be co Tryz.func37 rfl (Nat.le_of_ble_eq_true rfl) ?_;simp only[aY.eq_1,aY.eq_2,bf,Tryz.ntmps37,reduceAdd];refine ae (ac (e:=?e1) (s':=?s1) co ?h1 ?q1)
 case h1=>simp(disch:=decide) only[go_sem];all_goals rfl
 refine ae (ac (e:=?e2) (s':=?s2) co ?h2 ?q2)
 case h2=>simp(disch:=decide) only[go_sem];all_goals rfl
 refine ae (cI ?_);refine aP co 1 (s1:=?a1) ?yh1 (aP co 1 (s1:=?a2) ?yh2 (aP co 1 (s1:=?a3) ?yh3 (aP co 1 (s1:=?a4) ?yh4 (aP co 1 (s1:=?a5) ?yh5 ?_))))
 case yh1=>simp(disch:=decide) only[go_sem];all_goals rfl
 case yh2=>simp(disch:=decide) only[go_sem];all_goals rfl
 case yh3=>simp(disch:=decide) only[hol,go_sem];all_goals rfl
 case yh4=>simp(disch:=decide) only[hln,go_sem];all_goals rfl
 case yh5=>simp(disch:=decide) only[go_sem];all_goals rfl
 have hds:qK [1,k,l.length] []:=⟨fun n h=>by simp only[ZU,ZS,or_false]at h;rcases h with rfl|rfl|rfl<;>omega,by show 3<=1000000;decide,by simp,by decide⟩;refine ec (s':=⟨aI [(16,some (al au (some (nI [1,k,l.length])))),(12,some (.pointer (some ⟨0,0,none⟩))),(5,some (.pointer (some ⟨0,0,none⟩))),(1,some (al an (some l))),(0,some (.int .i64 (k:Int)))],wd ((1,none)::[(0,some jG)]) 2 [] 0,[]⟩) (dH (x:=1) (c:=[.int .i64 ((1:Nat):Int),.int .i64 (k:Int),.int .i64 (l.length:Int)]) rfl (by decide) (by decide)
  (af (by decide) rfl (gz (n:=1) (o:=0) (len:=3) (cap:=3) (q:=3) (c:=[.int .i64 ((1:Nat):Int),.int .i64 (k:Int),.int .i64 (l.length:Int)]) (Nat.le_refl _) (fun h=>by cases h)) (af (by decide) rfl bP (af (by decide) rfl bP (af (by decide) rfl bP (af (by decide) rfl bP aR)))))
  [(0,some jG)] (fun m o' h _=>by
   by_cases e1:1=m
   ·subst e1;rw[ab]at h;cases h
   rw[aa e1]at h;by_cases e2:0=m
   ·subst e2;rw[ab]at h;cases h;exact⟨_,rfl,eb⟩
   rw[aa e2,ag]at h;cases h) .nil) ?_
 have hg0:ve [.pointer (some ⟨0,0,none⟩),al au (some (nI [1,k,l.length]))] (wd ((1,none)::[(0,some jG)]) 2 [] 0)=_:=IY (by rw[bO (by decide) (by decide),aa (by decide),ab]) hds;refine aP co 1 (s1:=?a6) ?h6 (cY ?q6)
 case h6=>simp(disch:=decide) only[EE,hg0,go_sem];all_goals rfl
 show bA _ _ _ _ _ _;refine ae ?_;obtain⟨acc0,hacc⟩:∃a,a=eF [1,k,l.length]:=⟨_,rfl⟩;rw[<-hacc];refine ae (ac (e:=?e3) (s':=?s3) co ?h3 ?q3)
 case h3=>simp(disch:=decide) only[hol,hln,go_sem];all_goals rfl
 refine aD ?_;refine aU (s':=⟨aI [(0,some (.int .i64 (k:Int))),(5,some (.pointer (some ⟨0,0,none⟩))),(18,some (al an (some l))),(19,some (.int .i64 (l.length:Int))),(20,some (.int .i64 ((0:Nat):Int)))],wd [(0,some (cR 0 1 (acc0))),(1,some (bZ (acc0)))] 2 [] 0,[]⟩) (aV [(0,some 0),(2,some 1)] [(0,some 0),(1,some 2)] (by decide) (by decide) (by decide)
  (af (by decide) rfl (ar 1 rfl) (af (by decide) rfl (ay rfl) (af (by decide) rfl (aB aW _ _ ah) (af (by decide) rfl (ar 1 rfl) (af (by decide) rfl (ar 1 rfl) aR)))))
  (aj 0 rfl (by decide) (by decide) rfl (bJ (ax (ay rfl) (ax (bI rfl) aX))) (aj 2 rfl (by decide) (by decide) rfl (de _ ah) bj)) .nil) ?_
 refine bw (α:=Zi k l) (fun y=>⟨aI [(0,some (.int .i64 (k:Int))),(5,some (.pointer (some ⟨0,0,none⟩))),(18,some (al an (some l))),(19,some (.int .i64 (l.length:Int))),(20,some (.int .i64 (y.i:Int)))],wd [(0,some (cR 0 1 (y.acc))),(1,some (bZ (y.acc)))] 2 [] 0,[]⟩) (fun y=>l.length-y.i) ?_ ⟨0,acc0,Z3 _,by rw[hacc];exact iW (fun n h=>aa4 (hds.1 n h) (by decide)),by rw[hacc];rfl⟩;intro ⟨i,acc,hi,hle,heq⟩;simp only;by_cases hlt:i<l.length
 ·obtain⟨x,hx⟩:∃x,x=l[i]:=⟨_,rfl⟩;have hxm:x∈l:=by rw[hx];exact aay hlt
  have hix:∀j,dB Tryz.prog (some (.slice 58)) (some (al an (some l))) (some (.int j ((i:Nat):Int)))=some (.val (some (FP [.int .i64 x.id,.int .i64 x.dim,al az x.sides]))):=fun j=>by rw[hx];exact xx (o:=some l) hlt
  have hos:bk (al az x.sides)=true:=bL _;have hnxt:l.drop i=x::l.drop (i+1):=by rw[hx];exact aac hlt
  rw[hnxt,Z8]at heq;obtain⟨hid1,hid2⟩:=hb.id x hxm;obtain⟨hdm1,hdm2⟩:=hb.dim x hxm;have hfw:=hb.few x hxm;have hw16:IntKind.i64.wrap (16*(k:Int))=16*(k:Int):=wrap_i64 (by omega) (by omega);have hwid:IntKind.i64.wrap (x.id-16*(k:Int))=x.id-16*(k:Int):=wrap_i64 (by omega) (by omega);have hcns:nI (g9 k x)=[x.id-16*(k:Int),x.dim,((ao x.sides).length:Int)]:=by unfold g9 nI;simp only[aaG,List.map_nil];rw[Int.toNat_of_nonneg (by omega),Int.toNat_of_nonneg hdm1]
  have hdB:qK (g9 k x) acc:=⟨fun n h=>by unfold g9 at h;simp only[ZU,ZS,or_false]at h;rcases h with rfl|rfl|rfl<;>omega,by show 3<=1000000;decide,by unfold g9;simp,by omega⟩;refine ae (ac (e:=?e4) (s':=?s4) co ?h4 ?q4)
  case h4=>simp(disch:=decide) only[go_sem];all_goals rfl
  refine ae (aZ (by simp(disch:=first|decide|omega) only[go_sem]<;>with_reducible rfl) ?_);refine aH ?_;refine ae (aD ?_);refine ae (ac (e:=?e6) (s':=?s6) co ?zh6 ?zq6)
  case zh6=>simp(disch:=decide) only[hix,hos,fB,go_sem];all_goals rfl
  refine aU (s':=⟨aI [(0,some (.int .i64 (k:Int))),(5,some (.pointer (some ⟨0,0,none⟩))),(18,some (al an (some l))),(19,some (.int .i64 (l.length:Int))),(20,some (.int .i64 (i:Int))),(7,some (.pointer (some ⟨2,0,none⟩)))],wd [(0,some (cR 0 1 (acc))),(1,some (bZ (acc))),(2,some (.cells [.int .i64 x.id,.int .i64 x.dim,al az x.sides] 58 (0,0)))] 3 [] 0,[]⟩) (ak (by simp(disch:=decide) [ai,ab,aa,ag]) (by simp(disch:=decide) [ai,ab,aa,ag]) (by decide)) ?_;refine ae (cI ?_);refine aP co 1 (s1:=?Bs0) ?B0 (aP co 1 (s1:=?Bs1) ?B1 (aP co 1 (s1:=?Bs2) ?B2 (aP co 1 (s1:=?Bs3) ?B3 (aP co 1 (s1:=?Bs4) ?B4 (aP co 1 (s1:=?Bs5) ?B5 (aP co 1 (s1:=?Bs6) ?B6 (aP co 1 (s1:=?Bs7) ?B7 (aP co 1 (s1:=?Bs8) ?B8 (aP co 1 (s1:=?Bs9) ?B9 (aP co 1 (s1:=?Bs10) ?B10 (aP co 1 (s1:=?Bs11) ?B11 ?_)))))))))))
  case B0=>simp(disch:=decide) only[go_sem];all_goals rfl
  case B1=>simp(disch:=decide) only[go_sem];all_goals rfl
  case B2=>simp(disch:=decide) only[hos,go_sem];all_goals rfl
  case B3=>simp(disch:=decide) only[go_sem];all_goals rfl
  case B4=>simp(disch:=decide) only[hw16,go_sem];all_goals rfl
  case B5=>simp(disch:=decide) only[hw16,hwid,go_sem];all_goals rfl
  case B6=>simp(disch:=decide) only[go_sem];all_goals rfl
  case B7=>simp(disch:=decide) only[go_sem];all_goals rfl
  case B8=>simp(disch:=decide) only[go_sem];all_goals rfl
  case B9=>simp(disch:=decide) only[hos,go_sem];all_goals rfl
  case B10=>simp(disch:=decide) only[da,go_sem]<;>with_reducible rfl
  case B11=>simp(disch:=first|decide|omega) only[go_sem]<;>with_reducible rfl
  refine ec (s':=⟨aI [(35,some (al au (some (nI (g9 k x))))),(24,some (.pointer (some ⟨0,0,none⟩))),(0,some (.int .i64 (k:Int))),(5,some (.pointer (some ⟨0,0,none⟩))),(18,some (al an (some l))),(19,some (.int .i64 (l.length:Int))),(20,some (.int .i64 (i:Int))),(7,some (.pointer (some ⟨2,0,none⟩)))],wd ((3,none)::[(0,some (cR 0 1 acc)),(1,some (bZ acc)),(2,some (.cells [.int .i64 x.id,.int .i64 x.dim,al az x.sides] 58 (0,0)))]) 4 [] 0,[]⟩) (dH (x:=3) (c:=[.int .i64 (x.id-16*(k:Int)),.int .i64 x.dim,.int .i64 ((ao x.sides).length:Int)]) (by simp(disch:=first|decide|omega) only[ab,aa]<;>rfl) (by decide) (by decide)
   (af (by decide) rfl (by have:=gz (n:=3) (o:=0) (len:=3) (cap:=3) (q:=3) (c:=[.int .i64 (x.id-16*(k:Int)),.int .i64 x.dim,.int .i64 ((ao x.sides).length:Int)]) (Nat.le_refl _) (fun h=>by cases h);rw[show(FZ (([.int .i64 (x.id-16*(k:Int)),.int .i64 x.dim,.int .i64 ((ao x.sides).length:Int)]:List Value).drop 0 |>.take 3) 3)=al au (some (nI (g9 k x))) by rw[hcns];rfl]at this;exact this) (af (by decide) rfl bP (af (by decide) rfl bP (af (by decide) rfl bP (af (by decide) rfl bP (af (by decide) rfl bP (af (by decide) rfl bP (af (by decide) rfl bP aR))))))))
   [(0,some (cR 0 1 acc)),(1,some (bZ acc)),(2,some (.cells [.int .i64 x.id,.int .i64 x.dim,al az x.sides] 58 (0,0)))] (fun m o' h _=>by
    by_cases ex:3=m
    ·subst ex;rw[ab]at h;cases h
    rw[aa ex]at h;by_cases e0:0=m
    ·subst e0;rw[ab]at h;cases h;exact⟨_,rfl,eb⟩
    rw[aa e0]at h;by_cases e1:1=m
    ·subst e1;rw[ab]at h;cases h;exact⟨_,rfl,eb⟩
    rw[aa e1]at h;by_cases e2:2=m
    ·subst e2;rw[ab]at h;cases h;exact⟨_,rfl,eb⟩
    rw[aa e2]at h;rw[ag]at h;cases h) .nil) ?_
  have hgB:ve [.pointer (some ⟨0,0,none⟩),al au (some (nI (g9 k x)))] (wd ((3,none)::[(0,some (cR 0 1 acc)),(1,some (bZ acc)),(2,some (.cells [.int .i64 x.id,.int .i64 x.dim,al az x.sides] 58 (0,0)))]) 4 [] 0)=_:=AO (l:=acc) (b:=1) (by rw[bO (by decide) (by decide),aa (by decide),ab]) (by rw[bO (by decide) (by decide),aa (by decide),aa (by decide),ab]) (by decide) hdB;refine aP co 1 (s1:=?Bz) ?Bzz (cY ?Bq)
  case Bzz=>simp(disch:=decide) only[EE,hgB,go_sem];all_goals rfl
  show bA _ _ _ _ _ _;obtain⟨acc1,hacc1⟩:∃a,a=acc++eF (g9 k x):=⟨_,rfl⟩;rw[<-hacc1];have hdl:=iW (ns:=g9 k x) fun n h=>aa4 (hdB.1 n h) (by decide)
  have hdl2:(eF (g9 k x)).length<=30:=hdl;have hl1:acc1.length<=acc.length+30:=by rw[hacc1,ZM];omega
  refine aU (s':=⟨aI [(0,some (.int .i64 (k:Int))),(5,some (.pointer (some ⟨0,0,none⟩))),(18,some (al an (some l))),(19,some (.int .i64 (l.length:Int))),(20,some (.int .i64 (i:Int))),(7,some (.pointer (some ⟨2,0,none⟩)))],wd [(0,some (cR 0 1 (acc1))),(1,some (bZ (acc1))),(2,some (.cells [.int .i64 x.id,.int .i64 x.dim,al az x.sides] 58 (0,0)))] 3 [] 0,[]⟩) (aV [(0,some 0),(4,some 1),(2,some 2)] [(0,some 0),(1,some 4),(2,some 2)] (by decide) (by decide) (by decide)
   (af (by decide) rfl (ar 1 rfl) (af (by decide) rfl (ay rfl) (af (by decide) rfl (aB aW _ _ ah) (af (by decide) rfl (ar 1 rfl) (af (by decide) rfl (ar 1 rfl) (af (by decide) rfl (ay rfl) aR))))))
   (aj 0 rfl (by decide) (by decide) rfl (bJ (ax (ay rfl) (ax (bI rfl) aX))) (aj 4 rfl (by decide) (by decide) rfl (de _ ah) (aj 2 rfl (by decide) (by decide) rfl (aq ah eV) bj))) .nil) ?_
  refine ae (ac (e:=?e7) (s':=?s7) co ?h7 ?q7)
  case h7=>simp(disch:=decide) only[hos,da,go_sem];all_goals rfl
  refine aD ?_;refine aU (s':=⟨aI [(0,some (.int .i64 (k:Int))),(5,some (.pointer (some ⟨0,0,none⟩))),(18,some (al an (some l))),(19,some (.int .i64 (l.length:Int))),(20,some (.int .i64 (i:Int))),(38,some (al az x.sides)),(39,some (.int .i64 ((ao x.sides).length:Int))),(40,some (.int .i64 ((0:Nat):Int)))],wd [(0,some (cR 0 1 (acc1))),(1,some (bZ (acc1)))] 2 [] 0,[]⟩) (aV [(0,some 0),(1,some 1)] [(0,some 0),(1,some 1)] (by decide) (by decide) (by decide)
   (af (by decide) rfl (ar 1 rfl) (af (by decide) rfl (ay rfl) (af (by decide) rfl (aB aW _ _ ah) (af (by decide) rfl (ar 1 rfl) (af (by decide) rfl (ar 1 rfl) (af (by decide) rfl (aB bB _ _ ah) (af (by decide) rfl (ar 1 rfl) (af (by decide) rfl (ar 1 rfl) aR))))))))
   (aj 0 rfl (by decide) (by decide) rfl (bJ (ax (ay rfl) (ax (bI rfl) aX))) (aj 1 rfl (by decide) (by decide) rfl (de _ ah) bj)) .nil) ?_
  refine bw (α:=ZI (ao x.sides) acc1) (fun z=>⟨aI [(0,some (.int .i64 (k:Int))),(5,some (.pointer (some ⟨0,0,none⟩))),(18,some (al an (some l))),(19,some (.int .i64 (l.length:Int))),(20,some (.int .i64 (i:Int))),(38,some (al az x.sides)),(39,some (.int .i64 ((ao x.sides).length:Int))),(40,some (.int .i64 (z.j:Int)))],wd [(0,some (cR 0 1 (z.acc))),(1,some (bZ (z.acc)))] 2 [] 0,[]⟩) (fun z=>(ao x.sides).length-z.j) ?_ ⟨0,acc1,Z3 _,Nat.le_refl _,rfl⟩;intro ⟨j,acc2,hj,hle2,heq2⟩;simp only;by_cases hlj:j<(ao x.sides).length
  ·obtain⟨y,hy⟩:∃y,y=(ao x.sides)[j]:=⟨_,rfl⟩;have hym:y∈ao x.sides:=by rw[hy];exact aay hlj
   have hjx:∀t,dB Tryz.prog (some (.slice 60)) (some (al az x.sides)) (some (.int t ((j:Nat):Int)))=some (.val (some (FP [.int .i64 y.1,.int .i64 y.2]))):=fun t=>by rw[hy];exact pC hlj
   have hnx2:(ao x.sides).drop j=y::(ao x.sides).drop (j+1):=by rw[hy];exact aac hlj
   rw[hnx2,Z8]at heq2;obtain⟨hy1,hy2,hys⟩:=hb.side x hxm y hym;clear hy hnx2;obtain⟨y1,y2⟩:=y;simp only at hjx hy1 hy2 hys;refine ae (ac (e:=?e8) (s':=?s8) co ?h8 ?q8)
   case h8=>simp(disch:=decide) only[go_sem];all_goals rfl
   refine ae (aZ (by simp(disch:=first|decide|omega) only[go_sem]<;>with_reducible rfl) ?_);refine aH ?_;refine ae (aD ?_);refine ae (ac (e:=?e10) (s':=?s10) co ?h10 ?q10)
   case h10=>simp(disch:=decide) only[hjx,fB,go_sem];all_goals rfl
   rcases hys with rfl|rfl
   ·skip
    have hsns:nI (eo (y1,1))=[y1,((0:Nat):Int)]:=by unfold eo nI;simp only[aaG,List.map_nil];rw[Int.toNat_of_nonneg hy1];rfl
    have hdC:qK (eo (y1,1)) acc2:=⟨fun n h=>by unfold eo at h;simp only[ZU,ZS,or_false]at h;rcases h with rfl|rfl;omega;show 0<_;decide,by show 2<=1000000;decide,by unfold eo;simp,by omega⟩;refine aU (s':=⟨aI [(0,some (.int .i64 (k:Int))),(5,some (.pointer (some ⟨0,0,none⟩))),(18,some (al an (some l))),(19,some (.int .i64 (l.length:Int))),(20,some (.int .i64 (i:Int))),(38,some (al az x.sides)),(39,some (.int .i64 ((ao x.sides).length:Int))),(40,some (.int .i64 (j:Int))),(9,some (.pointer (some ⟨2,0,none⟩)))],wd [(0,some (cR 0 1 (acc2))),(1,some (bZ (acc2))),(2,some (.cells [.int .i64 y1,.int .i64 (1)] 60 (0,0)))] 3 [] 0,[]⟩) (ak (by simp(disch:=decide) [ai,ab,aa,ag]) (by simp(disch:=decide) [ai,ab,aa,ag]) (by decide)) ?_;refine cI ?_;refine aP co 1 (s1:=?uCs0) ?uC0 (aP co 1 (s1:=?uCs1) ?uC1 (aP co 1 (s1:=?uCs2) ?uC2 (aP co 1 (s1:=?uCs3) ?uC3 (aP co 1 (s1:=?uCs4) ?uC4 (aP co 1 (s1:=?uCs5) ?uC5 (aP co 1 (s1:=?uCs6) ?uC6 (aP co 1 (s1:=?uCs7) ?uC7 ?_)))))))
    case uC0=>simp(disch:=decide) only[go_sem];all_goals rfl
    case uC1=>simp(disch:=decide) only[go_sem];all_goals rfl
    case uC2=>simp(disch:=decide) only[go_sem];all_goals rfl
    case uC3=>simp(disch:=decide) only[go_sem];all_goals rfl
    case uC4=>simp(disch:=decide) only[go_sem];all_goals rfl
    case uC5=>simp(disch:=decide) only[go_sem];all_goals rfl
    case uC6=>simp(disch:=decide) only[go_sem];all_goals rfl
    case uC7=>simp(disch:=decide) only[go_sem];all_goals rfl
    refine ec (s':=⟨aI [(51,some (al au (some (nI (eo (y1,1)))))),(44,some (.pointer (some ⟨0,0,none⟩))),(0,some (.int .i64 (k:Int))),(5,some (.pointer (some ⟨0,0,none⟩))),(18,some (al an (some l))),(19,some (.int .i64 (l.length:Int))),(20,some (.int .i64 (i:Int))),(38,some (al az x.sides)),(39,some (.int .i64 ((ao x.sides).length:Int))),(40,some (.int .i64 (j:Int)))],wd ((3,none)::[(0,some (cR 0 1 acc2)),(1,some (bZ acc2)),(2,some (.cells [.int .i64 y1,.int .i64 (1)] 60 (0,0)))]) 4 [] 0,[]⟩) (dH (x:=3) (c:=[.int .i64 y1,.int .i64 ((0:Nat):Int)]) rfl (by decide) (by decide)
     (af (by decide) rfl (by have:=gz (n:=3) (o:=0) (len:=2) (cap:=2) (q:=2) (c:=[.int .i64 y1,.int .i64 ((0:Nat):Int)]) (Nat.le_refl _) (fun h=>by cases h);rw[show(FZ (([.int .i64 y1,.int .i64 ((0:Nat):Int)]:List Value).drop 0 |>.take 2) 2)=al au (some (nI (eo (y1,1)))) by rw[hsns];rfl]at this;exact this) (af (by decide) rfl bP (af (by decide) rfl bP (af (by decide) rfl bP (af (by decide) rfl bP (af (by decide) rfl bP (af (by decide) rfl bP (af (by decide) rfl bP (af (by decide) rfl bP (af (by decide) rfl bP aR))))))))))
     [(0,some (cR 0 1 acc2)),(1,some (bZ acc2)),(2,some (.cells [.int .i64 y1,.int .i64 (1)] 60 (0,0)))] (fun m o' h _=>by
      by_cases ex:3=m
      ·subst ex;rw[ab]at h;cases h
      rw[aa ex]at h;by_cases e0:0=m
      ·subst e0;rw[ab]at h;cases h;exact⟨_,rfl,eb⟩
      rw[aa e0]at h;by_cases e1:1=m
      ·subst e1;rw[ab]at h;cases h;exact⟨_,rfl,eb⟩
      rw[aa e1]at h;by_cases e2:2=m
      ·subst e2;rw[ab]at h;cases h;exact⟨_,rfl,eb⟩
      rw[aa e2]at h;rw[ag]at h;cases h) .nil) ?_
    have hgC:ve [.pointer (some ⟨0,0,none⟩),al au (some (nI (eo (y1,1))))] (wd ((3,none)::[(0,some (cR 0 1 acc2)),(1,some (bZ acc2)),(2,some (.cells [.int .i64 y1,.int .i64 (1)] 60 (0,0)))]) 4 [] 0)=_:=AO (l:=acc2) (b:=1) (by rw[bO (by decide) (by decide),aa (by decide),ab]) (by rw[bO (by decide) (by decide),aa (by decide),aa (by decide),ab]) (by decide) hdC;refine aP co 1 (s1:=?uCz) ?uCzz (cY ?uCq)
    case uCzz=>simp(disch:=first|decide|omega) only[EE,hgC,go_sem]<;>with_reducible rfl
    show bA _ _ _ _ _ _;refine ac co (by simp(disch:=first|decide|omega) only[go_sem]<;>with_reducible rfl) ?_;have hdl:=iW (ns:=eo (y1,1)) fun n h=>aa4 (hdC.1 n h) (by decide)
    have hdl2:(eF (eo (y1,1))).length<=20:=hdl;refine⟨⟨j+1,acc2++eF (eo (y1,1)),by omega,by rw[ZM];omega,by rw[<-heq2,Z7];rfl⟩,by simp only;omega,?_⟩;simp only;exact aV [(0,some 0),(4,some 1)] [(0,some 0),(1,some 4)] (by decide) (by decide) (by decide)
     (af (v:=.int .i64 (k:Int)) (by decide) (by simp(disch:=first|decide|omega) only[ab,aa]) (ar 1 rfl) (af (v:=.pointer (some ⟨0,0,none⟩)) (by decide) (by simp(disch:=first|decide|omega) only[ab,aa]) (ay (by simp(disch:=first|decide|omega) only[ab,aa])) (af (v:=al an (some l)) (by decide) (by simp(disch:=first|decide|omega) only[ab,aa]) (aB aW _ _ ah) (af (v:=.int .i64 (l.length:Int)) (by decide) (by simp(disch:=first|decide|omega) only[ab,aa]) (ar 1 rfl) (af (v:=.int .i64 (i:Int)) (by decide) (by simp(disch:=first|decide|omega) only[ab,aa]) (ar 1 rfl) (af (v:=al az x.sides) (by decide) (by simp(disch:=first|decide|omega) only[ab,aa]) (aB bB _ _ ah) (af (v:=.int .i64 ((ao x.sides).length:Int)) (by decide) (by simp(disch:=first|decide|omega) only[ab,aa]) (ar 1 rfl) (af (v:=.int .i64 ((j+1:Nat):Int)) (by decide) (by simp(disch:=first|decide|omega) only[ab,aa]) (ar 1 rfl) aR))))))))
     (aj 0 rfl (by decide) (by decide) rfl (bJ (ax (ay rfl) (ax (bI rfl) aX))) (aj 4 rfl (by decide) (by decide) rfl (de _ ah) bj)) .nil
   skip
   have hsns:nI (eo (y1,-1))=[y1,((1:Nat):Int)]:=by unfold eo nI;simp only[aaG,List.map_nil];rw[Int.toNat_of_nonneg hy1];rfl
   have hdC:qK (eo (y1,-1)) acc2:=⟨fun n h=>by unfold eo at h;simp only[ZU,ZS,or_false]at h;rcases h with rfl|rfl;omega;show 1<_;decide,by show 2<=1000000;decide,by unfold eo;simp,by omega⟩;refine aU (s':=⟨aI [(0,some (.int .i64 (k:Int))),(5,some (.pointer (some ⟨0,0,none⟩))),(18,some (al an (some l))),(19,some (.int .i64 (l.length:Int))),(20,some (.int .i64 (i:Int))),(38,some (al az x.sides)),(39,some (.int .i64 ((ao x.sides).length:Int))),(40,some (.int .i64 (j:Int))),(9,some (.pointer (some ⟨2,0,none⟩)))],wd [(0,some (cR 0 1 (acc2))),(1,some (bZ (acc2))),(2,some (.cells [.int .i64 y1,.int .i64 (-1)] 60 (0,0)))] 3 [] 0,[]⟩) (ak (by simp(disch:=decide) [ai,ab,aa,ag]) (by simp(disch:=decide) [ai,ab,aa,ag]) (by decide)) ?_;refine cI ?_;refine aP co 1 (s1:=?vCs0) ?vC0 (aP co 1 (s1:=?vCs1) ?vC1 (aP co 1 (s1:=?vCs2) ?vC2 (aP co 1 (s1:=?vCs3) ?vC3 (aP co 1 (s1:=?vCs4) ?vC4 (aP co 1 (s1:=?vCs5) ?vC5 (aP co 1 (s1:=?vCs6) ?vC6 (aP co 1 (s1:=?vCs7) ?vC7 ?_)))))))
   case vC0=>simp(disch:=decide) only[go_sem];all_goals rfl
   case vC1=>simp(disch:=decide) only[go_sem];all_goals rfl
   case vC2=>simp(disch:=decide) only[go_sem];all_goals rfl
   case vC3=>simp(disch:=decide) only[go_sem];all_goals rfl
   case vC4=>simp(disch:=decide) only[go_sem];all_goals rfl
   case vC5=>simp(disch:=decide) only[go_sem];all_goals rfl
   case vC6=>simp(disch:=decide) only[go_sem];all_goals rfl
   case vC7=>simp(disch:=decide) only[go_sem];all_goals rfl
   refine ec (s':=⟨aI [(51,some (al au (some (nI (eo (y1,-1)))))),(44,some (.pointer (some ⟨0,0,none⟩))),(0,some (.int .i64 (k:Int))),(5,some (.pointer (some ⟨0,0,none⟩))),(18,some (al an (some l))),(19,some (.int .i64 (l.length:Int))),(20,some (.int .i64 (i:Int))),(38,some (al az x.sides)),(39,some (.int .i64 ((ao x.sides).length:Int))),(40,some (.int .i64 (j:Int)))],wd ((3,none)::[(0,some (cR 0 1 acc2)),(1,some (bZ acc2)),(2,some (.cells [.int .i64 y1,.int .i64 (-1)] 60 (0,0)))]) 4 [] 0,[]⟩) (dH (x:=3) (c:=[.int .i64 y1,.int .i64 ((1:Nat):Int)]) rfl (by decide) (by decide)
    (af (by decide) rfl (by have:=gz (n:=3) (o:=0) (len:=2) (cap:=2) (q:=2) (c:=[.int .i64 y1,.int .i64 ((1:Nat):Int)]) (Nat.le_refl _) (fun h=>by cases h);rw[show(FZ (([.int .i64 y1,.int .i64 ((1:Nat):Int)]:List Value).drop 0 |>.take 2) 2)=al au (some (nI (eo (y1,-1)))) by rw[hsns];rfl]at this;exact this) (af (by decide) rfl bP (af (by decide) rfl bP (af (by decide) rfl bP (af (by decide) rfl bP (af (by decide) rfl bP (af (by decide) rfl bP (af (by decide) rfl bP (af (by decide) rfl bP (af (by decide) rfl bP aR))))))))))
    [(0,some (cR 0 1 acc2)),(1,some (bZ acc2)),(2,some (.cells [.int .i64 y1,.int .i64 (-1)] 60 (0,0)))] (fun m o' h _=>by
     by_cases ex:3=m
     ·subst ex;rw[ab]at h;cases h
     rw[aa ex]at h;by_cases e0:0=m
     ·subst e0;rw[ab]at h;cases h;exact⟨_,rfl,eb⟩
     rw[aa e0]at h;by_cases e1:1=m
     ·subst e1;rw[ab]at h;cases h;exact⟨_,rfl,eb⟩
     rw[aa e1]at h;by_cases e2:2=m
     ·subst e2;rw[ab]at h;cases h;exact⟨_,rfl,eb⟩
     rw[aa e2]at h;rw[ag]at h;cases h) .nil) ?_
   have hgC:ve [.pointer (some ⟨0,0,none⟩),al au (some (nI (eo (y1,-1))))] (wd ((3,none)::[(0,some (cR 0 1 acc2)),(1,some (bZ acc2)),(2,some (.cells [.int .i64 y1,.int .i64 (-1)] 60 (0,0)))]) 4 [] 0)=_:=AO (l:=acc2) (b:=1) (by rw[bO (by decide) (by decide),aa (by decide),ab]) (by rw[bO (by decide) (by decide),aa (by decide),aa (by decide),ab]) (by decide) hdC;refine aP co 1 (s1:=?vCz) ?vCzz (cY ?vCq)
   case vCzz=>simp(disch:=first|decide|omega) only[EE,hgC,go_sem]<;>with_reducible rfl
   show bA _ _ _ _ _ _;refine ac co (by simp(disch:=first|decide|omega) only[go_sem]<;>with_reducible rfl) ?_;have hdl:=iW (ns:=eo (y1,-1)) fun n h=>aa4 (hdC.1 n h) (by decide)
   have hdl2:(eF (eo (y1,-1))).length<=20:=hdl;refine⟨⟨j+1,acc2++eF (eo (y1,-1)),by omega,by rw[ZM];omega,by rw[<-heq2,Z7];rfl⟩,by simp only;omega,?_⟩;simp only;exact aV [(0,some 0),(4,some 1)] [(0,some 0),(1,some 4)] (by decide) (by decide) (by decide)
    (af (v:=.int .i64 (k:Int)) (by decide) (by simp(disch:=first|decide|omega) only[ab,aa]) (ar 1 rfl) (af (v:=.pointer (some ⟨0,0,none⟩)) (by decide) (by simp(disch:=first|decide|omega) only[ab,aa]) (ay (by simp(disch:=first|decide|omega) only[ab,aa])) (af (v:=al an (some l)) (by decide) (by simp(disch:=first|decide|omega) only[ab,aa]) (aB aW _ _ ah) (af (v:=.int .i64 (l.length:Int)) (by decide) (by simp(disch:=first|decide|omega) only[ab,aa]) (ar 1 rfl) (af (v:=.int .i64 (i:Int)) (by decide) (by simp(disch:=first|decide|omega) only[ab,aa]) (ar 1 rfl) (af (v:=al az x.sides) (by decide) (by simp(disch:=first|decide|omega) only[ab,aa]) (aB bB _ _ ah) (af (v:=.int .i64 ((ao x.sides).length:Int)) (by decide) (by simp(disch:=first|decide|omega) only[ab,aa]) (ar 1 rfl) (af (v:=.int .i64 ((j+1:Nat):Int)) (by decide) (by simp(disch:=first|decide|omega) only[ab,aa]) (ar 1 rfl) aR))))))))
    (aj 0 rfl (by decide) (by decide) rfl (bJ (ax (ay rfl) (ax (bI rfl) aX))) (aj 4 rfl (by decide) (by decide) rfl (de _ ah) bj)) .nil
  have ej:j=(ao x.sides).length:=by omega
  rw[Z5 (by omega)]at heq2;have heq2:acc2=acc1++(ao x.sides).flatMap qO:=by rw[<-heq2];simp
  refine ae (ac co (by simp(disch:=first|decide|omega) only[go_sem]<;>with_reducible rfl) ?_);refine ae (aO (by simp(disch:=first|decide|omega) only[go_sem]<;>with_reducible rfl) ?_);refine bp ?_;show bA _ _ _ _ _ _;refine ac co (by simp(disch:=first|decide|omega) only[go_sem]<;>with_reducible rfl) ?_;refine⟨⟨i+1,acc2,by omega,by omega,?_⟩,by simp only;omega,?_⟩
  ·rw[<-heq,heq2,hacc1];unfold xg;simp only[Z7]
  simp only;exact aV [(0,some 0),(1,some 1)] [(0,some 0),(1,some 1)] (by decide) (by decide) (by decide)
   (af (v:=.int .i64 (k:Int)) (by decide) (by simp(disch:=first|decide|omega) only[ab,aa]) (ar 1 rfl) (af (v:=.pointer (some ⟨0,0,none⟩)) (by decide) (by simp(disch:=first|decide|omega) only[ab,aa]) (ay (by simp(disch:=first|decide|omega) only[ab,aa])) (af (v:=al an (some l)) (by decide) (by simp(disch:=first|decide|omega) only[ab,aa]) (aB aW _ _ ah) (af (v:=.int .i64 (l.length:Int)) (by decide) (by simp(disch:=first|decide|omega) only[ab,aa]) (ar 1 rfl) (af (v:=.int .i64 ((i+1:Nat):Int)) (by decide) (by simp(disch:=first|decide|omega) only[ab,aa]) (ar 1 rfl) aR)))))
   (aj 0 rfl (by decide) (by decide) rfl (bJ (ax (ay rfl) (ax (bI rfl) aX))) (aj 1 rfl (by decide) (by decide) rfl (de _ ah) bj)) .nil
 rw[Z5 (by omega)]at heq;replace heq:acc=lX k l:=by rw[<-heq];simp
 have hpos:0<acc.length:=by rw[heq];exact L2
 have hgS:vt rW [.pointer (some ⟨0,0,none⟩)] (wd [(0,some (cR 0 1 (acc))),(1,some (bZ (acc)))] 2 [] 0)=_:=Cy (b:=1) (l:=acc) (by rw[bO (by decide) (by decide),ab]) (by rw[bO (by decide) (by decide),aa (by decide),ab]) (by decide) (ye hpos (by omega));rw[<-heq];refine ae (ac (e:=?e16) (s':=?s16) co ?h16 ?q16)
 case h16=>simp(disch:=decide) only[go_sem];all_goals rfl
 refine ae (aO (by simp(disch:=first|decide|omega) only[go_sem]<;>with_reducible rfl) ?_);refine bp ?_;show bA _ _ _ _ _ _;refine ae (ac (e:=?e18) (s':=?s18) co ?h18 ?q18)
 case h18=>simp(disch:=decide) only[EE,hgS,go_sem];all_goals rfl
 refine bh ?_;refine⟨_,?e19,?W19,rfl,?h19,?q19⟩
 case h19=>simp(disch:=decide) only[Tryz.results37,go_sem];all_goals rfl
 rfl
structure Zb where
 k:Nat
 l:List aC
 ok:BO k l
def Bf(c:Zb):List Value:=[.int .i64 (c.k:Int),al an (some c.l)]
theorem Wq:bD Tryz.prog 37 (bu (cN Bf fun c=>.string (str (lX c.k c.l)))):=fa (enters_of (by kernel_rfl)) (fun c=>aw (aG 1 rfl) (aw (aB aW _) aQ)) (fun c=>aG 1 rfl) (fun c=>G4 c.k c.l c.ok)
theorem UK{k:Nat}{l:List aC}{W:XW}(h:BO k l):bu (cN Bf fun c=>.string (str (lX c.k c.l))) [.int .i64 (k:Int),al an (some l)] W=some (.ret (.string (str (lX k l))),W):=eu (enc:=Bf) (a:=⟨k,l,h⟩) fun b h=>by
 injection h with h1 h2;injection h2 with h2 _;have h3:=fQ cD gP (by decide) h2;injection h3 with h3;injection h1 with _ h1;have h1:b.k=k:=Int.ofNat.inj h1;have h3:b.l=l:=h3;rw[h1,h3]
end Go.Proofs.YthlkgmdkabelpaaGreat.X
