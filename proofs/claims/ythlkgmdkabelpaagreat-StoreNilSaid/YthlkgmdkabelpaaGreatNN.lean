/-
  Packed by program (tools/pack.py) out of the texts UP1. No condition.
-/
import Derived.Test.YthlkgmdkabelpaaGreatNK
import Derived.Test.YthlkgmdkabelpaaGreatNM
import Derived.Test.YthlkgmdkabelpaaGreatNF
set_option linter.all false
namespace Go.Proofs.YthlkgmdkabelpaaGreat.X
open Go Go.RowKit Go.Proofs.YthlkgmdkabelpaaGreat.St
structure EL where
 o:Option (List aC)
 sm:small o
 hs:∀x∈ao o,small x.sides
 hb:∀x∈ao (dC o),x.id<9223372036854775808
def Af(rs:fj)(k:Int):List UInt8:=lX k.toNat ((bz k rs).getD [])
def lc(o:Option (List aC)):List Int:=f9 (mh (i9 (ao (dC o))))
def uF(rs:fj)(k:Int):List UInt8:=eF [k.toNat]++(eI (Af rs k)).1
def uS(rs:fj)(ks:List Int):List UInt8:=eF [2,rs.length]++ks.flatMap (uF rs)
def l9(rs:fj):List Int->cX->cX
 |[],es=>es
 |k::ks,es=>l9 rs ks (gK es (Af rs k))
noncomputable def j4(es:cX)(o:Option (List aC)):cX:=if(eh o).2=0 then gK (l9 (i9 (ao (dC o))) (lc o) es) (uS (i9 (ao (dC o))) (lc o))else es
noncomputable def qI(o:Option (List aC)):Value:=if(eh o).2=0 then .tuple #[.agg (aF (bW (uS (i9 (ao (dC o))) (lc o)))).toArray,.int .i64 0]else .tuple #[.agg (aF (List.replicate 32 0)).toArray,.int .i64 (eh o).2]
def Y5(es':cX)(v:Value)(e:cz)(W':XW):Prop:=e=.ret v/\W'.get 0=some (aJ es' 1)/\∀ob,bG es'=some ob->W'.get 1=some ob
noncomputable def sW:List (FuncId×HF):=[(32,bu (cN lK fun c=>Cv c.o eh)),(33,bu (cN lK fun c=>jP (dC c.o))),(34,ve),(37,bu (cN Bf fun c=>.string (str (lX c.k c.l)))),(10,ic eN iN),(38,Fp BW),(39,vt rW),(36,uJ),(35,mO)]
theorem dm(hS:ph Tryz.prog 71):dv Tryz.prog (cE sW []):=⟨mixed,bU (.cons _ _ _ Vv (.cons _ _ _ He (.cons _ _ _ NF (.cons _ _ _ Wq (.cons _ _ _ Of (.cons _ _ _ Yh (.cons _ _ _ Oc (.cons _ _ _ Un (.cons _ _ _ (MC hS) .nil))))))))) .nil⟩
structure ZC(l:List aC) where
 i:Nat
 rs:fj
 h:i<=l.length
 g:wz l i rs
 eq:(l.drop i).foldl (fun rs x=>gD (gT x) x rs) rs=i9 l
def du:bb:=.cells (aF (List.replicate 32 0)) 24 (0,0)
theorem eR{P:Program}:fY P du:=bc (dn _)
def xu(x:aC):bb:=.cells [.int .i64 x.id,.int .i64 x.dim,al az x.sides] 58 (0,0)
theorem wT{P:Program}(x:aC):fY P (xu x):=bc (aw (aG 1 rfl) (aw (aG 1 rfl) (aw (aB bB _) aQ)))
theorem iT{θ:Nat->Option Nat}{es:cX}{b b':Nat}(h1:θ b=some b'):TO Tryz.prog (cM θ) (aJ es b) (aJ es b'):=by
 cases es with
 |nil=>exact bJ (ax (ar 1 rfl) aX)
 |cons x l=>exact bJ (ax (cq h1) aX)
theorem j5{T:RT}(hT:ow T)(es:cX)(w:bb)(h:bG es=some w):TO Tryz.prog T w w:=eN.bare es w h T hT
theorem km{n t m:Nat}{F:List (Nat×Option Value)}(h:m<n)(hs:l6 n F):l6 n ((t,some (.map (some m)))::F):=⟨fun u e=>by cases e;exact cq (iy h),hs⟩
theorem Kl{xs:List Value}{W:XW}{w b:Nat}{a a':cX}{v:Value}{o:bb}(h:mu eN W w b a)(hp:iN xs a=some (v,a',.pl))(hs:bG a'=some o)(hsa:a≠[]):ic eN iN (.pointer (some ⟨w,0,none⟩)::xs) W=some (.ret v,(W.put b (some o)).put w (some (aJ a' b))):=by
 have hsa:eN.sat a≠none:=by cases a with|nil=>exact absurd rfl hsa|cons x l=>exact fun e=>by cases e
 rw[qk h (fun v a' e _=>hsa),hp];unfold oT;simp only[show eN.sat a'=some o from hs];rfl
theorem IT{xs:List Value}{W:XW}{w b:Nat}{a':cX}{v:Value}{o:bb}(h:mu eN W w b [])(hp:iN xs []=some (v,a',.mv))(hs:bG a'=some o):ic eN iN (.pointer (some ⟨w,0,none⟩)::xs) W=some (.ret v,(W.push o).put w (some (aJ a' W.next))):=by
 rw[qk h (fun v a' e=>by rw[hp]at e;cases e),hp];unfold oT;simp only[show eN.sat a'=some o from hs,show eN.sat ([]:cX)=none from rfl];rfl
theorem xA{L:List (Nat×Option bb)}{n nl:Nat}{lg:List Nat}{es:cX}(hn:2<=n)(hn2:n<=16383)(h0:lk L 0=some (aJ es 1))(h1:lk L 1=bG es):mu eN (wd L n lg nl) 0 1 es:=
 ⟨by rw[bO (by omega) (by decide),h0];rfl,fun o h=>⟨by rw[bO (by omega) (by omega),h1];exact h,by decide⟩⟩
theorem oJ(es:cX)(o:List UInt8):gK es o≠[]:=fun e=>by
 unfold gK at e;split at e
 ·rename_i h;rw[e]at h;cases h
 simp at e
theorem qr{es:cX}(h:es≠[]):∃o,bG es=some o:=by
 cases es with
 |nil=>exact absurd rfl h
 |cons x l=>exact⟨_,rfl⟩
theorem vS{es:cX}(h:es≠[]):uD es=.pl:=by
 cases es with
 |nil=>exact absurd rfl h
 |cons x l=>rfl
theorem Xt{rs:fj}{k:Int}(hk:k.toNat<18446744073709551616):(uF rs k).length<=42:=by
 unfold uF;have:=iW (ns:=[k.toNat]) (fun n h=>by simp only[ZU,ZS,or_false]at h;subst h;exact hk);rw[ZM,(eI (Af rs k)).2];simp only[List.length_cons,List.length_nil]at this;omega
theorem Rn{p:PS}{l l':List UInt8}{v:Value}{W:XW}{w b r m c:Nat}{cs:List Value}{t:TypeId}(hw:W.get w=some (cR w b l))(hb:W.get b=some (bZ l))(hr:W.get r=some (.cells cs t (0,0)))(hwb:w≠b)(hrw:r≠w)(hrb:r≠b)(hmc:m<=c)(hp:p cs m l=some (v,l')) :
 Fp p [.pointer (some ⟨w,0,none⟩),.slice (some ⟨r,0,none⟩) m c] W=some (.ret v,(((W.put r none).put b none).push (bZ l')).put w (some (cR w W.next l'))):=by
 show TU p r m c W w (W.get w)=_;rw[hw];show(bif Nat.beq 84 84&&Nat.beq w w&&Nat.beq aM aM&&!(Nat.beq w b)then SB p r m c W w b l.length (W.get b)else none)=_;rw[ZY,ZY,ZY,gk hwb,hb];show(bif Nat.beq 5 5 then RU p r m c W w b l.length (dE (aF l))else none)=_;rw[ZY,jB];show(bif Nat.beq l.length l.length then SR p W w b l.length r m c l (W.get r)else none)=_;rw[ZY,hr];show(bif Nat.ble m c&&!(Nat.beq r w)&&!(Nat.beq r b)then NG (W.put r none) w b (p cs m l)else none)=_;rw[wR hmc,gk hrw,gk hrb,hp];rfl
theorem Iy{y:bC}(h:0<=y.1/\y.1<9223372036854775808):(qO y).length<=20:=by
 unfold qO;have:=iW (ns:=eo y) (fun n hn=>by
  unfold eo Xm at hn;simp only[ZU,ZS,or_false]at hn;rcases hn with rfl|rfl
  ·omega
  split<;>decide)
 exact this
theorem tT{α:Type}{f:α->List UInt8}{m:Nat}:∀{l:List α},(∀x∈l,(f x).length<=m)->(l.flatMap f).length<=m*l.length
 |[],_=>Z3 _
 |x::l,h=>by
  rw[Z8,ZM,List.length_cons,Nat.mul_succ];have h1:=h x aaf;have h2:=tT (l:=l) fun y hy=>h y (aal _ hy)
  omega
theorem Mo{k:Nat}{l:List aC}(h:BO k l):(lX k l).length<=30+2000*l.length:=by
 unfold lX;have h1:=iW (ns:=[1,k,l.length]) (fun n hn=>by
  have:=h.hk;have:=h.hn;simp only[ZU,ZS,or_false]at hn;rcases hn with rfl|rfl|rfl<;>omega)
 have h2:=tT (f:=xg k) (m:=2000) (l:=l) fun x hx=>by
  unfold xg;have hi:=h.id x hx;have hd:=h.dim x hx;have hf:=h.few x hx;have e1:=iW (ns:=g9 k x) (fun n hn=>by
   unfold g9 at hn;simp only[ZU,ZS,or_false]at hn;rcases hn with rfl|rfl|rfl<;>omega)
  have e2:=tT (f:=qO) (m:=20) (l:=ao x.sides) fun y hy=>by
   have:=h.side x hx y hy;exact Iy ⟨this.1,this.2.1⟩
  have e3:(eF (g9 k x)).length<=30:=e1;rw[ZM];omega
 have h3:(eF [1,k,l.length]).length<=30:=h1;rw[ZM];omega
structure Y2(rs:fj)(ks:List Int)(es:cX)(kk:Nat) where
 i:Nat
 es':cX
 acc:List UInt8
 h:i<=ks.length
 eE:l9 rs (ks.drop i) es'=l9 rs ks es
 eA:acc++(ks.drop i).flatMap (uF rs)=uS rs ks
 le:0<acc.length/\acc.length<=30+50*i
 q:es'=[]->kk=1
theorem VP{es:cX}:(lw eN es).next=1/\es=[]\/(lw eN es).next=2/\es≠[]:=by
 cases es with
 |nil=>exact .inl ⟨rfl,rfl⟩
 |cons x l=>exact .inr ⟨rfl,by simp⟩
set_option maxHeartbeats 8000000 in
theorem Py(hS:ph Tryz.prog 71)(es:cX)(c:EL):aN Tryz.prog 17 [.pointer (some ⟨0,0,none⟩),jP c.o] (lw eN es) (Y5 (j4 es c.o) (qI c.o)):=by
 obtain⟨o,sm,hs,hb⟩:=c;simp only at hb ⊢;have hoo:bk (al an o)=true:=bL _;have hcg:∀W,bu (cN lK fun c=>Cv c.o eh) [.agg #[al an o]] W=some (.ret (.tuple #[.int .i64 (eh o).1,.int .i64 (eh o).2]),W):=fun W=>Ry sm hs
 have hkg:∀W,bu (cN lK fun c=>jP (dC c.o)) [.agg #[al an o]] W=some (.ret (.agg #[al an (dC o)]),W):=fun W=>CO sm hs
 show aN _ _ [.pointer (some ⟨0,0,none⟩),.agg #[al an o]] _ _;refine be (dm hS) Tryz.func17 rfl (Nat.le_of_ble_eq_true rfl) ?_;simp only[aY.eq_1,aY.eq_2,Tryz.ntmps17];obtain⟨kk,hkk⟩:∃k,k=(lw eN es).next:=⟨_,rfl⟩;have hcase:=VP (es:=es);rw[<-hkk]at hcase ⊢;have hk12:kk=1\/kk=2:=by omega
 refine cP (dm hS) ⟨aI [(0,some (.pointer (some ⟨0,0,none⟩))),(3,some (.pointer (some ⟨2,0,none⟩))),(4,some (.pointer (some ⟨3,0,none⟩))),(5,some (.int .i64 (((0:Nat):Int):Int)))],wd [(0,some (aJ es 1)),(1,bG es),(2,some (.cells [al an o] 40 (0,0))),(3,some (du))] 4 [] 0,[]⟩ ?hini ?qini
 case hini=>
  rcases hcase with⟨h1,h2⟩|⟨h1,h2⟩
  ·subst h2;rw[h1];show ∃s',lV _ _ _ _ _ _ ⟨_,wd [(0,some (.cells [.map none] 65 (0,0)))] 1 [] 0,_⟩=_/\_;refine⟨?si1,?ai1,?bi1⟩
   case ai1=>simp(disch:=decide) only[hoo,go_sem];all_goals rfl
   exact aV [(0,some 0),(1,some 2),(2,some 3)] [(0,some 0),(2,some 1),(3,some 2)] (by decide) (by decide) (by decide) (af (by decide) rfl (ay rfl) (af (by decide) rfl (ay rfl) (af (by decide) rfl (ay rfl) (af (by decide) rfl (ar 1 rfl) aR)))) (aj 0 rfl (by decide) (by decide) rfl (bJ (ax (ar 1 rfl) aX)) (xp (aj 1 rfl (by decide) (by decide) rfl (aq ah (bc (aw (aB aW _) aQ))) (aj 2 rfl (by decide) (by decide) rfl (aq ah eR) bj)))) .nil
  obtain⟨e0,el,rfl⟩:∃a l,es=a::l:=by cases es with|nil=>exact absurd rfl h2|cons a l=>exact⟨a,l,rfl⟩
  rw[h1];show ∃s',lV _ _ _ _ _ _ ⟨_,wd [(0,some (.cells [.map (some 1)] 65 (0,0))),(1,some (.map (gl dO (e0::el)) (e0::el).length))] 2 [] 0,_⟩=_/\_;refine⟨?si2,?ai2,?bi2⟩
  case ai2=>simp(disch:=first|decide|omega) only[hoo,go_sem]<;>with_reducible rfl
  exact ak (by simp(disch:=decide) [ai,ab,aa,ag]) (ap (by decide) (by simp(disch:=first|decide|omega) only[ab,aa]<;>rfl) (ap (by decide) (by simp(disch:=first|decide|omega) only[ab,aa]<;>rfl) (ap (by decide) (by simp(disch:=first|decide|omega) only[ab,aa]<;>rfl) (ap (by decide) (by simp(disch:=first|decide|omega) only[ab,aa]<;>rfl) trivial)))) (by decide)
 clear hkk;refine ae ?_;refine ae (ac (dm hS) (by simp(disch:=first|decide|omega) only[mA Tryz.underlying26,go_sem]<;>with_reducible rfl) ?_);refine aO (by simp(disch:=first|decide|omega) only[go_sem]<;>with_reducible rfl) ?_;refine aH ?_;show bA _ _ _ _ _ _;refine ae ?_;refine ae (ac (dm hS) (by simp(disch:=first|decide|omega) only[sW,hcg,hoo,go_sem]<;>with_reducible rfl) ?_);by_cases hck:(eh o).2=0
 ·have hb1:((eh o).2 !=((0:Nat):Int))=false:=li hck;have hES:j4 es o=gK (l9 (i9 (ao (dC o))) (lc o) es) (uS (i9 (ao (dC o))) (lc o)):=by unfold j4;rw[if_pos hck]
  have hV:qI o=.tuple #[.agg (aF (bW (uS (i9 (ao (dC o))) (lc o)))).toArray,.int .i64 0]:=by unfold qI;rw[if_pos hck]
  have hgood:=Bl hck;rw[hES,hV];unfold lc;clear hES hV;obtain⟨l,hl⟩:∃l,l=dC o:=⟨_,rfl⟩;rw[<-hl]at hb hkg hgood ⊢;have hol:bk (al an l)=true:=bL _;refine ae (ac (dm hS) (by simp(disch:=first|decide|omega) only[hb1,go_sem]<;>with_reducible rfl) ?_);refine aO (by simp(disch:=first|decide|omega) only[go_sem]<;>with_reducible rfl) ?_;refine aH ?_;show bA _ _ _ _ _ _;refine ae (ac (dm hS) (by simp(disch:=first|decide|omega) only[go_sem]<;>with_reducible rfl) ?_);refine ae ?_;refine ae (ac (dm hS) (by simp(disch:=first|decide|omega) only[sW,hkg,hoo,hol,da,go_sem]<;>with_reducible rfl) ?_);clear hcg hkg hb1 hck hl hoo;obtain⟨ln,hln⟩:∃n,n=(ao l).length:=⟨_,rfl⟩;have hl4:=hgood.len;rw[<-hln]at hl4;rw[<-hln];refine jb (Q:=xO Tryz.prog kk ⟨aI [(0,some (.pointer (some ⟨0,0,none⟩))),(4,some (.pointer (some ⟨3,0,none⟩))),(8,some (.map (some 4)))],wd ([(0,some (aJ es 1)),(1,bG es),(3,some du)]++((4,some (gp 8 (i9 (ao l))))::eC an 58 8 (i9 (ao l)) 0)) ((i9 (ao l)).length+8) [] 0,[]⟩) ?aft ?lp
  case lp=>
   refine aD ?_;refine aU (s':=⟨aI [(0,some (.pointer (some ⟨0,0,none⟩))),(4,some (.pointer (some ⟨3,0,none⟩))),(8,some (.map (some 4))),(31,some (al an l)),(32,some (.int .i64 (ln:Int))),(33,some (.int .i64 (((0:Nat):Int):Int)))],wd ([(0,some (aJ es 1)),(1,bG es),(3,some du)]++((4,some (gp 8 ([]:fj)))::eC an 58 8 ([]:fj) 0)) (([]:fj).length+8) [] 0,[]⟩) (aV [(0,some 0),(1,some 1),(3,some 3),(4,some 4)] [(0,some 0),(1,some 1),(3,some 3),(4,some 4)] (by rcases hk12 with h|h<;>(rw[h];decide)) (by decide) (by rcases hk12 with h|h<;>(rw[h];decide)) (af (v:=.pointer (some ⟨0,0,none⟩)) (by decide) (by simp(disch:=first|decide|omega) only[ab,aa]<;>rfl) (ay (by simp(disch:=first|decide|omega) only[ab,aa])) (af (v:=.pointer (some ⟨3,0,none⟩)) (by decide) (by simp(disch:=first|decide|omega) only[ab,aa]<;>rfl) (ay (by simp(disch:=first|decide|omega) only[ab,aa])) (af (v:=.map (some 4)) (by decide) (by simp(disch:=first|decide|omega) only[ab,aa]<;>rfl) (cq (by simp(disch:=first|decide|omega) only[ab,aa])) (af (v:=al an l) (by decide) (by simp(disch:=first|decide|omega) only[ab,aa]<;>rfl) (aB aW _ _ ah) (af (v:=.int .i64 (ln:Int)) (by decide) (by simp(disch:=first|decide|omega) only[ab,aa]<;>rfl) (ar 1 rfl) (af (v:=.int .i64 (((0:Nat):Int):Int)) (by decide) (by simp(disch:=first|decide|omega) only[ab,aa]<;>rfl) (ar 1 rfl) aR)))))) (aj (o:=aJ es 1) 0 (by simp(disch:=first|decide|omega) only[ab,aa]) (by decide) (by decide) (by simp(disch:=first|decide|omega) only[ab,aa]<;>rfl) (iT (by simp(disch:=first|decide|omega) only[ab,aa])) (gc 1 (by simp(disch:=first|decide|omega) only[ab,aa]) (by decide) (by decide) (by simp(disch:=first|decide|omega) only[ab,aa]<;>rfl) (j5 ah es) (aj (o:=du) 3 (by simp(disch:=first|decide|omega) only[ab,aa]) (by decide) (by decide) (by simp(disch:=first|decide|omega) only[ab,aa]<;>rfl) (aq ah eR) (aj (o:=gp 8 ([]:fj)) 4 (by simp(disch:=first|decide|omega) only[ab,aa]) (by decide) (by decide) (by simp(disch:=first|decide|omega) only[ab,aa]<;>rfl) (jY .nil) bj)))) .nil) ?_;refine bw (α:=ZC (ao l)) (fun y=>⟨aI [(0,some (.pointer (some ⟨0,0,none⟩))),(4,some (.pointer (some ⟨3,0,none⟩))),(8,some (.map (some 4))),(31,some (al an l)),(32,some (.int .i64 (ln:Int))),(33,some (.int .i64 (y.i:Int)))],wd ([(0,some (aJ es 1)),(1,bG es),(3,some du)]++((4,some (gp 8 y.rs))::eC an 58 8 y.rs 0)) (y.rs.length+8) [] 0,[]⟩) (fun y=>ln-y.i) ?_ ⟨0,[],Z3 _,⟨Nat.le_refl _,fun p hp=>(by cases hp),aa2⟩,rfl⟩;intro ⟨i,rs,hi,hg,heq⟩;simp only;rw[<-hln]at hi;have hrl4:=hg.len;by_cases hlt:i<ln
   ·have hlt2:i<(ao l).length:=by omega
    obtain⟨x,hx⟩:∃x,x=(ao l)[i]:=⟨_,rfl⟩;have hxm:x∈ao l:=by rw[hx];exact aay hlt2
    have hix:∀j,dB Tryz.prog (some (.slice 58)) (some (al an l)) (some (.int j ((i:Nat):Int)))=some (.val (some (FP [.int .i64 x.id,.int .i64 x.dim,al az x.sides]))):=fun j=>by rw[hx];exact xx hlt2
    have hos:bk (al az x.sides)=true:=bL _;have hnxt:(ao l).drop i=x::(ao l).drop (i+1):=by rw[hx];exact aac hlt2
    rw[hnxt,aaR]at heq;have hx0:=hgood.pos x hxm;have hx1:=hb x hxm;have hwq:IntKind.i64.wrap (x.id.tdiv ((16:Nat):Int))=gT x:=by unfold gT;rw[aa0 (by omega)];exact(wrap_i64 (by omega) (by omega)).trans (aa0 (by omega)).symm
    refine ae (ac (dm hS) (by simp(disch:=first|decide|omega) only[go_sem]<;>with_reducible rfl) ?_);refine ae (aZ (by simp(disch:=first|decide|omega) only[go_sem]<;>with_reducible rfl) ?_);refine aH ?_;refine ae (aD ?_);refine ae (ac (dm hS) (by simp(disch:=first|decide|omega) only[hix,hos,fB,go_sem]<;>with_reducible rfl) ?_);refine ae (ac (dm hS) (by simp(disch:=first|decide|omega) only[hwq,go_sem]<;>with_reducible rfl) ?_);refine aU (s':=⟨aI [(0,some (.pointer (some ⟨0,0,none⟩))),(4,some (.pointer (some ⟨3,0,none⟩))),(8,some (.map (some 4))),(31,some (al an l)),(32,some (.int .i64 (ln:Int))),(33,some (.int .i64 (i:Int))),(10,some (.pointer (some ⟨5,0,none⟩))),(11,some (.int .i64 (gT x)))],wd ([(0,some (aJ es 1)),(1,bG es),(3,some du),(5,some (xu x))]++((4,some (gp 8 rs))::eC an 58 8 rs 0)) (rs.length+8) [] 0,[]⟩) ?hkp ?qkp
    case hkp=>
     exact u4 (B:=8) (s:=(rs.length+8)) (d:=5) (mp:=4) (e:=58) aW (by omega) (by decide) (by omega) (by decide) (by omega) (by decide) (by omega) (by omega)
      (af (v:=.pointer (some ⟨0,0,none⟩)) (by decide) (by simp(disch:=first|decide|omega) only[ab,aa]<;>rfl) (ay (aL (by omega) (by omega) (by omega))) (af (v:=.pointer (some ⟨3,0,none⟩)) (by decide) (by simp(disch:=first|decide|omega) only[ab,aa]<;>rfl) (ay (aL (by omega) (by omega) (by omega))) (af (v:=.map (some 4)) (by decide) (by simp(disch:=first|decide|omega) only[ab,aa]<;>rfl) (cq (aL (by omega) (by omega) (by omega))) (af (v:=al an l) (by decide) (by simp(disch:=first|decide|omega) only[ab,aa]<;>rfl) (aB aW _ _ ah) (af (v:=.int .i64 (ln:Int)) (by decide) (by simp(disch:=first|decide|omega) only[ab,aa]<;>rfl) (ar 1 rfl) (af (v:=.int .i64 (i:Int)) (by decide) (by simp(disch:=first|decide|omega) only[ab,aa]<;>rfl) (ar 1 rfl) (af (v:=.pointer (some ⟨rs.length+8,0,none⟩)) (by decide) (by simp(disch:=first|decide|omega) only[ab,aa]<;>rfl) (ay kW) (af (v:=.int .i64 (gT x)) (by decide) (by simp(disch:=first|decide|omega) only[ab,aa]<;>rfl) (ar 1 rfl) aR))))))))
      (fun m o h=>by
       have hm:=bX h;simp only[ZU,ZS,or_false,Prod.mk.injEq,Option.some.injEq]at hm;rcases hm with⟨rfl,rfl⟩|⟨rfl,hh⟩|⟨rfl,rfl⟩|⟨rfl,rfl⟩
       ·exact⟨by decide,by decide,0,(aL (by omega) (by omega) (by omega)),by omega,by simp(disch:=first|decide|omega) only[ab,aa]<;>rfl,(iT (aL (by omega) (by omega) (by omega)))⟩
       ·exact⟨by decide,by decide,1,(aL (by omega) (by omega) (by omega)),by omega,by simp(disch:=first|decide|omega) only[ab,aa];exact hh.symm,j5 ah es _ hh.symm⟩
       ·exact⟨by decide,by decide,3,(aL (by omega) (by omega) (by omega)),by omega,by simp(disch:=first|decide|omega) only[ab,aa]<;>rfl,aq ah eR⟩
       exact⟨by decide,by decide,(rs.length+8),kW,by omega,by simp(disch:=first|decide|omega) only[ab,aa]<;>rfl,aq ah (wT x)⟩)
      (fun p hp=>by simp only[ZU,ZS,or_false]at hp;rcases hp with rfl|rfl|rfl|rfl<;>exact⟨by simp only;decide,by simp only;decide⟩) (by simp(disch:=first|decide|omega) only[ab,aa]<;>rfl) (fun j hj=>by simp(disch:=first|decide|omega) only[ab,aa];rw[dK,if_pos (by omega),show 8+j-(8+0)=j by omega])
    simp only[List.cons_append,List.nil_append];obtain⟨J,hJ⟩:∃J,J=gD (gT x) x rs:=⟨_,rfl⟩;rw[<-hJ]at heq;have hgJ:wz (ao l) (i+1) J:=by rw[hJ];exact Fq hg hxm
    refine jb (Q:=xO Tryz.prog kk ⟨aI [(0,some (.pointer (some ⟨0,0,none⟩))),(4,some (.pointer (some ⟨3,0,none⟩))),(8,some (.map (some 4))),(31,some (al an l)),(32,some (.int .i64 (ln:Int))),(33,some (.int .i64 (i:Int)))],wd ([(0,some (aJ es 1)),(1,bG es),(3,some du)]++((4,some (gp 8 J))::eC an 58 8 J 0)) (J.length+8) [] 0,[]⟩) ?q11 ?h11
    case h11=>
     have hz3:=fun z=>nW (P:=Tryz.prog) (T:=3) Tryz.underlying3 (f:=gq 8) (gT x) rs (c:=rs.length) (z:=z) (ok:=false)
     cases hxk:fq (gT x) rs 0 with
     |none=>
      have hg0:=iu.1 hxk;rw[hxk]at hz3;have hplc:gW (gT x) rs=rs.length:=by unfold gW;rw[hxk]
      have hM3:J=cJ (gT x) [x] rs:=by rw[hJ];unfold gD;rw[hg0];rfl
      have hup3:∀W,jh Tryz.prog W 4 3 (.int .i64 (gT x)) (.slice (some ⟨rs.length+8+1,0,none⟩) 1 aM) (some (.map (bn (gq 8) rs 0) rs.length))=some (.mod undef (W.put 4 (some (.map (kR (gT x) (.slice (some ⟨rs.length+8+1,0,none⟩) [x].length aM) (gq 8) rs) (cJ (gT x) [x] rs).length)))):=fun W=>pB Tryz.underlying3 [x]
      refine ac (dm hS) (s':=?sxu) ?hxu (gQ ?lxu)
      case hxu=>simp(disch:=first|decide|omega) only[gp,xu,hos,hz3,hup3,Z6,aaW,show bm 0=false from rfl,go_sem]<;>with_reducible rfl
      rw[hM3];exact lR (B:=8) (s:=rs.length+8+1) (mp:=4) (k:=gT x) (b:=[x]) (rs:=rs) (enc:=an) (e:=58) aW (by omega) (by decide) (by omega) (by omega) (by omega)
       (af (v:=.pointer (some ⟨0,0,none⟩)) (by decide) (by simp(disch:=first|decide|omega) only[ab,aa]<;>rfl) (ay (aL (by omega) (by omega) (by omega))) (af (v:=.pointer (some ⟨3,0,none⟩)) (by decide) (by simp(disch:=first|decide|omega) only[ab,aa]<;>rfl) (ay (aL (by omega) (by omega) (by omega))) (af (v:=.map (some 4)) (by decide) (by simp(disch:=first|decide|omega) only[ab,aa]<;>rfl) (cq (aL (by omega) (by omega) (by omega))) (af (v:=al an l) (by decide) (by simp(disch:=first|decide|omega) only[ab,aa]<;>rfl) (aB aW _ _ ah) (af (v:=.int .i64 (ln:Int)) (by decide) (by simp(disch:=first|decide|omega) only[ab,aa]<;>rfl) (ar 1 rfl) (af (v:=.int .i64 (i:Int)) (by decide) (by simp(disch:=first|decide|omega) only[ab,aa]<;>rfl) (ar 1 rfl) aR))))))
       (fun m o h=>by
        have hm:=bX h;simp only[ZU,ZS,or_false,Prod.mk.injEq,Option.some.injEq]at hm;rcases hm with⟨rfl,rfl⟩|⟨rfl,hh⟩|⟨rfl,rfl⟩
        ·exact⟨by decide,by decide,by simp(disch:=first|decide|omega) only[ab,aa]<;>rfl,(iT (aL (by omega) (by omega) (by omega)))⟩
        ·exact⟨by decide,by decide,by simp(disch:=first|decide|omega) only[ab,aa];exact hh.symm,j5 ah es _ hh.symm⟩
        exact⟨by decide,by decide,by simp(disch:=first|decide|omega) only[ab,aa]<;>rfl,aq ah eR⟩)
       (fun p hp=>by simp only[ZU,ZS,or_false]at hp;rcases hp with rfl|rfl|rfl<;>exact⟨by simp only;decide,by simp only;decide⟩) (by simp(disch:=first|decide|omega) only[ab,aa]<;>rfl) (by simp(disch:=first|decide|omega) only[ab,aa]<;>rfl) (fun j hj hne=>by simp(disch:=first|decide|omega) only[ab,aa];rw[dK,if_pos (by omega),show 8+j-(8+0)=j by omega])
     |some q0=>
      obtain⟨i0,l0⟩:=q0;have hsp:=eY hxk;rw[aad,Nat.zero_add]at hsp;have hi0:=hsp.2.1;have hg1:bz (gT x) rs=some l0:=by rw[<-iJ (gT x) rs 0,hxk];rfl
      have hplc:gW (gT x) rs=i0:=by unfold gW;rw[hxk]
      have hM3:J=cJ (gT x) (l0++[x]) rs:=by rw[hJ];unfold gD;rw[hg1];rfl
      have hll:=(hg.mem _ (iK hg1)).1;simp only at hll;have hrl:(l0.flatMap an).length=l0.length*3:=dF cD _;have hal:=Ss l0;have hsn:(l0++[x]).flatMap an=l0.flatMap an++[.int .i64 x.id,.int .i64 x.dim,al az x.sides]:=by rw[aap];rfl
      have hrt:(l0.flatMap an).take (l0.length*3)=l0.flatMap an:=List.take_of_length_le (by rw[hrl];exact Nat.le_refl _);have hbl:(l0++[x]).length=l0.length+1:=by simp
      refine aU (s':=⟨aI [(0,some (.pointer (some ⟨0,0,none⟩))),(4,some (.pointer (some ⟨3,0,none⟩))),(8,some (.map (some 4))),(31,some (al an l)),(32,some (.int .i64 (ln:Int))),(33,some (.int .i64 (i:Int))),(10,some (.pointer (some ⟨5,0,none⟩))),(11,some (.int .i64 (gT x)))],wd ((7,(rs[i0]?).map fun x=>kS an 58 x.2)::(8+i0,none)::([(0,some (aJ es 1)),(1,bG es),(3,some du),(5,some (xu x))]++((4,some (.map (bn (eB 8 7 i0) rs 0) rs.length))::eC an 58 8 rs 0))) (rs.length+8) [] 0,[]⟩) ?hfoc ?qfoc
      case hfoc=>
       exact rK (B:=8) (d:=7) (mp:=4) (i0:=i0) (e:=58) aW (by omega) (by decide) hi0 (by decide) (by omega) (by decide) (by omega) (by omega)
        (af (v:=.pointer (some ⟨0,0,none⟩)) (by decide) (by simp(disch:=first|decide|omega) only[ab,aa]<;>rfl) (ay (aL (by omega) (by omega) (by omega))) (af (v:=.pointer (some ⟨3,0,none⟩)) (by decide) (by simp(disch:=first|decide|omega) only[ab,aa]<;>rfl) (ay (aL (by omega) (by omega) (by omega))) (af (v:=.map (some 4)) (by decide) (by simp(disch:=first|decide|omega) only[ab,aa]<;>rfl) (cq (aL (by omega) (by omega) (by omega))) (af (v:=al an l) (by decide) (by simp(disch:=first|decide|omega) only[ab,aa]<;>rfl) (aB aW _ _ ah) (af (v:=.int .i64 (ln:Int)) (by decide) (by simp(disch:=first|decide|omega) only[ab,aa]<;>rfl) (ar 1 rfl) (af (v:=.int .i64 (i:Int)) (by decide) (by simp(disch:=first|decide|omega) only[ab,aa]<;>rfl) (ar 1 rfl) (af (v:=.pointer (some ⟨5,0,none⟩)) (by decide) (by simp(disch:=first|decide|omega) only[ab,aa]<;>rfl) (ay (aL (by omega) (by omega) (by omega))) (af (v:=.int .i64 (gT x)) (by decide) (by simp(disch:=first|decide|omega) only[ab,aa]<;>rfl) (ar 1 rfl) aR))))))))
        (fun m o h=>by
         have hm:=bX h;simp only[ZU,ZS,or_false,Prod.mk.injEq,Option.some.injEq]at hm;rcases hm with⟨rfl,rfl⟩|⟨rfl,hh⟩|⟨rfl,rfl⟩|⟨rfl,rfl⟩
         ·exact⟨by omega,by omega,by omega,by omega,by simp(disch:=first|decide|omega) only[ab,aa]<;>rfl,(iT (aL (by omega) (by omega) (by omega)))⟩
         ·exact⟨by omega,by omega,by omega,by omega,by simp(disch:=first|decide|omega) only[ab,aa];exact hh.symm,j5 ah es _ hh.symm⟩
         ·exact⟨by omega,by omega,by omega,by omega,by simp(disch:=first|decide|omega) only[ab,aa]<;>rfl,aq ah eR⟩
         exact⟨by omega,by omega,by omega,by omega,by simp(disch:=first|decide|omega) only[ab,aa]<;>rfl,aq ah (wT x)⟩)
        (fun p hp=>by simp only[ZU,ZS,or_false]at hp;rcases hp with rfl|rfl|rfl|rfl<;>exact⟨by simp only;omega,by simp only;omega,by simp only;omega⟩) (by simp(disch:=first|decide|omega) only[ab,aa]<;>rfl) (fun j hj=>by simp(disch:=first|decide|omega) only[ab,aa];rw[dK,if_pos (by omega),show 8+j-(8+0)=j by omega])
      rw[hsp.2.2];have hz4:∀z,jJ Tryz.prog 3 (.int .i64 (gT x)) false (some (bn (eB 8 7 i0) rs 0,rs.length)) (some z)=some (.val (some (.slice (some ⟨7,0,none⟩) l0.length aM))):=fun z=>by
       rw[nW (P:=Tryz.prog) (T:=3) Tryz.underlying3,hxk];show some (XR.val (some (eB 8 7 i0 i0 l0)))=_;unfold eB;rw[if_pos rfl]
      have hup4:∀W,jh Tryz.prog W 4 3 (.int .i64 (gT x)) (.slice (some ⟨rs.length+8+1,0,none⟩) (l0.length+1) aM) (some (.map (bn (eB 8 7 i0) rs 0) rs.length))=some (.mod undef (W.put 4 (some (.map (kR (gT x) (.slice (some ⟨rs.length+8+1,0,none⟩) (l0++[x]).length aM) (gq 8) rs) (cJ (gT x) (l0++[x]) rs).length)))):=fun W=>by
       rw[hbl,pB Tryz.underlying3 (l0++[x]),n3 (g:=gq 8) fun q x h1 h2=>by unfold eB;rw[if_neg (by rw[<-hplc];exact h2)]]
      refine ac (dm hS) (s':=?sxd) ?hxd (gQ ?lxd)
      case hxd=>simp(disch:=first|decide|omega) only[ZW,kS,xu,hos,hz4,hup4,hrl,hrt,hal,List.take_of_length_le,go_sem]<;>with_reducible rfl
      rw[hM3,<-hsn];exact lR (B:=8) (s:=rs.length+8+1) (mp:=4) (k:=gT x) (b:=(l0++[x])) (rs:=rs) (enc:=an) (e:=58) aW (by omega) (by decide) (by omega) (by omega) (by omega)
       (af (v:=.pointer (some ⟨0,0,none⟩)) (by decide) (by simp(disch:=first|decide|omega) only[ab,aa]<;>rfl) (ay (aL (by omega) (by omega) (by omega))) (af (v:=.pointer (some ⟨3,0,none⟩)) (by decide) (by simp(disch:=first|decide|omega) only[ab,aa]<;>rfl) (ay (aL (by omega) (by omega) (by omega))) (af (v:=.map (some 4)) (by decide) (by simp(disch:=first|decide|omega) only[ab,aa]<;>rfl) (cq (aL (by omega) (by omega) (by omega))) (af (v:=al an l) (by decide) (by simp(disch:=first|decide|omega) only[ab,aa]<;>rfl) (aB aW _ _ ah) (af (v:=.int .i64 (ln:Int)) (by decide) (by simp(disch:=first|decide|omega) only[ab,aa]<;>rfl) (ar 1 rfl) (af (v:=.int .i64 (i:Int)) (by decide) (by simp(disch:=first|decide|omega) only[ab,aa]<;>rfl) (ar 1 rfl) aR))))))
       (fun m o h=>by
        have hm:=bX h;simp only[ZU,ZS,or_false,Prod.mk.injEq,Option.some.injEq]at hm;rcases hm with⟨rfl,rfl⟩|⟨rfl,hh⟩|⟨rfl,rfl⟩
        ·exact⟨by decide,by decide,by simp(disch:=first|decide|omega) only[ab,aa]<;>rfl,(iT (aL (by omega) (by omega) (by omega)))⟩
        ·exact⟨by decide,by decide,by simp(disch:=first|decide|omega) only[ab,aa];exact hh.symm,j5 ah es _ hh.symm⟩
        exact⟨by decide,by decide,by simp(disch:=first|decide|omega) only[ab,aa]<;>rfl,aq ah eR⟩)
       (fun p hp=>by simp only[ZU,ZS,or_false]at hp;rcases hp with rfl|rfl|rfl<;>exact⟨by simp only;decide,by simp only;decide⟩) (by simp(disch:=first|decide|omega) only[ab,aa]<;>rfl) (by simp(disch:=first|decide|omega) only[ab,aa]<;>rfl) (fun j hj hne=>by simp(disch:=first|decide|omega) only[ab,aa];rw[dK,if_pos (by omega),show 8+j-(8+0)=j by omega])
    intro e sq ⟨he,hlq⟩;subst he;show bA _ _ _ _ _ _;refine aU hlq ?_;refine ac (dm hS) (by simp(disch:=first|decide|omega) only[go_sem]<;>with_reducible rfl) ?_;refine⟨⟨i+1,J,by omega,hgJ,heq⟩,by simp only;omega,?_⟩;exact u5 (by simp(disch:=decide) [ai,ab,aa,ag])
   rw[Z5 (by omega)]at heq;have heq:rs=i9 (ao l):=heq;refine ae (ac (dm hS) (by simp(disch:=decide) only[go_sem]<;>with_reducible rfl) ?_);refine ae (aO (by simp(disch:=first|decide|omega) only[go_sem]<;>with_reducible rfl) ?_);refine bp ?_;refine⟨rfl,?_⟩;rw[<-heq];exact u5 (by simp(disch:=decide) [ai,ab,aa,ag])
  intro e sq ⟨he,hlq⟩;subst he;show bA _ _ _ _ _ _;refine aU hlq ?_;have hgr:=yx (ao l);have hbk:=fun k b=>Ow (k:=k) (b:=b) hgood hb
  rw[<-hln]at hgr;obtain⟨rs,hrs⟩:∃rs,rs=i9 (ao l):=⟨_,rfl⟩;rw[<-hrs]at hgr hbk ⊢;clear hb hgood hol hln hrs;have hrs4:=hgr.len;simp only[List.cons_append,List.nil_append];refine aU (kB (e:=58) (enc:=an) (B:=8) (mp:=4) (w:=3) (A:=[(0,some (aJ es 1)),(1,bG es),(3,some du)]) cD (by decide) (by omega) (by omega) (fun x hx=>by have:=(hgr.mem x hx).1;show _<=4611686018427387904;omega) (fun p hp=>by simp only[ZU,ZS,or_false]at hp;rcases hp with rfl|rfl|rfl<;>exact⟨by simp only;omega,by simp only;decide⟩) rs.length 0 _ (Nat.zero_add _) rfl (fun j _ hj=>by simp(disch:=first|decide|omega) only[ab,aa];rw[dK,if_pos (by omega),show 8+j-(8+0)=j by omega]) (fun m o h=>by
   have hm:=bX h;simp only[ZU,ZS,or_false,Prod.mk.injEq,Option.some.injEq]at hm;rcases hm with⟨rfl,rfl⟩|⟨rfl,hh⟩|⟨rfl,rfl⟩
   ·exact⟨by omega,rfl⟩
   ·exact⟨by omega,by simp(disch:=decide) only[ab,aa];exact hh.symm⟩
   exact⟨by omega,rfl⟩)) ?_
  simp only[List.cons_append,List.nil_append];refine aU (s':=⟨aI [(0,some (.pointer (some ⟨0,0,none⟩))),(4,some (.pointer (some ⟨3,0,none⟩))),(8,some (.map (some 4)))],wd [(0,some (aJ es 1)),(1,bG es),(3,some (du)),(4,some (cT rs))] 5 [] 0,[]⟩) (aV [(0,some 0),(1,some 1),(3,some 3),(4,some 4)] [(0,some 0),(1,some 1),(3,some 3),(4,some 4)] (by rcases hk12 with h|h<;>(rw[h];decide)) (by decide) (by rcases hk12 with h|h<;>(rw[h];decide)) (af (by decide) rfl (ay rfl) (af (by decide) rfl (ay rfl) (af (by decide) rfl (cq rfl) aR))) (aj 0 rfl (by omega) (by decide) rfl (iT rfl) (gc 1 rfl (by omega) (by decide) rfl (j5 ah es) (aj 3 rfl (by omega) (by decide) rfl (aq ah eR) (aj 4 rfl (by omega) (by decide) rfl (aq ah (fV _)) bj)))) .nil) ?_;refine ae (ac (e:=?e15) (s':=?s15) (dm hS) ?h15 ?q15)
  case h15=>simp(disch:=decide) only[go_sem];all_goals rfl
  have hds:qK [2,rs.length] []:=⟨fun n h=>by simp only[ZU,ZS,or_false]at h;rcases h with rfl|rfl<;>omega,by show 2<=1000000;decide,by simp,by decide⟩;refine ae (cI ?_);refine aP (dm hS) 1 (s1:=?Bs0) ?B0 (aP (dm hS) 1 (s1:=?Bs1) ?B1 (aP (dm hS) 1 (s1:=?Bs2) ?B2 (aP (dm hS) 1 (s1:=?Bs3) ?B3 ?_)))
  case B0=>simp(disch:=decide) only[go_sem];all_goals rfl
  case B1=>simp(disch:=decide) only[go_sem];all_goals rfl
  case B2=>simp(disch:=decide) only[cT,gO,go_sem];all_goals rfl
  case B3=>simp(disch:=decide) only[go_sem];all_goals rfl
  refine ec (s':=⟨aI [(54,some (al au (some (nI [2,rs.length])))),(51,some (.pointer (some ⟨5,0,none⟩))),(0,some (.pointer (some ⟨0,0,none⟩))),(4,some (.pointer (some ⟨3,0,none⟩))),(8,some (.map (some 4))),(12,some (.pointer (some ⟨5,0,none⟩)))],wd ((6,none)::[(0,some (aJ es 1)),(1,bG es),(3,some (du)),(4,some (cT rs)),(5,some (jG))]) 7 [] 0,[]⟩) (dH (x:=6) (c:=[.int .i64 ((2:Nat):Int),.int .i64 (rs.length:Int)]) rfl (by decide) (by decide)
   (af (by decide) rfl (by have:=gz (n:=6) (o:=0) (len:=2) (cap:=2) (q:=2) (c:=[.int .i64 ((2:Nat):Int),.int .i64 (rs.length:Int)]) (Nat.le_refl _) (fun h=>by cases h);exact this) (af (by decide) rfl bP (af (by decide) rfl bP (af (by decide) rfl bP (af (by decide) rfl bP (af (by decide) rfl bP aR))))))
   [(0,some (aJ es 1)),(1,bG es),(3,some (du)),(4,some (cT rs)),(5,some (jG))] (fun m o' h _=>by
    by_cases ex:6=m
    ·subst ex;rw[ab]at h;cases h
    rw[aa ex]at h;by_cases e0:0=m
    ·subst e0;rw[ab]at h;cases h;exact⟨_,rfl,eb⟩
    rw[aa e0]at h;by_cases e1:1=m
    ·subst e1;rw[ab]at h;exact⟨o',by simp(disch:=decide) only[ab,aa];exact h,eb⟩
    rw[aa e1]at h;by_cases e3:3=m
    ·subst e3;rw[ab]at h;cases h;exact⟨_,rfl,eb⟩
    rw[aa e3]at h;by_cases e4:4=m
    ·subst e4;rw[ab]at h;cases h;exact⟨_,rfl,eb⟩
    rw[aa e4]at h;by_cases e5:5=m
    ·subst e5;rw[ab]at h;cases h;exact⟨_,rfl,eb⟩
    rw[aa e5]at h;rw[ag]at h;cases h) .nil) ?_
  have hgB:ve [.pointer (some ⟨5,0,none⟩),al au (some (nI [2,rs.length]))] (wd ((6,none)::[(0,some (aJ es 1)),(1,bG es),(3,some (du)),(4,some (cT rs)),(5,some (jG))]) 7 [] 0)=_:=IY (w:=5) (by rw[bO (by decide) (by decide)];simp(disch:=decide) only[ab,aa]) hds;refine aP (dm hS) 1 (s1:=?Bsz) ?Bzz (cY ?Bq)
  case Bzz=>simp(disch:=decide) only[sW,hgB,go_sem];all_goals rfl
  show bA _ _ _ _ _ _;obtain⟨acc0,hacc⟩:∃a,a=eF [2,rs.length]:=⟨_,rfl⟩;rw[<-hacc];refine aU (s':=⟨aI [(0,some (.pointer (some ⟨0,0,none⟩))),(4,some (.pointer (some ⟨3,0,none⟩))),(8,some (.map (some 4))),(12,some (.pointer (some ⟨5,0,none⟩)))],wd [(0,some (aJ es 1)),(1,bG es),(3,some (du)),(4,some (cT rs)),(5,some (cR 5 6 (acc0))),(6,some (bZ (acc0)))] 7 [] 0,[]⟩) (aV [(0,some 0),(1,some 1),(3,some 3),(4,some 4),(5,some 5),(7,some 6)] [(0,some 0),(1,some 1),(3,some 3),(4,some 4),(5,some 5),(6,some 7)] (by rcases hk12 with h|h<;>(rw[h];decide)) (by decide) (by rcases hk12 with h|h<;>(rw[h];decide)) (af (by decide) rfl (ay rfl) (af (by decide) rfl (ay rfl) (af (by decide) rfl (cq rfl) (af (by decide) rfl (ay rfl) aR)))) (aj 0 rfl (by decide) (by decide) rfl (iT rfl) (gc 1 rfl (by decide) (by decide) rfl (j5 ah es) (aj 3 rfl (by decide) (by decide) rfl (aq ah eR) (aj 4 rfl (by decide) (by decide) rfl (aq ah (fV _)) (aj 5 rfl (by decide) (by decide) rfl (bJ (ax (ay rfl) (ax (bI rfl) aX))) (aj 7 rfl (by decide) (by decide) rfl (de _ ah) bj)))))) .nil) ?_;obtain⟨ks,hks⟩:∃ks,ks=f9 (mh rs):=⟨_,rfl⟩;have hkl:ks.length=rs.length:=by rw[hks,oH];exact aaq ..
  have hkm:∀k∈ks,∃b,(k,b)∈rs:=fun k hk=>by
   rw[hks]at hk;have:=(nZ _).mem_iff.1 hk;obtain⟨p,hp,rfl⟩:=List.mem_map.1 this;exact⟨p.2,hp⟩
  obtain⟨ko,hko⟩:∃ko,ko=oO ks:=⟨_,rfl⟩;obtain⟨kn,hkn⟩:∃n,n=ks.length:=⟨_,rfl⟩;rw[<-hks];refine ae ?_;have hgK:uJ [.map (some 4)] (wd [(0,some (aJ es 1)),(1,bG es),(3,some (du)),(4,some (cT rs)),(5,some (cR 5 6 (acc0))),(6,some (bZ (acc0)))] 7 [] 0)=_:=OX (rs:=rs) (by rw[bO (by decide) (by decide)];simp(disch:=decide) only[ab,aa]);have hgS:mO [sP 7] (wd ((7,some (rP 4))::[(0,some (aJ es 1)),(1,bG es),(3,some (du)),(4,some (cT rs)),(5,some (cR 5 6 (acc0))),(6,some (bZ (acc0)))]) 8 [] 0)=_:=Kj (b:=7) (m:=4) (rs:=rs) (by rw[bO (by decide) (by decide)];simp(disch:=decide) only[ab,aa]) (by rw[bO (by decide) (by decide)];simp(disch:=decide) only[ab,aa]) (by omega);have hoq:bk (sP 7)=true:=rfl;refine cP (dm hS) ⟨aI [(58,some (al au ko)),(59,some (.int .i64 (kn:Int))),(60,some (.int .i64 (((0:Nat):Int):Int))),(0,some (.pointer (some ⟨0,0,none⟩))),(4,some (.pointer (some ⟨3,0,none⟩))),(8,some (.map (some 4))),(12,some (.pointer (some ⟨5,0,none⟩)))],wd [(0,some (aJ es 1)),(1,bG es),(3,some (du)),(4,some (cT rs)),(5,some (cR 5 6 (acc0))),(6,some (bZ (acc0)))] 7 [] 0,[]⟩ ?hd15 ?qd15
  case hd15=>
   rw[hko,hkn];rcases hrr:rs with _|⟨r0,rl⟩
   ·have hk0:ks=[]:=List.length_eq_zero_iff.1 (by rw[hkl,hrr];rfl);rw[hrr]at hgS hgK;rw[hk0];refine⟨?si3,?ai3,?bi3⟩
    case ai3=>simp(disch:=decide) only[sW,hgK,hgS,hoq,wi.eq_1,List.length_nil,cA.eq_1,di,gR,go_sem];all_goals rfl
    exact aV [(0,some 0),(1,some 1),(3,some 3),(4,some 4),(5,some 5),(6,some 6)] [(0,some 0),(1,some 1),(3,some 3),(4,some 4),(5,some 5),(6,some 6)] (by rcases hk12 with h|h<;>(rw[h];decide)) (by decide) (by rcases hk12 with h|h<;>(rw[h];decide)) (af (by decide) rfl (ar 1 rfl) (af (by decide) rfl (ar 1 rfl) (af (by decide) rfl (ar 1 rfl) (af (by decide) rfl (ay rfl) (af (by decide) rfl (ay rfl) (af (by decide) rfl (cq rfl) (af (by decide) rfl (ay rfl) aR))))))) (aj 0 rfl (by decide) (by decide) rfl (iT rfl) (gc 1 rfl (by decide) (by decide) rfl (j5 ah es) (aj 3 rfl (by decide) (by decide) rfl (aq ah eR) (aj 4 rfl (by decide) (by decide) rfl (aq ah (fV _)) (aj 5 rfl (by decide) (by decide) rfl (bJ (ax (ay rfl) (ax (bI rfl) aX))) (aj 6 rfl (by decide) (by decide) rfl (de _ ah) bj)))))) .nil
   rw[<-hrr];have hrp:0<ks.length:=by rw[hkl,hrr];simp
   have hsw:∀W,wi rs W 7=(W.put 7 none).push (Bw ks):=fun W=>by rw[hks,hrr];rfl
   have hgv:∀n,cA n rs.length=.slice (some ⟨n,0,none⟩) ks.length aM:=fun n=>by rw[hkl,hrr];rfl
   rw[ky hrp];refine⟨?si4,?ai4,?bi4⟩
   case ai4=>simp(disch:=decide) only[sW,hgK,hgS,hoq,hsw,hgv,di,gR,go_sem];all_goals rfl
   exact gy (t:=58) (x:=8) (len:=ks.length) (cap:=aM) (l:=ks) (c:=ks.flatMap au) rfl (by decide) rfl (by decide) (by decide) rfl rfl (by show _<=4611686018427387904;omega) ba (by simp(disch:=decide) [ai,ab,aa,ag]) (by omega) (by decide)
    (fun m o h=>by
     have hm:=bX h;simp only[ZU,ZS,or_false,Prod.mk.injEq,Option.some.injEq]at hm;rcases hm with⟨rfl,rfl⟩|⟨rfl,hh⟩|⟨rfl,rfl⟩|⟨rfl,rfl⟩|⟨rfl,rfl⟩|⟨rfl,rfl⟩
     ·exact⟨by decide,by decide,rfl,(iT (iy (by decide)))⟩
     ·exact⟨by decide,by decide,by simp(disch:=decide) only[ab,aa];exact hh.symm,j5 ah es _ hh.symm⟩
     ·exact⟨by decide,by decide,rfl,(aq ah eR)⟩
     ·exact⟨by decide,by decide,rfl,(aq ah (fV _))⟩
     ·exact⟨by decide,by decide,rfl,(bJ (ax (ay (iy (by decide))) (ax (bI (iy (by decide))) aX)))⟩
     exact⟨by decide,by decide,rfl,(de _ ah)⟩) (kb cQ (kb cQ (kp (by decide) (kp (by decide) (km (by decide) (kp (by decide) trivial))))))
  have hok:bk (al au ko)=true:=bL _;have hlk:ao ko=ks:=by rw[hko,iz]
  clear hgK hgS hoq;have hdl:(eF [2,rs.length]).length<=20:=iW (fun n h=>aa4 (hds.1 n h) (by decide));have hdp:0<(eF [2,rs.length]).length:=by unfold eF;rw[Z8,ZM];have:=A3 2;omega
  rw[<-hacc]at hdl hdp;have hldI:∀W a,fo Tryz.prog W 3 (FP [.int .i64 a])=some (.int .i64 a):=fun W a=>xF a
  refine aD ?_;refine bw (α:=Y2 rs ks es kk) (fun y=>⟨aI [(58,some (al au ko)),(59,some (.int .i64 (kn:Int))),(60,some (.int .i64 (y.i:Int))),(0,some (.pointer (some ⟨0,0,none⟩))),(4,some (.pointer (some ⟨3,0,none⟩))),(8,some (.map (some 4))),(12,some (.pointer (some ⟨5,0,none⟩)))],wd [(0,some (aJ y.es' 1)),(1,bG y.es'),(3,some (du)),(4,some (cT rs)),(5,some (cR 5 6 (y.acc))),(6,some (bZ (y.acc)))] 7 [] 0,[]⟩) (fun y=>ks.length-y.i) ?_ ⟨0,es,acc0,Z3 _,rfl,by rw[hacc];rfl,⟨hdp,by omega⟩,fun h=>by rcases hcase with q|q;exact q.1;exact absurd h q.2⟩;clear hacc hdl hdp hds;clear acc0;intro ⟨i,es1,acc,hi,heE,heA,⟨hap,hal⟩,hq⟩;simp only;by_cases hlt:i<ks.length
  ·obtain⟨k,hk⟩:∃k,k=ks[i]:=⟨_,rfl⟩;have hix:∀t,dB Tryz.prog (some (.slice 3)) (some (al au ko)) (some (.int t ((i:Nat):Int)))=some (.val (some (FP [.int .i64 k]))):=fun t=>by
    have h:=kC (o:=ko) (i:=i) (j:=t) (by rw[hlk];exact hlt);simp only[hlk]at h;rw[hk];exact h
   have hnxt:ks.drop i=k::ks.drop (i+1):=by rw[hk];exact aac hlt
   obtain⟨b,hkb⟩:=hkm k (by rw[hk];exact aay hlt);have hgk:bz k rs=some b:=zW hgr.nd hkb;obtain⟨hk0,hbl⟩:=hbk k b hkb;rw[hnxt]at heE heA;clear hk hnxt;obtain⟨kN,hkc⟩:∃n:Nat,k=(n:Int):=⟨k.toNat,by omega⟩;subst hkc;rw[aaF]at hbl;obtain⟨ob,hob⟩:∃ob,ob=Af rs (kN:Int):=⟨_,rfl⟩;have hobv:ob=lX kN b:=by rw[hob];unfold Af;rw[hgk,aaF];rfl
   have hobl:ob.length<=140737488351232:=by rw[hobv];have:=Mo hbl;have:=hbl.hn;omega
   have heE:l9 rs (ks.drop (i+1)) (gK es1 ob)=l9 rs ks es:=by rw[hob];exact heE
   have hlf:uF rs (kN:Int)=eF [kN]++bW ob:=by unfold uF;rw[aaF,<-hob];rfl
   rw[Z8,hlf,<-Z7,<-Z7]at heA;have hz2:jJ Tryz.prog 3 (.int .i64 (kN:Int)) false (some (bn (fun _ l=>al an (some l)) rs 0,rs.length)) (some (.slice none 0 0))=some (.val (some (al an (some b)))):=by have:=qY (P:=Tryz.prog) (T:=3) Tryz.underlying3 (f:=fun l=>al an (some l)) (kN:Int) rs (c:=rs.length) (z:=.slice none 0 0) (ok:=false);rw[this,hgk];rfl
   have hgB:∀W,bu (cN Bf fun c=>.string (str (lX c.k c.l))) [.int .i64 (kN:Int),al an (some b)] W=some (.ret (.string (str ob)),W):=fun W=>by rw[hobv];exact UK hbl
   have hob1:bk (al an (some b))=true:=bL _;have hsl:(bW ob).length=32:=dJ ob;have hbl32:(aF (bW ob)).length=32:=by rw[bK,hsl]
   obtain⟨es2,he2⟩:∃e,e=gK es1 ob:=⟨_,rfl⟩;have hne2:es2≠[]:=by rw[he2];exact oJ _ _
   obtain⟨s2,hs2⟩:=qr hne2;rw[<-he2]at heE;refine ae (ac (e:=?e16) (s':=?s16) (dm hS) ?h16 ?q16)
   case h16=>simp(disch:=decide) only[go_sem];all_goals rfl
   refine ae (aZ (by simp(disch:=first|decide|omega) only[go_sem]<;>with_reducible rfl) ?_);refine aH ?_;refine ae (aD ?_);refine ae (ac (e:=?e18) (s':=?s18) (dm hS) ?h18 ?q18)
   case h18=>simp(disch:=decide) only[hix,hldI,go_sem];all_goals rfl
   refine cP (dm hS) ⟨aI [(14,some (.int .i64 (kN:Int))),(15,some (.pointer (some ⟨7,0,none⟩))),(58,some (al au ko)),(59,some (.int .i64 (kn:Int))),(60,some (.int .i64 (i:Int))),(0,some (.pointer (some ⟨0,0,none⟩))),(4,some (.pointer (some ⟨3,0,none⟩))),(8,some (.map (some 4))),(12,some (.pointer (some ⟨5,0,none⟩)))],wd [(0,some (aJ es2 1)),(1,bG es2),(3,some (du)),(4,some (cT rs)),(5,some (cR 5 6 (acc))),(6,some (bZ (acc))),(7,some (.cells (aF (bW ob)) 24 (0,0)))] 8 [] 0,[]⟩ ?hd18 ?qd18
   case hd18=>
    rcases hee:es1 with _|⟨e0,el⟩
    ·have hk1:=hq hee;rw[hk1];rw[hee]at he2;have hp1:iN [.string (str ob)] []=some (.agg (aF (bW ob)).toArray,es2,.mv):=by rw[oo hobl,<-he2];rfl
     have hgP:ic eN iN [.pointer (some ⟨0,0,none⟩),.string (str ob)] (wd [(0,some (aJ [] 1)),(1,bG []),(3,some (du)),(4,some (cT rs)),(5,some (cR 5 6 (acc))),(6,some (bZ (acc)))] 7 [] 0)=_:=IT (xA (by decide) (by decide) rfl rfl) hp1 hs2;unfold cT at hgP;refine⟨?si5,?ai5,?bi5⟩
     case ai5=>simp(disch:=decide) only[sW,cT,hz2,hgB,hob1,hgP,hbl32,go_sem];all_goals rfl
     rw[hs2];exact aV [(0,some 0),(7,some 1),(3,some 3),(4,some 4),(5,some 5),(6,some 6),(8,some 7)] [(0,some 0),(1,some 7),(3,some 3),(4,some 4),(5,some 5),(6,some 6),(7,some 8)] (by decide) (by decide) (by decide) (af (by decide) rfl (ar 1 rfl) (af (by decide) rfl (ay rfl) (af (by decide) rfl (aB ba _ _ ah) (af (by decide) rfl (ar 1 rfl) (af (by decide) rfl (ar 1 rfl) (af (by decide) rfl (ay rfl) (af (by decide) rfl (ay rfl) (af (by decide) rfl (cq rfl) (af (by decide) rfl (ay rfl) aR))))))))) (aj 0 rfl (by decide) (by decide) rfl (iT rfl) (aj 7 rfl (by decide) (by decide) rfl (eN.bare es2 _ hs2 _ ah) (aj 3 rfl (by decide) (by decide) rfl (aq ah eR) (aj 4 rfl (by decide) (by decide) rfl (aq ah (fV _)) (aj 5 rfl (by decide) (by decide) rfl (bJ (ax (ay rfl) (ax (bI rfl) aX))) (aj 6 rfl (by decide) (by decide) rfl (de _ ah) (aj 8 rfl (by decide) (by decide) rfl (aq ah (bc (dn _))) bj))))))) .nil
    have hne1:es1≠[]:=by rw[hee];simp
    rw[<-hee];have hp1:iN [.string (str ob)] es1=some (.agg (aF (bW ob)).toArray,es2,.pl):=by rw[oo hobl,<-he2,vS hne1];rfl
    have hgP:ic eN iN [.pointer (some ⟨0,0,none⟩),.string (str ob)] (wd [(0,some (aJ es1 1)),(1,bG es1),(3,some (du)),(4,some (cT rs)),(5,some (cR 5 6 (acc))),(6,some (bZ (acc)))] 7 [] 0)=_:=Kl (xA (by decide) (by decide) rfl rfl) hp1 hs2 hne1;unfold cT at hgP;refine⟨?si6,?ai6,?bi6⟩
    case ai6=>simp(disch:=decide) only[sW,cT,hz2,hgB,hob1,hgP,hbl32,go_sem];all_goals rfl
    rw[hs2];exact ak (by simp(disch:=decide) [ai,ab,aa,ag]) (ap (by decide) rfl (ap (by decide) rfl (ap (by decide) rfl (ap (by decide) rfl (ap (by decide) rfl (ap (by decide) rfl (ap (by decide) rfl trivial))))))) (by decide)
   have hkb2:=hbl.hk;have hdD:qK [kN] acc:=⟨fun n h=>by simp only[ZU,ZS,or_false]at h;subst h;omega,by show 1<=1000000;decide,by simp,by omega⟩;refine ae (cI ?_);refine aP (dm hS) 1 (s1:=?Ds0) ?D0 (aP (dm hS) 1 (s1:=?Ds1) ?D1 (aP (dm hS) 1 (s1:=?Ds2) ?D2 ?_))
   case D0=>simp(disch:=decide) only[go_sem];all_goals rfl
   case D1=>simp(disch:=decide) only[go_sem];all_goals rfl
   case D2=>simp(disch:=decide) only[go_sem];all_goals rfl
   refine ec (s':=⟨aI [(73,some (al au (some (nI [kN])))),(71,some (.pointer (some ⟨5,0,none⟩))),(14,some (.int .i64 (kN:Int))),(15,some (.pointer (some ⟨7,0,none⟩))),(58,some (al au ko)),(59,some (.int .i64 (kn:Int))),(60,some (.int .i64 (i:Int))),(0,some (.pointer (some ⟨0,0,none⟩))),(4,some (.pointer (some ⟨3,0,none⟩))),(8,some (.map (some 4))),(12,some (.pointer (some ⟨5,0,none⟩)))],wd ((8,none)::[(0,some (aJ es2 1)),(1,bG es2),(3,some (du)),(4,some (cT rs)),(5,some (cR 5 6 (acc))),(6,some (bZ (acc))),(7,some (.cells (aF (bW ob)) 24 (0,0)))]) 9 [] 0,[]⟩) (dH (x:=8) (c:=[.int .i64 (kN:Int)]) rfl (by decide) (by decide)
    (af (by decide) rfl (by have:=gz (n:=8) (o:=0) (len:=1) (cap:=1) (q:=1) (c:=[.int .i64 (kN:Int)]) (Nat.le_refl _) (fun h=>by cases h);exact this) (af (by decide) rfl bP (af (by decide) rfl bP (af (by decide) rfl bP (af (by decide) rfl bP (af (by decide) rfl bP (af (by decide) rfl bP (af (by decide) rfl bP (af (by decide) rfl bP (af (by decide) rfl bP (af (by decide) rfl bP aR)))))))))))
    [(0,some (aJ es2 1)),(1,bG es2),(3,some (du)),(4,some (cT rs)),(5,some (cR 5 6 (acc))),(6,some (bZ (acc))),(7,some (.cells (aF (bW ob)) 24 (0,0)))] (fun m o' h _=>by
     by_cases ex:8=m
     ·subst ex;rw[ab]at h;cases h
     rw[aa ex]at h;by_cases e0:0=m
     ·subst e0;rw[ab]at h;cases h;exact⟨_,rfl,eb⟩
     rw[aa e0]at h;by_cases e1:1=m
     ·subst e1;rw[ab]at h;exact⟨o',by simp(disch:=decide) only[ab,aa];exact h,eb⟩
     rw[aa e1]at h;by_cases e3:3=m
     ·subst e3;rw[ab]at h;cases h;exact⟨_,rfl,eb⟩
     rw[aa e3]at h;by_cases e4:4=m
     ·subst e4;rw[ab]at h;cases h;exact⟨_,rfl,eb⟩
     rw[aa e4]at h;by_cases e5:5=m
     ·subst e5;rw[ab]at h;cases h;exact⟨_,rfl,eb⟩
     rw[aa e5]at h;by_cases e6:6=m
     ·subst e6;rw[ab]at h;cases h;exact⟨_,rfl,eb⟩
     rw[aa e6]at h;by_cases e7:7=m
     ·subst e7;rw[ab]at h;cases h;exact⟨_,rfl,eb⟩
     rw[aa e7]at h;rw[ag]at h;cases h) .nil) ?_
   have hgD:ve [.pointer (some ⟨5,0,none⟩),al au (some (nI [kN]))] (wd ((8,none)::[(0,some (aJ es2 1)),(1,bG es2),(3,some (du)),(4,some (cT rs)),(5,some (cR 5 6 (acc))),(6,some (bZ (acc))),(7,some (.cells (aF (bW ob)) 24 (0,0)))]) 9 [] 0)=_:=AO (w:=5) (b:=6) (l:=acc) (by rw[bO (by decide) (by decide)];simp(disch:=decide) only[ab,aa]) (by rw[bO (by decide) (by decide)];simp(disch:=decide) only[ab,aa]) (by decide) hdD;refine aP (dm hS) 1 (s1:=?Dsz) ?Dzz (cY ?Dq)
   case Dzz=>simp(disch:=decide) only[sW,hgD,go_sem];all_goals rfl
   show bA _ _ _ _ _ _;obtain⟨acc1,hac1⟩:∃a,a=acc++eF [kN]:=⟨_,rfl⟩;have hdl1:(eF [kN]).length<=10:=iW (fun n h=>aa4 (hdD.1 n h) (by decide));have hal1:acc1.length<=acc.length+10/\acc.length<=acc1.length:=by rw[hac1,ZM];omega
   rw[<-hac1]at heA ⊢;refine aU (s':=⟨aI [(15,some (.pointer (some ⟨7,0,none⟩))),(58,some (al au ko)),(59,some (.int .i64 (kn:Int))),(60,some (.int .i64 (i:Int))),(0,some (.pointer (some ⟨0,0,none⟩))),(4,some (.pointer (some ⟨3,0,none⟩))),(8,some (.map (some 4))),(12,some (.pointer (some ⟨5,0,none⟩)))],wd [(0,some (aJ es2 1)),(1,bG es2),(3,some (du)),(4,some (cT rs)),(5,some (cR 5 6 (acc1))),(6,some (bZ (acc1))),(7,some (.cells (aF (bW ob)) 24 (0,0)))] 8 [] 0,[]⟩) (aV [(0,some 0),(1,some 1),(3,some 3),(4,some 4),(5,some 5),(9,some 6),(7,some 7)] [(0,some 0),(1,some 1),(3,some 3),(4,some 4),(5,some 5),(6,some 9),(7,some 7)] (by rcases hk12 with h|h<;>(rw[h];decide)) (by decide) (by rcases hk12 with h|h<;>(rw[h];decide)) (af (by decide) rfl (ay rfl) (af (by decide) rfl (aB ba _ _ ah) (af (by decide) rfl (ar 1 rfl) (af (by decide) rfl (ar 1 rfl) (af (by decide) rfl (ay rfl) (af (by decide) rfl (ay rfl) (af (by decide) rfl (cq rfl) (af (by decide) rfl (ay rfl) aR)))))))) (aj 0 rfl (by decide) (by decide) rfl (iT rfl) (gc 1 rfl (by decide) (by decide) rfl (j5 ah es2) (aj 3 rfl (by decide) (by decide) rfl (aq ah eR) (aj 4 rfl (by decide) (by decide) rfl (aq ah (fV _)) (aj 5 rfl (by decide) (by decide) rfl (bJ (ax (ay rfl) (ax (bI rfl) aX))) (aj 9 rfl (by decide) (by decide) rfl (de _ ah) (aj 7 rfl (by decide) (by decide) rfl (aq ah (bc (dn _))) bj))))))) .nil) ?_;have hgW:=fun c (hc:32<=c)=>Rn (p:=BW) (t:=24) (W:=wd [(0,some (aJ es2 1)),(1,bG es2),(3,some (du)),(4,some (cT rs)),(5,some (cR 5 6 (acc1))),(6,some (bZ (acc1))),(7,some (.cells (aF (bW ob)) 24 (0,0)))] 8 [] 0) (w:=5) (b:=6) (r:=7) (m:=32) (c:=c) (by rw[bO (by decide) (by decide)];simp(disch:=decide) only[ab,aa]) (by rw[bO (by decide) (by decide)];simp(disch:=decide) only[ab,aa]) (by rw[bO (by decide) (by decide)];simp(disch:=decide) only[ab,aa]) (by decide) (by decide) (by decide) hc (Rt (m:=bW ob) (by omega) hsl (show acc1.length+(bW ob).length<1000000000000 by omega))
   obtain⟨acc2,hac2⟩:∃a,a=acc1++bW ob:=⟨_,rfl⟩;have hal2:acc2.length=acc1.length+32:=by rw[hac2,ZM,hsl]
   rw[<-hac2]at heA hgW;refine I9 (dm hS) ⟨aI [(58,some (al au ko)),(59,some (.int .i64 (kn:Int))),(60,some (.int .i64 (i:Int))),(0,some (.pointer (some ⟨0,0,none⟩))),(4,some (.pointer (some ⟨3,0,none⟩))),(8,some (.map (some 4))),(12,some (.pointer (some ⟨5,0,none⟩)))],wd [(0,some (aJ es2 1)),(1,bG es2),(3,some (du)),(4,some (cT rs)),(5,some (cR 5 6 (acc2))),(6,some (bZ (acc2)))] 7 [] 0,[]⟩ ?hd20 ?qd20
   case hd20=>
    refine⟨?rs20,?sx20,?hx20,?kx20,?lx20⟩
    case hx20=>simp(disch:=decide) only[aE.eq_1,aE.eq_2,cm.eq_1,bd.eq_1,bd.eq_2,sW,hsl,hbl32,hgW,go_sem];all_goals rfl
    case kx20=>kernel_rfl
    exact aV [(0,some 0),(1,some 1),(3,some 3),(4,some 4),(5,some 5),(8,some 6)] [(0,some 0),(1,some 1),(3,some 3),(4,some 4),(5,some 5),(6,some 8)] (by rcases hk12 with h|h<;>(rw[h];decide)) (by decide) (by rcases hk12 with h|h<;>(rw[h];decide)) (af (v:=al au ko) (by decide) (by simp(disch:=first|decide|omega) only[ab,aa]<;>rfl) (aB ba _ _ ah) (af (v:=.int .i64 (kn:Int)) (by decide) (by simp(disch:=first|decide|omega) only[ab,aa]<;>rfl) (ar 1 rfl) (af (v:=.int .i64 (i:Int)) (by decide) (by simp(disch:=first|decide|omega) only[ab,aa]<;>rfl) (ar 1 rfl) (af (v:=.pointer (some ⟨0,0,none⟩)) (by decide) (by simp(disch:=first|decide|omega) only[ab,aa]<;>rfl) (ay (by simp(disch:=first|decide|omega) only[ab,aa])) (af (v:=.pointer (some ⟨3,0,none⟩)) (by decide) (by simp(disch:=first|decide|omega) only[ab,aa]<;>rfl) (ay (by simp(disch:=first|decide|omega) only[ab,aa])) (af (v:=.map (some 4)) (by decide) (by simp(disch:=first|decide|omega) only[ab,aa]<;>rfl) (cq (by simp(disch:=first|decide|omega) only[ab,aa])) (af (v:=.pointer (some ⟨5,0,none⟩)) (by decide) (by simp(disch:=first|decide|omega) only[ab,aa]<;>rfl) (ay (by simp(disch:=first|decide|omega) only[ab,aa])) aR))))))) (aj (o:=aJ es2 1) 0 (by simp(disch:=first|decide|omega) only[ab,aa]) (by decide) (by decide) (by simp(disch:=first|decide|omega) only[ab,aa]<;>rfl) (iT (by simp(disch:=first|decide|omega) only[ab,aa])) (gc 1 (by simp(disch:=first|decide|omega) only[ab,aa]) (by decide) (by decide) (by simp(disch:=first|decide|omega) only[ab,aa]<;>rfl) (j5 ah es2) (aj (o:=du) 3 (by simp(disch:=first|decide|omega) only[ab,aa]) (by decide) (by decide) (by simp(disch:=first|decide|omega) only[ab,aa]<;>rfl) (aq ah eR) (aj (o:=cT rs) 4 (by simp(disch:=first|decide|omega) only[ab,aa]) (by decide) (by decide) (by simp(disch:=first|decide|omega) only[ab,aa]<;>rfl) (aq ah (fV _)) (aj (o:=cR 5 8 (acc2)) 5 (by simp(disch:=first|decide|omega) only[ab,aa]) (by decide) (by decide) (by simp(disch:=first|decide|omega) only[ab,aa]<;>rfl) (bJ (ax (ay (by simp(disch:=first|decide|omega) only[ab,aa])) (ax (bI (by simp(disch:=first|decide|omega) only[ab,aa])) aX))) (aj (o:=bZ (acc2)) 8 (by simp(disch:=first|decide|omega) only[ab,aa]) (by decide) (by decide) (by simp(disch:=first|decide|omega) only[ab,aa]<;>rfl) (de _ ah) bj)))))) .nil
   intro sq hlq;show bA _ _ _ _ _ _;refine aU hlq ?_;refine ac (dm hS) (by simp(disch:=first|decide|omega) only[go_sem]<;>with_reducible rfl) ?_;refine⟨⟨i+1,es2,acc2,hlt,heE,heA,⟨by omega,by omega⟩,fun h=>absurd h hne2⟩,by simp only;omega,?_⟩;simp only;exact ak (by simp(disch:=decide) [ai,ab,aa,ag]) (ap (by decide) (by simp(disch:=first|decide|omega) only[ab,aa]<;>rfl) (ap (by decide) (by simp(disch:=first|decide|omega) only[ab,aa]<;>rfl) (ap (by decide) (by simp(disch:=first|decide|omega) only[ab,aa]<;>rfl) (ap (by decide) (by simp(disch:=first|decide|omega) only[ab,aa]<;>rfl) (ap (by decide) (by simp(disch:=first|decide|omega) only[ab,aa]<;>rfl) (ap (by decide) (by simp(disch:=first|decide|omega) only[ab,aa]<;>rfl) trivial)))))) (by decide)
  rw[Z5 (by omega)]at heE heA;have heE:es1=l9 rs ks es:=heE;rw[abd,List.append_nil]at heA;rw[<-heE,<-heA];have hacl:acc.length<=140737488351232:=by have:=hgr.len;omega
  obtain⟨es2,he2⟩:∃e,e=gK es1 acc:=⟨_,rfl⟩;have hne2:es2≠[]:=by rw[he2];exact oJ _ _
  obtain⟨s2,hs2⟩:=qr hne2;have hsl:(bW acc).length=32:=dJ acc;have hbl32:(aF (bW acc)).length=32:=by rw[bK,hsl]
  rw[<-he2];refine ae (ac (e:=?e20) (s':=?s20) (dm hS) ?h20 ?q20)
  case h20=>simp(disch:=decide) only[go_sem];all_goals rfl
  refine ae (aO (by simp(disch:=first|decide|omega) only[go_sem]<;>with_reducible rfl) ?_);refine bp ?_;show bA _ _ _ _ _ _;rcases hee:es1 with _|⟨e0,el⟩
  ·rw[hee]at he2;have hp1:iN [.string (str acc)] []=some (.agg (aF (bW acc)).toArray,es2,.mv):=by rw[oo hacl,<-he2];rfl
   have hgT:vt rW [.pointer (some ⟨5,0,none⟩)] (wd [(0,some (aJ [] 1)),(1,bG []),(3,some (du)),(4,some (cT rs)),(5,some (cR 5 6 (acc))),(6,some (bZ (acc)))] 7 [] 0)=some (.ret (.string (str acc)),wd ((6,none)::(5,none)::[(0,some (aJ [] 1)),(1,bG []),(3,some (du)),(4,some (cT rs)),(5,some (cR 5 6 (acc))),(6,some (bZ (acc)))]) 7 [6,5] 2):=(Cy (b:=6) (l:=acc) (by rw[bO (by decide) (by decide)];simp(disch:=decide) only[ab,aa]) (by rw[bO (by decide) (by decide)];simp(disch:=decide) only[ab,aa]) (by decide) (ye hap (by omega))).trans (by simp only[di]);have hgP:ic eN iN [.pointer (some ⟨0,0,none⟩),.string (str acc)] (wd ((6,none)::(5,none)::[(0,some (aJ [] 1)),(1,bG []),(3,some (du)),(4,some (cT rs)),(5,some (cR 5 6 (acc))),(6,some (bZ (acc)))]) 7 [6,5] 2)=_:=IT (xA (by decide) (by decide) rfl rfl) hp1 hs2;have hk1:=hq hee;rw[hk1];unfold du at hgT hgP;refine cP (dm hS) ⟨aI [(4,some (.pointer (some ⟨3,0,none⟩))),(5,some (.int .i64 (((0:Nat):Int):Int)))],wd [(0,some (aJ es2 1)),(1,bG es2),(3,some (.cells (aF (bW acc)) 24 (0,0)))] 7 [] 0,[]⟩ ?hde1 ?qde1
   case hde1=>
    refine⟨?se1,?ae1,?be1⟩
    case ae1=>simp(disch:=decide) only[sW,hgT,hgP,hsl,hbl32,du,go_sem];all_goals rfl
    rw[hs2];exact aV [(0,some 0),(7,some 1),(3,some 3)] [(0,some 0),(1,some 7),(3,some 3)] (by decide) (by decide) (by decide) (af (v:=.pointer (some ⟨3,0,none⟩)) (by decide) (by simp(disch:=first|decide|omega) only[ab,aa]<;>rfl) (ay (by simp(disch:=first|decide|omega) only[ab,aa])) (af (v:=.int .i64 (((0:Nat):Int):Int)) (by decide) (by simp(disch:=first|decide|omega) only[ab,aa]<;>rfl) (ar 1 rfl) aR)) (aj (o:=aJ es2 7) 0 (by simp(disch:=first|decide|omega) only[ab,aa]) (by decide) (by decide) (by simp(disch:=first|decide|omega) only[ab,aa]<;>rfl) (iT (by simp(disch:=first|decide|omega) only[ab,aa])) (aj (o:=s2) 7 (by simp(disch:=first|decide|omega) only[ab,aa]) (by decide) (by decide) (by simp(disch:=first|decide|omega) only[ab,aa]<;>rfl) (eN.bare es2 _ hs2 _ ah) (aj (o:=.cells (aF (bW acc)) 24 (0,0)) 3 (by simp(disch:=first|decide|omega) only[ab,aa]) (by decide) (by decide) (by simp(disch:=first|decide|omega) only[ab,aa]<;>rfl) (aq ah (bc (dn _))) bj))) .nil
   refine bh ?_;refine⟨_,?e22,?W22,rfl,?h22,?q22⟩
   case h22=>simp(disch:=decide) only[Tryz.results17,hbl32,hsl,go_sem];all_goals rfl
   refine⟨rfl,?_,fun ob ho=>?_⟩
   ·simp(disch:=decide) only[go_sem]
   rw[<-ho];simp(disch:=decide) only[go_sem]
  have hne1:es1≠[]:=by rw[hee];simp
  rw[<-hee];have hp1:iN [.string (str acc)] es1=some (.agg (aF (bW acc)).toArray,es2,.pl):=by rw[oo hacl,<-he2,vS hne1];rfl
  have hgT:vt rW [.pointer (some ⟨5,0,none⟩)] (wd [(0,some (aJ es1 1)),(1,bG es1),(3,some (du)),(4,some (cT rs)),(5,some (cR 5 6 (acc))),(6,some (bZ (acc)))] 7 [] 0)=some (.ret (.string (str acc)),wd ((6,none)::(5,none)::[(0,some (aJ es1 1)),(1,bG es1),(3,some (du)),(4,some (cT rs)),(5,some (cR 5 6 (acc))),(6,some (bZ (acc)))]) 7 [6,5] 2):=(Cy (b:=6) (l:=acc) (by rw[bO (by decide) (by decide)];simp(disch:=decide) only[ab,aa]) (by rw[bO (by decide) (by decide)];simp(disch:=decide) only[ab,aa]) (by decide) (ye hap (by omega))).trans (by simp only[di]);have hgP:ic eN iN [.pointer (some ⟨0,0,none⟩),.string (str acc)] (wd ((6,none)::(5,none)::[(0,some (aJ es1 1)),(1,bG es1),(3,some (du)),(4,some (cT rs)),(5,some (cR 5 6 (acc))),(6,some (bZ (acc)))]) 7 [6,5] 2)=_:=Kl (xA (by decide) (by decide) rfl rfl) hp1 hs2 hne1;unfold du at hgT hgP;refine cP (dm hS) ⟨aI [(4,some (.pointer (some ⟨3,0,none⟩))),(5,some (.int .i64 (((0:Nat):Int):Int)))],wd [(0,some (aJ es2 1)),(1,bG es2),(3,some (.cells (aF (bW acc)) 24 (0,0)))] 7 [] 0,[]⟩ ?hde2 ?qde2
  case hde2=>
   refine⟨?se2,?ae2,?be2⟩
   case ae2=>simp(disch:=decide) only[sW,hgT,hgP,hsl,hbl32,du,go_sem];all_goals rfl
   rw[hs2];exact ak (by simp(disch:=decide) [ai,ab,aa,ag]) (ap (by decide) rfl (ap (by decide) rfl (ap (by decide) rfl trivial))) (by decide)
  refine bh ?_;refine⟨_,?e23,?W23,rfl,?h23,?q23⟩
  case h23=>simp(disch:=decide) only[Tryz.results17,hbl32,hsl,go_sem];all_goals rfl
  refine⟨rfl,?_,fun ob ho=>?_⟩
  ·simp(disch:=decide) only[go_sem]
  rw[<-ho];simp(disch:=decide) only[go_sem]
 have hb1:((eh o).2 !=((0:Nat):Int))=true:=jK hck;have hES:j4 es o=es:=by unfold j4;rw[if_neg hck]
 have hV:qI o=.tuple #[.agg (aF (List.replicate 32 0)).toArray,.int .i64 (eh o).2]:=by unfold qI;rw[if_neg hck]
 rw[hES,hV];refine ae (ac (e:=?e24) (s':=?s24) (dm hS) ?h24 ?q24)
 case h24=>simp(disch:=decide) only[hb1,go_sem];all_goals rfl
 refine aZ ?h25 ?q25
 case h25=>simp(disch:=decide) only[go_sem];all_goals rfl
 refine ae (ac (e:=?e26) (s':=?s26) (dm hS) ?h26 ?q26)
 case h26=>simp(disch:=decide) only[du,go_sem];all_goals rfl
 refine bh ?_;refine⟨_,?e27,?W27,rfl,?h27,?q27⟩
 case h27=>simp(disch:=decide) only[Tryz.results17,du,go_sem];all_goals rfl
 refine⟨rfl,?_,fun ob ho=>?_⟩
 ·simp(disch:=decide) only[go_sem]
 rw[<-ho];simp(disch:=decide) only[go_sem]
end Go.Proofs.YthlkgmdkabelpaaGreat.X
