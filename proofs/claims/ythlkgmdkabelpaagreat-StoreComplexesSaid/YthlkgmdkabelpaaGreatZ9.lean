/-
  Packed by program (tools/pack.py) out of the texts U14 MS7 MZ18. No condition.
-/
import Derived.Test.YthlkgmdkabelpaaGreatZO
import Derived.Shelf.SlSortCmp.NoneTotal
import Derived.Test.YthlkgmdkabelpaaGreatZQ
import Derived.ProofKit
import Derived.OpenShut
import Derived.Deep.Slices
import Derived.Deep.Fields
import Derived.SizedLaws
import Derived.Test.YthlkgmdkabelpaaGreatZ8
set_option linter.all false
namespace Go.Proofs.YthlkgmdkabelpaaGreat.X
open Go Go.RowKit Go.Shelf Go.Sort Go.Lib
theorem Th:lD Tryz.prog 89 51:=fun dw off cap d w hH hb hs=>by
 have eg:∀args w,(callFunc 51 args).run Tryz.prog w=.ok (.enter 51 args) w:=Go.Proofs.enters_of Tryz.func51 (by kernel_rfl) rfl;have h:=AnyQ.slices_SortFunc_total Tryz.sortHash 32 Tryz.isAgg24 Tryz.sizeOf24 qG (fun x=>by unfold qG;rw[bE,x.2]) (fun x v hv=>by
  obtain⟨b,_,rfl⟩:=List.mem_map.1 hv;rfl) Ba Ww 51 #[] dw off cap d w eg (fun _ _ _ _ x y=>Ia x y _) hH hb hs (fun x y h1 h2=>by
  rw[BY]at h1 h2;exact nj h1 h2)
 rw[BY]at h;exact h
open Go.ChangeShapes Go.WideShapes Go.ChangeAt
set_option maxRecDepth 100000
theorem E1:Tryz.prog.cellsOf 3=1:=by kernel_rfl
theorem A5{α:Type}{p:Nat->α->Prop}:∀(n:Nat),(∀i,i<n->∃a,p i a)->∃l:List α,l.length=n/\∀i (h:i<l.length),p i l[i]
 |0,_=>⟨[],rfl,fun i h=>absurd h (acm i)⟩
 |n+1,h=>by
  obtain⟨l,hl,hp⟩:=A5 n (fun i hi=>h i (by omega));obtain⟨a,ha⟩:=h n (by omega);refine⟨l++[a],by simp[hl],fun i hi=>?_⟩;by_cases hin:i<l.length
  ·rw[List.getElem_append_left hin];exact hp i hin
  have:i=l.length:=by simp at hi;omega
  subst this;rw[List.getElem_append_right (Nat.le_refl _)];simp only[Nat.sub_self,List.getElem_cons_zero];rw[hl];exact ha
def DJ(w:World)(v:Value)(cs:List Value)(n:Nat):Prop:=
 (v=.slice none 0 0/\n=0/\cs=[])\/∃a cap,v=.slice (some a) n cap/\n<=cap/\n<9223372036854775808/\(n=0->cs=[])/\(0<n->a.spot=none/\∃c' e fr,w.heap[a.block]?=some (.cells c' e fr)/\(c'.toList.drop a.off).take cs.length=cs)
theorem SH{α H:Type}{S E size:Nat}{cells:α->List Value}{fits:α->Prop}(hS:Tryz.prog.underlying S=some (.slice E))(hE:Tryz.prog.cellsOf E=size)(hpos:0<size)(hlen:∀a,(cells a).length=size)
 {enc:TypeId×Value->H} {w:World} (hel:∀(base:Nat) (spare:Nat->Bool) (held:Bool) n cs x,DataW.trod enc Tryz.prog w base spare held n E cs=some x->∃a,cs=cells a/\fits a)
 {v:Value} {fuel:Nat} {base:Nat} {x:DataW H×List MemPlace} (hf:DataW.trod enc Tryz.prog w base (fun _=>true) true fuel S [v]=some x):∃l:List α,DJ w v (l.flatMap cells) l.length/\∀a∈l,fits a:=by
 rcases Go.Deep.open_slice hS hf with⟨hcs,_⟩|⟨a,len,cap,m,k,D,Pl,hcs,_,hl,hm,hmm,_,hx⟩
 ·obtain⟨rfl⟩:v=.slice none 0 0:=by simpa using hcs
  exact⟨[],.inl ⟨rfl,rfl,rfl⟩,fun _ h=>by simp at h⟩
 obtain⟨rfl⟩:v=.slice (some a) len cap:=by simpa using hcs
 simp only[if_true]at hmm;rw[hE]at hx;have hone:∀i,i<len->∃x:α,fits x/\∀j v,(cells x)[j]?=some v->w.cell? ((a.add (i*size)).add j)=some v:=by
  intro i hi;obtain⟨cs',hc,ht⟩:=hx i (by omega);obtain⟨x,rfl,hfit⟩:=hel _ _ _ _ _ _ ht;refine⟨x,hfit,fun j v hv=>?_⟩;obtain⟨_,_,hat⟩:=World.cells?_some hc;have hj:j<size:=by rw[<-hlen x];exact(List.getElem?_eq_some_iff.1 hv).1
  rw[hat j hj];exact hv
 obtain⟨l,hll,hp⟩:=A5 len hone;subst hll;have hsz:∀l:List α,(l.flatMap cells).length=l.length*size:=fun l=>by
  induction l with
  |nil=>simp
  |cons b l ih=>rw[ab7,abP,ih,hlen,List.length_cons,acM,acy]
 refine⟨l,.inr ⟨a,cap,rfl,hl,by simp only[maxLen]at hm;omega,fun h0=>by rw[List.length_eq_zero_iff.1 h0];rfl,fun h0=>?_⟩,fun x hxl=>?_⟩
 ·have h1:=(hp 0 h0).2 0 ((cells l[0])[0]'(by rw[hlen];exact hpos)) (abS _);have hsp:a.spot=none:=by
   cases hs:a.spot with
   |none=>rfl
   |some z=>simp[World.cell?,Addr.add,hs]at h1;split at h1<;>simp at h1
  refine⟨hsp,?_⟩;obtain⟨b,off,sp⟩:=a;simp only at hsp;subst hsp;have e:∀i j,(((⟨b,off,none⟩:Addr).add (i*size)).add j)=⟨b,off+i*size+j,none⟩:=fun i j=>by rw[bX,bX]
  have hblk:∃c' e fr,w.heap[b]?=some (.cells c' e fr):=by
   rw[e]at h1;unfold World.cell? at h1;simp only at h1;split at h1
   ·rename_i c e fr hq;exact⟨c,e,fr,hq⟩
   cases h1
  obtain⟨c',et,fr,hb⟩:=hblk;refine⟨c',et,fr,hb,?_⟩;have hat:∀i (h:i<l.length) j v,(cells l[i])[j]?=some v->c'.toList[off+i*size+j]?=some v:=fun i h j v hv=>by
   have:=(hp i h).2 j v hv;rw[e]at this;unfold World.cell? at this;simp only at this;rw[hb]at this;simpa using this
  have key:∀(m:List α) (k:Nat),(∀i (h:i<m.length) j v,(cells m[i])[j]?=some v->c'.toList[k+i*size+j]?=some v)->(c'.toList.drop k).take (m.flatMap cells).length=m.flatMap cells:=by
   intro m
   induction m with
   |nil=>intro k _;simp
   |cons b m ih=>
    intro k hk;have i1:=ih (k+size) (fun i h j v hv=>by
     have:=hk (i+1) (by rw[List.length_cons];omega) j v (by simpa using hv);rw[acM]at this;rw[<-this];congr 1;omega)
    have i2:(c'.toList.drop k).take size=cells b:=by
     refine acN fun j=>?_
     by_cases hj:j<size
     ·rw[List.getElem?_take_of_lt hj,acC];have hj':j<(cells b).length:=by rw[hlen];exact hj
      have:=hk 0 (by rw[List.length_cons];omega) j _ (abS hj');rw[abS hj'];rw[<-this];congr 1;omega
     rw[ab9 (by rw[abR];omega),ab9 (by rw[hlen];omega)]
    rw[ab7,abP,hlen,List.take_add,i2,acG,i1]
  exact key l off hat
 obtain⟨i,hi,rfl⟩:=acp hxl;exact(hp i hi).1
theorem AR{H:Type}{enc:TypeId×Value->H}{w:World}{v:Value}{fuel:Nat}{base:Nat}{x:DataW H×List MemPlace}(hf:DataW.trod enc Tryz.prog w base (fun _=>true) true fuel 35 [v]=some x) :
 ∃l:List Int,DJ w v (l.flatMap El.enc) l.length:=by
 obtain⟨l,h1,_⟩:=SH (α:=Int) (cells:=El.enc) (fits:=fun _=>True) Tryz.underlying35 E1 (by decide) (fun _=>rfl) (fun base spare held n cs x h=>by
  obtain⟨k,hk,_,_⟩:=DataW.trod_int Tryz.underlying3 h;exact⟨k,hk,trivial⟩) hf
 exact⟨l,h1⟩
theorem AC{w:World}{v:Value}{l:List Int}(h:DJ w v (l.flatMap El.enc) l.length)(ρ:Ren)(hρ:∀b,ρ.fz b=w.heap[b]?):VR ρ (sl l) v:=by
 have hf:(l.flatMap El.enc).all (aX 8)=true:=by
  rw[ada];intro u hu;obtain⟨o,_,ho⟩:=List.mem_flatMap.1 hu;have:u=.int .i64 o:=by simpa[El.enc]using ho
  subst this;rfl
 rcases h with⟨rfl,h2,h3⟩|⟨a,cap,rfl,h1,h2,h3,h4⟩
 ·have:l=[]:=List.length_eq_zero_iff.1 h2;subst this;exact Eu ρ _ (.flat 1 _ rfl)
 show VR ρ (FZ (l.flatMap El.enc) l.length) _;rcases adc l.length with h0|h0
 ·rw[h3 h0,h0];exact .frzE a cap
 obtain⟨hs,c',e,fr,k1,k2⟩:=h4 h0;obtain⟨b,off,sp⟩:=a;simp only at hs k1 k2;subst hs;exact .frz _ _ _ b off cap c' e fr (by rw[hρ];exact k1) h1 k2 (rN hf)
theorem IF:Tryz.prog.cellsOf 5=1:=by kernel_rfl
theorem LY{H:Type}{enc:TypeId×Value->H}{w:World}{base:Nat}{spare:Nat->Bool}{held:Bool}{r:Reach}{b0:Nat}{v:Value}{d:DataW H}{ps:List MemPlace}
 (hv:Value.okWide Tryz.prog w r b0 36 v) (h:DataW.Trod enc Tryz.prog w base spare held 36 v d ps) :
 ∃a b:Nat,v=.agg #[.int .u8 (a:Int),.int .u8 (b:Int)]/\a<256/\b<256:=by
 obtain⟨fuel,hf⟩:=h;obtain⟨xs,m,_,_,hlen,hxl,hx⟩:=DataW.trod_array Tryz.underlying36 hf;rw[show Tryz.prog.cellsOf 36=2 by kernel_rfl]at hlen;have hagg:∃cs,v=.agg cs:=by simp only[Value.okWide,Tryz.underlying36]at hv;obtain⟨cs,h1,_⟩:=hv;exact⟨cs,h1⟩
 obtain⟨cs,rfl⟩:=hagg;simp only[Value.cells]at hlen hx;obtain⟨l⟩:=cs
 match l,hlen with
 |[c0,c1],_=>
  have f0:=hx 0 (by omega);have f1:=hx 1 (by omega);simp only[IF]at f0 f1
  match xs,hxl with
  |[y0,y1],_=>
   obtain⟨a,h0,_,w0⟩:=DataW.trod_int Tryz.underlying5 f0;obtain⟨b,h1,_,w1⟩:=DataW.trod_int Tryz.underlying5 f1;simp at h0 h1;subst h0;subst h1;have ha:0<=a/\a<=255:=by simpa[Lit.wf,IntKind.min,IntKind.max,IntKind.signed,IntKind.bits]using w0
   have hb:0<=b/\b<=255:=by simpa[Lit.wf,IntKind.min,IntKind.max,IntKind.signed,IntKind.bits]using w1
   exact⟨a.toNat,b.toNat,by rw[Int.toNat_of_nonneg ha.1,Int.toNat_of_nonneg hb.1],by omega,by omega⟩
theorem On(u v:Value)(l m:List Int)(s0 s1:Nat)(w:World)(hu:DJ w u (l.flatMap El.enc) l.length)(hv:DJ w v (m.flatMap El.enc) m.length)(h0:s0<256)(h1:s1<256) :
 Calls Tryz.prog 4 #[u,v,.agg #[.int .u8 (s0:Int),.int .u8 (s1:Int)]] w fun en w'=>en=.returned (.bool true)/\ak aO w w':=
 Fz (k:=1) rfl (WK Th l m s0 s1 h0 h1) (args':=[u,v,.agg #[.int .u8 (s0:Int),.int .u8 (s1:Int)]]) fun ρ hρ=>.cons _ _ _ _ (AC hu ρ hρ) (.cons _ _ _ _ (AC hv ρ hρ) (.cons _ _ _ _ (.flat 8 _ rfl) .nil))
end Go.Proofs.YthlkgmdkabelpaaGreat.X
