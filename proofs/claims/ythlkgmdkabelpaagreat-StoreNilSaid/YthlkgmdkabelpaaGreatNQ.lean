/-
  Packed by program (tools/pack.py) out of the texts UN1. No condition.
-/
import Derived.Test.YthlkgmdkabelpaaGreatNP
import Derived.ProofKit
import Derived.OpenShut
import Derived.Deep.Slices
import Derived.Deep.Fields
import Derived.SizedLaws
set_option linter.all false
namespace Go.Proofs.YthlkgmdkabelpaaGreat.X
open Go Go.RowKit Go.ChangeShapes Go.WideShapes Go.ChangeAt
set_option maxRecDepth 100000
theorem Ec:Tryz.prog.cellsOf 3=1:=by kernel_rfl
theorem An{α:Type}{p:Nat->α->Prop}:∀(n:Nat),(∀i,i<n->∃a,p i a)->∃l:List α,l.length=n/\∀i (h:i<l.length),p i l[i]
 |0,_=>⟨[],rfl,fun i h=>absurd h (aaN i)⟩
 |n+1,h=>by
  obtain⟨l,hl,hp⟩:=An n (fun i hi=>h i (by omega));obtain⟨a,ha⟩:=h n (by omega);refine⟨l++[a],by simp[hl],fun i hi=>?_⟩;by_cases hin:i<l.length
  ·rw[List.getElem_append_left hin];exact hp i hin
  have:i=l.length:=by simp at hi;omega
  subst this;rw[List.getElem_append_right (Nat.le_refl _)];simp only[Nat.sub_self,List.getElem_cons_zero];rw[hl];exact ha
def Gu(w:World)(v:Value)(cs:List Value)(n:Nat):Prop:=
 (v=.slice none 0 0/\n=0/\cs=[])\/∃a cap,v=.slice (some a) n cap/\n<=cap/\n<9223372036854775808/\(n=0->cs=[])/\(0<n->a.spot=none/\∃c' e fr,w.heap[a.block]?=some (.cells c' e fr)/\(c'.toList.drop a.off).take cs.length=cs)
theorem PZ{α H:Type}{S E size:Nat}{cells:α->List Value}{fits:α->Prop}(hS:Tryz.prog.underlying S=some (.slice E))(hE:Tryz.prog.cellsOf E=size)(hpos:0<size)(hlen:∀a,(cells a).length=size)
 {enc:TypeId×Value->H} {w:World} (hel:∀(base:Nat) (spare:Nat->Bool) (held:Bool) n cs x,DataW.trod enc Tryz.prog w base spare held n E cs=some x->∃a,cs=cells a/\fits a)
 {v:Value} {fuel:Nat} {base:Nat} {x:DataW H×List MemPlace} (hf:DataW.trod enc Tryz.prog w base (fun _=>true) true fuel S [v]=some x):∃l:List α,Gu w v (l.flatMap cells) l.length/\∀a∈l,fits a:=by
 rcases Go.Deep.open_slice hS hf with⟨hcs,_⟩|⟨a,len,cap,m,k,D,Pl,hcs,_,hl,hm,hmm,_,hx⟩
 ·obtain⟨rfl⟩:v=.slice none 0 0:=by simpa using hcs
  exact⟨[],.inl ⟨rfl,rfl,rfl⟩,fun _ h=>by simp at h⟩
 obtain⟨rfl⟩:v=.slice (some a) len cap:=by simpa using hcs
 simp only[if_true]at hmm;rw[hE]at hx;have hone:∀i,i<len->∃x:α,fits x/\∀j v,(cells x)[j]?=some v->w.cell? ((a.add (i*size)).add j)=some v:=by
  intro i hi;obtain⟨cs',hc,ht⟩:=hx i (by omega);obtain⟨x,rfl,hfit⟩:=hel _ _ _ _ _ _ ht;refine⟨x,hfit,fun j v hv=>?_⟩;obtain⟨_,_,hat⟩:=World.cells?_some hc;have hj:j<size:=by rw[<-hlen x];exact(List.getElem?_eq_some_iff.1 hv).1
  rw[hat j hj];exact hv
 obtain⟨l,hll,hp⟩:=An len hone;subst hll;have hsz:∀l:List α,(l.flatMap cells).length=l.length*size:=fun l=>by
  induction l with
  |nil=>simp
  |cons b l ih=>rw[Z8,ZM,ih,hlen,List.length_cons,aaO,aau]
 refine⟨l,.inr ⟨a,cap,rfl,hl,by simp only[maxLen]at hm;omega,fun h0=>by rw[List.length_eq_zero_iff.1 h0];rfl,fun h0=>?_⟩,fun x hxl=>?_⟩
 ·have h1:=(hp 0 h0).2 0 ((cells l[0])[0]'(by rw[hlen];exact hpos)) (ZP _);have hsp:a.spot=none:=by
   cases hs:a.spot with
   |none=>rfl
   |some z=>simp[World.cell?,Addr.add,hs]at h1;split at h1<;>simp at h1
  refine⟨hsp,?_⟩;obtain⟨b,off,sp⟩:=a;simp only at hsp;subst hsp;have e:∀i j,(((⟨b,off,none⟩:Addr).add (i*size)).add j)=⟨b,off+i*size+j,none⟩:=fun i j=>by rw[dc,dc]
  have hblk:∃c' e fr,w.heap[b]?=some (.cells c' e fr):=by
   rw[e]at h1;unfold World.cell? at h1;simp only at h1;split at h1
   ·rename_i c e fr hq;exact⟨c,e,fr,hq⟩
   cases h1
  obtain⟨c',et,fr,hb⟩:=hblk;refine⟨c',et,fr,hb,?_⟩;have hat:∀i (h:i<l.length) j v,(cells l[i])[j]?=some v->c'.toList[off+i*size+j]?=some v:=fun i h j v hv=>by
   have:=(hp i h).2 j v hv;rw[e]at this;unfold World.cell? at this;simp only at this;rw[hb]at this;simpa using this
  have key:∀(m:List α) (k:Nat),(∀i (h:i<m.length) j v,(cells m[i])[j]?=some v->c'.toList[k+i*size+j]?=some v)->(c'.toList.drop k).take (m.flatMap cells).length=m.flatMap cells:=by
   intro m
   induction m with
   |nil=>intro k _;simp
   |cons b m ih=>
    intro k hk;have i1:=ih (k+size) (fun i h j v hv=>by
     have:=hk (i+1) (by rw[List.length_cons];omega) j v (by simpa using hv);rw[aaO]at this;rw[<-this];congr 1;omega)
    have i2:(c'.toList.drop k).take size=cells b:=by
     refine aao fun j=>?_
     by_cases hj:j<size
     ·rw[List.getElem?_take_of_lt hj,aas];have hj':j<(cells b).length:=by rw[hlen];exact hj
      have:=hk 0 (by rw[List.length_cons];omega) j _ (ZP hj');rw[ZP hj'];rw[<-this];congr 1;omega
     rw[aae (by rw[ZR];omega),aae (by rw[hlen];omega)]
    rw[Z8,ZM,hlen,List.take_add,i2,List.drop_drop,i1]
  exact key l off hat
 obtain⟨i,hi,rfl⟩:=List.getElem_of_mem hxl;exact(hp i hi).1
theorem IX{H:Type}{enc:TypeId×Value->H}{w:World}{v:Value}{fuel:Nat}{base:Nat}{x:DataW H×List MemPlace}(hf:DataW.trod enc Tryz.prog w base (fun _=>true) true fuel 35 [v]=some x) :
 ∃l:List Int,Gu w v (l.flatMap au) l.length:=by
 obtain⟨l,h1,_⟩:=PZ (α:=Int) (cells:=au) (fits:=fun _=>True) Tryz.underlying35 Ec (by decide) dA (fun base spare held n cs x h=>by
  obtain⟨k,hk,_,_⟩:=DataW.trod_int Tryz.underlying3 h;exact⟨k,hk,trivial⟩) hf
 exact⟨l,h1⟩
theorem KD{w:World}{v:Value}{l:List Int}(h:Gu w v (l.flatMap au) l.length):∃a:OL,∀ρ:Ren,(∀b,ρ.fz b=w.heap[b]?)->VR ρ (al au a) v:=by
 have hf:(l.flatMap au).all (cb 8)=true:=by
  rw[aa3];intro u hu;obtain⟨o,_,ho⟩:=List.mem_flatMap.1 hu;have:u=.int .i64 o:=by simpa[au]using ho
  subst this;rfl
 rcases h with⟨rfl,h2,h3⟩|⟨a,cap,rfl,h1,h2,h3,h4⟩
 ·exact⟨none,fun ρ _=>.flat 1 _ rfl⟩
 refine⟨some l,fun ρ hρ=>?_⟩;show VR ρ (FZ (l.flatMap au) l.length) _;rcases Nat.eq_zero_or_pos l.length with h0|h0
 ·rw[h3 h0,h0];exact .frzE a cap
 obtain⟨hs,c',e,fr,k1,k2⟩:=h4 h0;obtain⟨b,off,sp⟩:=a;simp only at hs k1 k2;subst hs;exact .frz _ _ _ b off cap c' e fr (by rw[hρ];exact k1) h1 k2 (rv hf)
theorem TE(s:ByteArray):str s.data.toList=s:=by
 cases s;rfl
theorem MY(s:ByteArray)(v:Value)(l:List Int)(w:World)(hv:Gu w v (l.flatMap au) l.length)(hs:s.data.toList.length<=140737488351232) :
 Calls Tryz.prog 6 #[.string s,v] w fun en w'=>en=.returned (.bool true)/\aK bY w w':=by
 obtain⟨a,h2⟩:=KD hv;have h1:=Mf s.data.toList a hs;rw[TE]at h1;exact DV (k:=1) rfl h1 (args':=[.string s,v]) fun ρ hρ=>.cons _ _ _ _ (.flat 8 _ rfl) (.cons _ _ _ _ (h2 ρ hρ) .nil)
end Go.Proofs.YthlkgmdkabelpaaGreat.X
