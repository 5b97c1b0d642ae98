/-
  Packed by program (tools/pack.py) out of the texts MS5 MS6. No condition.
-/
import Derived.Test.YthlkgmdkabelpaaGreatZN
import Derived.Test.YthlkgmdkabelpaaGreatZP
import Derived.Test.YthlkgmdkabelpaaGreatZO
set_option linter.all false
namespace Go.Proofs.YthlkgmdkabelpaaGreat.X
open Go Go.RowKit Go.Proofs.YthlkgmdkabelpaaGreat.St
noncomputable def hk0(o:ah):HF:=fun a W=>match a with
 |[]=>some (.ret (.pointer (some ⟨W.next,0,none⟩)),W.push o)
 |_::_=>none
theorem Mo{o:ah}{W:XW}:hk0 o [] W=some (.ret (.pointer (some ⟨W.next,0,none⟩)),W.push o):=rfl
theorem Jt{P:Program}{f:FuncId}{o o1:ah}(he:cS P f)(hb:∀θ,TO P (aP θ) o1 o)(h:bg P f [] (wd [] 0 [] 0) fun e W'=>e=.ret (.pointer (some ⟨0,0,none⟩))/\W'.get 0=some o1/\W'.next<=1):bS P f (hk0 o):=by
 have key:∀a W e' W',hk0 o a W=some (e',W')->a=[]/\e'=.ret (.pointer (some ⟨W.next,0,none⟩))/\W'=W.push o:=fun a W e' W' q=>by
  cases a with
  |nil=>cases q;exact⟨rfl,rfl,rfl⟩
  |cons x l=>cases q
 refine⟨he,fun a W e' W' q=>?_,fun a W e' W' q=>?_⟩
 ·obtain⟨_,_,rfl⟩:=key _ _ _ _ q;exact .push _ _
 obtain⟨rfl,rfl,rfl⟩:=key _ _ _ _ q;refine iP (k:=0) (fun _=>0) (fun _=>none) rfl (fun m _ h=>by omega) (fun m h=>by omega) (fun n m h=>by cases h) (fun m oL h=>by rw[XW.get_ge (abW _)]at h;cases h) aR h
  fun eL WL' hS=>?_
 obtain⟨rfl,hb',_⟩:=hS;refine⟨fun m=>if m=0 then some W.next else none,fun m x h=>?_,fun m m' x h h'=>?_,fun x o' h=>?_,?_,acU _⟩
 ·by_cases hm:m=0
  ·rw[if_pos hm]at h;cases h;exact .inr ⟨abW _,Nat.le_refl _,aci _⟩
  rw[if_neg hm]at h;cases h
 ·by_cases hm:m=0
  ·by_cases hm':m'=0
   ·omega
   rw[if_neg hm']at h';cases h'
  rw[if_neg hm]at h;cases h
 ·rcases XW.get_push h with⟨rfl,rfl⟩|⟨q1,q2⟩
  ·exact .inl ⟨0,_,if_pos rfl,hb',hb _⟩
  exact .inr ⟨q2,aL q2,fun m hm=>by omega⟩
 exact bI (if_pos rfl)
theorem U5:bS Tryz.prog 8 (hk0 (aE [] 0)):=Jt (enters_of (by kernel_rfl)) (fun θ=>dy fun h=>absurd rfl h) Ui
theorem XD:bS Tryz.prog 9 (hk0 (cd [])):=Jt (enters_of (by kernel_rfl)) (fun θ=>cm (av (fun ρ ρ' x _ hv=>by rw[hv.of_flat 1 rfl];exact .frzE _ _) aR)) QG
theorem Q1{w b N nl:Nat}{xs:List Value}{es es':aV}{v:Value}{L:List (Nat×Option ah)}{lg:List Nat}(hw:lk L w=some (aE es b))(hb:lk L b=some (bN es))(hwb:w≠b)(h1:w<N)(h2:b<N)(h3:N<16383) :
 hkp w b xs es v es' (.pointer (some ⟨w,0,none⟩)::xs) (wd L N lg nl)=some (.ret v,wd ((w,some (aE es' N))::(N,gP es')::(N,some (.defd false))::(b,none)::L) (N+1) (w::N::b::lg) (nl+3)):=by
 refine(if_pos ⟨rfl,?_,?_,hwb⟩).trans (by unfold Df;simp only[i4,gI];rfl)
 ·rw[ae h1 (by omega)];exact hw
 rw[ae h2 (by omega)];exact hb
abbrev eB(m cap:Nat):ah:=.cells [.slice (some ⟨1,0,none⟩) m cap] 40 (0,0)
def eS(q0 q1:Int):Option (List Ce×Ce×List Ce)->XS
 |none=>⟨ao [(3,some (.pointer (some ⟨0,0,none⟩))),(5,some (.bool true)),(6,some (.pointer (some ⟨3,0,none⟩)))],wd [(0,some (.cells [.int .i64 q0,.int .i64 q1] 54 (0,0))),(3,some (.cells [sl ([]:List Ce)] 40 (0,0)))] 4 [] 0,[]⟩
 |some (o1,x,o2)=>⟨ao [(3,some (.pointer (some ⟨0,0,none⟩))),(5,some (.bool true)),(6,some (.pointer (some ⟨3,0,none⟩)))],wd [(0,some (.cells [.int .i64 q0,.int .i64 q1] 54 (0,0))),(1,some (OS 2 o1 x o2)),(2,some (ro 60 x.sd)),(3,some (eB (o1.length+1+o2.length) aq))] 4 [] 0,[]⟩
theorem TR{P:Program}{e:TypeId}{j:IntKind}{n i b o:Nat}:kY P (some (.array n e)) (some (.pointer (some ⟨b,o,none⟩))) (some (.int j ((i:Nat):Int)))=m3 b o i n (sz P e):=rfl
theorem W8{P:Program}{e:TypeId}{j:IntKind}{n i b o cap:Nat}:kY P (some (.slice e)) (some (.slice (some ⟨b,o,none⟩) n cap)) (some (.int j ((i:Nat):Int)))=m3 b o i n (sz P e):=rfl
attribute [go_sem] TR W8
end Go.Proofs.YthlkgmdkabelpaaGreat.X
