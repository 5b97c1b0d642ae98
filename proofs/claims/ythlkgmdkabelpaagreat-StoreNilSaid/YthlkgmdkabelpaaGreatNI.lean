/-
  Packed by program (tools/pack.py) out of the texts UK7 UK8 UKR UKV UK9 UKX. No condition.
-/
import Derived.Test.YthlkgmdkabelpaaGreatNH
set_option linter.all false
open Nat(reduceAdd reduceMul reduceSub)
namespace Go.Proofs.YthlkgmdkabelpaaGreat.X
open Go Go.RowKit Go.Proofs.YthlkgmdkabelpaaGreat.St
theorem TZ{fr:XF}{k:IntKind}:ev fr (.const (.int k 17))=some (.int k ((17:Nat):Int)):=rfl
theorem UT{fr:XF}{k:IntKind}:ev fr (.const (.int k 18))=some (.int k ((18:Nat):Int)):=rfl
theorem Us{fr:XF}{k:IntKind}:ev fr (.const (.int k 19))=some (.int k ((19:Nat):Int)):=rfl
theorem TJ{fr:XF}{k:IntKind}:ev fr (.const (.int k 21))=some (.int k ((21:Nat):Int)):=rfl
theorem TR{fr:XF}{k:IntKind}:ev fr (.const (.int k 22))=some (.int k ((22:Nat):Int)):=rfl
theorem RD{fr:XF}{k:IntKind}:ev fr (.const (.int k 23))=some (.int k ((23:Nat):Int)):=rfl
theorem Uh{fr:XF}{k:IntKind}:ev fr (.const (.int k 24))=some (.int k ((24:Nat):Int)):=rfl
theorem T0{fr:XF}{k:IntKind}:ev fr (.const (.int k 25))=some (.int k ((25:Nat):Int)):=rfl
theorem Tz{P:Program}{f:Nat}{fs:Array Field}{cs:List Value}:uk P f (some (.struct fs)) (some (FP cs))=yF P cs fs[f]?:=rfl
theorem Sk{cs:List Value}:zl (some (FP cs))=val (FP cs):=rfl
theorem Hv{w:Bool}:uW w (some undef)=some false:=rfl
attribute [go_sem] Hv Tz Sk fB TZ UT Us TJ TR RD Uh T0
theorem tL{x y:aC}(h:dZ x=dZ y):x=y:=by
 unfold dZ at h;injection h with h;exact gP _ _ (by simpa using congrArg Array.toList h)
theorem Dh:∀{l m:dD} {i j:Nat},bn (fun _=>dZ) l i=bn (fun _=>dZ) m j->l=m
 |[],[],_,_,_=>rfl
 |[],_::_,_,_,h=>by simp[bn]at h
 |_::_,[],_,_,h=>by simp[bn]at h
 |(a,x)::l,(b,y)::m,i,j,h=>by
  unfold bn at h;injection h with h1 h2;injection h1 with h3 h4 _;injection h3 with _ h3;have h3:a=b:=h3;have h4:x=y:=tL h4;rw[h3,h4,Dh h2]
def cU(by_:dD):Value:=jd (jI by_) by_.length
def Vm:bb->Option Nat
 |.cells [.map (some b),_] _ _=>some b
 |_=>none
noncomputable def sS:o9 Tryz.prog dD where
 main by_ _ b:=cn b (cU by_)
 sat by_:=some (cu by_)
 hnd:=Vm
 hnd_eq by_ w b:=rfl
 inj a a' w b h hs:=by have hs:=Option.some.inj hs;unfold cu at hs;injection hs with hs;exact Dh hs
 free a w b b' h:=by cases h
 ren a w w' b b' θ hw hb:=bJ (ax (cq (hb (by simp))) (ax (io (ge a) _ _ ah) aX))
 bare a o h:=by cases h;exact dj _
def ld(x:aC):Int:=
 if x.dim<0\/8<x.dim then 21
 else if x.dim=0/\0<(ao x.sides).length\/x.dim=1/\(ao x.sides).length≠2\/1<x.dim/\((ao x.sides).length<2\/64<(ao x.sides).length)then 22 else 0
def jL(by_:dD)(d:Int):Option Int->List bC->Bool
 |_,[]=>false
 |p,s::r=>(match bz s.1 by_ with
  |none=>true
  |some y=>decide (y.dim≠d-1))||decide (p=some s.1)||jL by_ d (some s.1) r
def pE(l:List bC):Bool:=l.any fun s=>decide (s.2≠1/\s.2≠-1)
def wK(l:List bC):Int:=l.foldl (fun n s=>n+s.2) 0
def ez(by_:dD)(x:aC):Int:=
 if ld x≠0 then ld x
 else if jL by_ x.dim none (ao x.sides)=true then 22
 else if pE (ao x.sides)=true then 23
 else if x.dim=1/\wK (ao x.sides)≠0 then 23 else 0
structure Y8(by_:dD)(x:aC) where
 i:Nat
 h:i<=(ao x.sides).length
 eq:jL by_ x.dim (((ao x.sides).take i).getLast?.map (·.1)) ((ao x.sides).drop i)=jL by_ x.dim none (ao x.sides)
theorem xq{by_:dD}{d:Int}{p:Option Int}{s:bC}{r:List bC}:jL by_ d p (s::r)=((match bz s.1 by_ with
 |none=>true
 |some y=>decide (y.dim≠d-1))||decide (p=some s.1)||jL by_ d (some s.1) r):=rfl
theorem CI{by_:dD}{d:Int}{p:Option Int}{s:bC}{r:List bC}(h:bz s.1 by_=none):jL by_ d p (s::r)=true:=by
 rw[xq,h];simp
theorem qZ{by_:dD}{d:Int}{p:Option Int}{s:bC}{r:List bC}{y:aC}(h:bz s.1 by_=some y):jL by_ d p (s::r)=(decide (y.dim≠d-1)||decide (p=some s.1)||jL by_ d (some s.1) r):=by
 rw[xq,h]
theorem zP{α:Type}{l:List α}{i:Nat}(h:i<l.length):(l.take (i+1)).getLast?=some l[i]:=by
 rw[List.getLast?_eq_getElem?,ZR,aai (by omega),aaA,aaj,if_pos (by omega),ZP h]
theorem Mz{l:List bC}{i:Nat}(h:i<l.length):wK (l.take (i+1))=wK (l.take i)+l[i].2:=by
 unfold wK;rw[aaP h,List.foldl_append];rfl
theorem Lq{l:List bC}{i:Nat}(h:i<l.length):pE (l.take (i+1))=(pE (l.take i)||decide (l[i].2≠1/\l[i].2≠-1)):=by
 unfold pE;rw[aaP h,List.any_append];simp
structure ZE(x:aC) where
 i:Nat
 sum:Int
 h:i<=(ao x.sides).length
 e:sum=wK ((ao x.sides).take i)
 good:pE ((ao x.sides).take i)=false
 b:-(i:Int)<=sum/\sum<=i
theorem Kx(by_:dD)(x:aC):aN Tryz.prog 63 [.pointer (some ⟨0,0,none⟩),dZ x] (lw sS by_) fun e W'=>e=.ret (.int .i64 (ez by_ x))/\Cd sS by_ by_ W' .rd:=by
 have hos:bk (al az x.sides)=true:=bL _;have hoi:bk (cU by_)=true:=qQ _;show aN _ _ [.pointer (some ⟨0,0,none⟩),.agg #[.int .i64 x.id,.int .i64 x.dim,al az x.sides]] (wd [(0,some (cn 1 (cU by_))),(1,some (cu by_))] 2 [] 0) fun e W'=>e=.ret (.int .i64 (ez by_ x))/\W'.get 0=some (cn 1 (cU by_))/\∀o,some (cu by_)=some o->W'.get 1=some o
 obtain⟨n,hn⟩:∃n,n=(ao x.sides).length:=⟨_,rfl⟩;obtain⟨d,hd⟩:∃d,d=x.dim:=⟨_,rfl⟩;refine be av Tryz.func63 rfl (Nat.le_of_ble_eq_true rfl) ?_;simp only[aY.eq_1,aY.eq_2,bf,Tryz.ntmps63,reduceAdd];rw[<-hd];refine ae (ac (e:=?e1) (s':=?s1) av ?h1 ?q1)
 case h1=>simp(disch:=decide) only[hos,go_sem];all_goals rfl
 refine ae (ac (e:=?e2) (s':=?s2) av ?h2 ?q2)
 case h2=>simp(disch:=decide) only[hos,da,go_sem];all_goals rfl
 rw[<-hn];by_cases hbad:d<0\/8<d
 ·have hf:ez by_ x=21:=by
   have:ld x=21:=by unfold ld;rw[if_pos (by rw[<-hd];exact hbad)]
   unfold ez;rw[this,if_pos (by decide)]
  rw[hf];refine ae (aD ?_);refine cP av ⟨aI [(16,some (.bool true))],wd [(0,some (cn 1 (cU by_))),(1,some (cu by_))] 3 [] 0,[]⟩ ?hra ?qra
  case hra=>
   by_cases h0:d<0
   ·refine⟨?s3,?a3,?b3⟩
    case a3=>simp(disch:=first|decide|omega) only[hos,go_sem]<;>with_reducible rfl
    exact ak (by simp(disch:=decide) [ai,ab,aa,ag]) (by simp(disch:=decide) [ai,ab,aa,ag]) (by decide)
   have h8:8<d:=by omega
   refine⟨?s4,?a4,?b4⟩
   case a4=>simp(disch:=first|decide|omega) only[hos,go_sem]<;>with_reducible rfl
   exact ak (by simp(disch:=decide) [ai,ab,aa,ag]) (by simp(disch:=decide) [ai,ab,aa,ag]) (by decide)
  refine aZ ?h5 ?q5
  case h5=>simp(disch:=decide) only[go_sem];all_goals rfl
  refine ae (ac (e:=?e6) (s':=?s6) av ?h6 ?q6)
  case h6=>simp(disch:=decide) only[go_sem];all_goals rfl
  refine bh ?_;refine⟨_,?e7,?W7,rfl,?h7,?q7⟩
  case h7=>simp(disch:=decide) only[Tryz.results63,go_sem];all_goals rfl
  refine⟨rfl,?_,fun o ho=>?_⟩
  ·simp(disch:=decide) only[go_sem]
  cases ho;simp(disch:=decide) only[go_sem]
 have hd0:¬d<0:=fun h=>hbad (.inl h)
 have hd8:¬8<d:=fun h=>hbad (.inr h)
 refine ae (aD ?_);refine cP av ⟨aI [(0,some (.pointer (some ⟨0,0,none⟩))),(3,some (.pointer (some ⟨2,0,none⟩))),(5,some (.int .i64 (n:Int))),(16,some (.bool false))],wd [(0,some (cn 1 (cU by_))),(1,some (cu by_)),(2,some (.cells [.int .i64 x.id,.int .i64 d,al az x.sides] 58 (0,0)))] 3 [] 0,[]⟩ ?hrb ?qrb
 case hrb=>
  refine⟨?s8,?a8,?b8⟩
  case a8=>simp(disch:=first|decide|omega) only[hos,go_sem]<;>with_reducible rfl
  exact ak (by simp(disch:=decide) [ai,ab,aa,ag]) (by simp(disch:=decide) [ai,ab,aa,ag]) (by decide)
 refine aO ?h9 ?q9
 case h9=>simp(disch:=decide) only[go_sem];all_goals rfl
 by_cases hbad2:d=0/\0<n\/d=1/\n≠2\/1<d/\(n<2\/64<n)
 ·have hf:ez by_ x=22:=by
   have:ld x=22:=by unfold ld;rw[if_neg (by rw[<-hd];exact hbad),if_pos (by rw[<-hd,<-hn];exact hbad2)]
   unfold ez;rw[this,if_pos (by decide)]
  rw[hf];refine cP av ⟨aI [(25,some (.bool true))],wd [(0,some (cn 1 (cU by_))),(1,some (cu by_))] 3 [] 0,[]⟩ ?hrc ?qrc
  case hrc=>
   rcases hbad2 with⟨h1,h2⟩|⟨h1,h2⟩|⟨h1,h2⟩
   ·refine⟨?s10,?a10,?b10⟩
    case a10=>simp(disch:=first|decide|omega) only[hos,go_sem]<;>with_reducible rfl
    exact ak (by simp(disch:=decide) [ai,ab,aa,ag]) (by simp(disch:=decide) [ai,ab,aa,ag]) (by decide)
   ·refine⟨?s11,?a11,?b11⟩
    case a11=>simp(disch:=first|decide|omega) only[hos,go_sem]<;>with_reducible rfl
    exact ak (by simp(disch:=decide) [ai,ab,aa,ag]) (by simp(disch:=decide) [ai,ab,aa,ag]) (by decide)
   by_cases h3:n<2
   ·refine⟨?s12,?a12,?b12⟩
    case a12=>simp(disch:=first|decide|omega) only[hos,go_sem]<;>with_reducible rfl
    exact ak (by simp(disch:=decide) [ai,ab,aa,ag]) (by simp(disch:=decide) [ai,ab,aa,ag]) (by decide)
   have h4:64<n:=by omega
   refine⟨?s13,?a13,?b13⟩
   case a13=>simp(disch:=first|decide|omega) only[hos,go_sem]<;>with_reducible rfl
   exact ak (by simp(disch:=decide) [ai,ab,aa,ag]) (by simp(disch:=decide) [ai,ab,aa,ag]) (by decide)
  refine aZ ?h14 ?q14
  case h14=>simp(disch:=decide) only[go_sem];all_goals rfl
  refine ae (ac (e:=?e15) (s':=?s15) av ?h15 ?q15)
  case h15=>simp(disch:=decide) only[go_sem];all_goals rfl
  refine bh ?_;refine⟨_,?e16,?W16,rfl,?h16,?q16⟩
  case h16=>simp(disch:=decide) only[Tryz.results63,go_sem];all_goals rfl
  refine⟨rfl,?_,fun o ho=>?_⟩
  ·simp(disch:=decide) only[go_sem]
  cases ho;simp(disch:=decide) only[go_sem]
 have hfA:ld x=0:=by unfold ld;rw[if_neg (by rw[<-hd];exact hbad),if_neg (by rw[<-hd,<-hn];exact hbad2)]
 have hn64:n<=64:=by omega
 refine cP av ⟨aI [(0,some (.pointer (some ⟨0,0,none⟩))),(3,some (.pointer (some ⟨2,0,none⟩))),(5,some (.int .i64 (n:Int))),(25,some (.bool false))],wd [(0,some (cn 1 (cU by_))),(1,some (cu by_)),(2,some (.cells [.int .i64 x.id,.int .i64 d,al az x.sides] 58 (0,0)))] 3 [] 0,[]⟩ ?hrd ?qrd
 case hrd=>
  by_cases h0:d=0
  ·have h2:¬0<n:=by omega
   refine⟨?s17,?a17,?b17⟩
   case a17=>simp(disch:=first|decide|omega) only[hos,go_sem]<;>with_reducible rfl
   exact ak (by simp(disch:=decide) [ai,ab,aa,ag]) (by simp(disch:=decide) [ai,ab,aa,ag]) (by decide)
  by_cases h1:d=1
  ·have h2:n=2:=by omega
   refine⟨?s18,?a18,?b18⟩
   case a18=>simp(disch:=first|decide|omega) only[hos,go_sem]<;>with_reducible rfl
   exact ak (by simp(disch:=decide) [ai,ab,aa,ag]) (by simp(disch:=decide) [ai,ab,aa,ag]) (by decide)
  have h2:¬n<2:=by omega
  have h3:¬64<n:=by omega
  refine⟨?s19,?a19,?b19⟩
  case a19=>simp(disch:=first|decide|omega) only[hos,go_sem]<;>with_reducible rfl
  exact ak (by simp(disch:=decide) [ai,ab,aa,ag]) (by simp(disch:=decide) [ai,ab,aa,ag]) (by decide)
 refine aO ?h20 ?q20
 case h20=>simp(disch:=decide) only[go_sem];all_goals rfl
 refine aH ?_;show bA _ _ _ _ _ _;refine ae ?_;refine ae (ac (e:=?e21) (s':=?s21) av ?h21 ?q21)
 case h21=>simp(disch:=decide) only[da,go_sem];all_goals rfl
 rw[<-hn];refine aD ?_;refine aU (s':=⟨aI [(0,some (.pointer (some ⟨0,0,none⟩))),(3,some (.pointer (some ⟨2,0,none⟩))),(5,some (.int .i64 (n:Int))),(56,some (al az x.sides)),(57,some (.int .i64 (n:Int))),(58,some (.int .i64 ((0:Nat):Int)))],wd [(0,some (cn 1 (cU by_))),(1,some (cu by_)),(2,some (.cells [.int .i64 x.id,.int .i64 d,al az x.sides] 58 (0,0)))] 3 [] 0,[]⟩) (ak (by simp(disch:=decide) [ai,ab,aa,ag]) (by simp(disch:=decide) [ai,ab,aa,ag]) (by decide)) ?_;refine bw (α:=Y8 by_ x) (fun y=>⟨aI [(0,some (.pointer (some ⟨0,0,none⟩))),(3,some (.pointer (some ⟨2,0,none⟩))),(5,some (.int .i64 (n:Int))),(56,some (al az x.sides)),(57,some (.int .i64 (n:Int))),(58,some (.int .i64 (y.i:Int)))],wd [(0,some (cn 1 (cU by_))),(1,some (cu by_)),(2,some (.cells [.int .i64 x.id,.int .i64 d,al az x.sides] 58 (0,0)))] 3 [] 0,[]⟩) (fun y=>n-y.i) ?_ ⟨0,Z3 _,rfl⟩;intro ⟨i,hi,heq⟩;simp only;rw[<-hd]at heq;by_cases hlt:i<n
 ·have hdr:(ao x.sides).drop i=(ao x.sides)[i]::(ao x.sides).drop (i+1):=aac (by omega);have hlast:=zP (l:=ao x.sides) (i:=i) (by omega);obtain⟨s,hs⟩:∃s,s=(ao x.sides)[i]:=⟨_,rfl⟩;have hix:∀j,dB Tryz.prog (some (.slice 60)) (some (al az x.sides)) (some (.int j ((i:Nat):Int)))=some (.val (some (FP [.int .i64 s.1,.int .i64 s.2]))):=fun j=>by rw[hs];exact pC (by omega)
  rw[hdr,<-hs]at heq;rw[<-hs]at hlast;have hp0:i=0->(((ao x.sides).take i).getLast?.map (·.1))=none:=fun e=>by subst e;rfl
  have hp1:∀i',i=i'+1->∃q:bC,(((ao x.sides).take i).getLast?.map (·.1))=some q.1/\∀j,dB Tryz.prog (some (.slice 60)) (some (al az x.sides)) (some (.int j ((i':Nat):Int)))=some (.val (some (FP [.int .i64 q.1,.int .i64 q.2]))):=fun i' e=>by
   subst e;exact⟨(ao x.sides)[i'],by rw[zP (by omega)];rfl,fun j=>pC (by omega)⟩
  obtain⟨pv,hpv⟩:∃pv,pv=(((ao x.sides).take i).getLast?.map (·.1)):=⟨_,rfl⟩;rw[<-hpv]at hp0 hp1 heq;obtain⟨s1,s2⟩:=s;simp only at hix heq hlast;refine ae (ac (e:=?e22) (s':=?s22) av ?h22 ?q22)
  case h22=>simp(disch:=decide) only[go_sem];all_goals rfl
  refine ae (aZ (by simp(disch:=first|decide|omega) only[go_sem]<;>with_reducible rfl) ?_);refine aH ?_;refine ae (aD ?_);refine ae (ac (e:=?e24) (s':=?s24) av ?h24 ?q24)
  case h24=>simp(disch:=decide) only[hix,fB,go_sem];all_goals rfl
  have hz:∀(z:Value),jJ Tryz.prog 3 (.int .i64 s1) true (some (bn (fun _=>dZ) by_ 0,by_.length)) (some z)=some (.val (some (pr true (((bz s1 by_).map dZ).getD z) (bz s1 by_).isSome))):=fun z=>qY Tryz.underlying3 s1 by_
  obtain⟨yi,yd,ys,fd,hfd⟩:∃yi yd ys fd,ys.isNone=ys.isNone/\bz s1 by_=(if fd=true then some (⟨yi,yd,ys⟩:aC)else none)/\(fd=false->yi=0/\yd=0/\ys=none):=by
   cases hg:bz s1 by_ with
   |none=>exact⟨0,0,none,false,rfl,rfl,fun _=>⟨rfl,rfl,rfl⟩⟩
   |some y=>exact⟨y.id,y.dim,y.sides,true,rfl,rfl,fun h=>by cases h⟩
  obtain⟨_,hfd,hfz⟩:=hfd;have hoy:bk (al az ys)=true:=bL _;refine bl av ⟨aI [(0,some (.pointer (some ⟨0,0,none⟩))),(3,some (.pointer (some ⟨2,0,none⟩))),(5,some (.int .i64 (n:Int))),(56,some (al az x.sides)),(57,some (.int .i64 (n:Int))),(58,some (.int .i64 (i:Int))),(6,some (.int .i64 (i:Int))),(7,some (.pointer (some ⟨3,0,none⟩))),(8,some (.pointer (some ⟨4,0,none⟩))),(9,some (.bool fd))],wd [(0,some (cn 1 (cU by_))),(1,some (cu by_)),(2,some (.cells [.int .i64 x.id,.int .i64 d,al az x.sides] 58 (0,0))),(3,some (.cells [.int .i64 s1,.int .i64 s2] 60 (0,0))),(4,some (.cells [.int .i64 yi,.int .i64 yd,al az ys] 58 (0,0)))] 5 [] 0,[]⟩ ?hda ?qda
  case hda=>
   cases fd with
   |false=>
    obtain⟨rfl,rfl,rfl⟩:=hfz rfl;simp only[if_neg (show ¬false=true by decide)]at hfd;rw[hfd]at hz;refine⟨?rsa,?sxa,?hxa,?kxa,?lxa⟩
    case hxa=>simp(disch:=decide) only[aE.eq_1,aE.eq_2,cm.eq_1,bd.eq_1,bd.eq_2,cn,cu,hz,Z6,aaW,Option.isSome_none,go_sem];all_goals rfl
    case kxa=>kernel_rfl
    case lxa=>exact ak (by simp(disch:=decide) [ai,ab,aa,ag]) (ap (by decide) rfl (ap (by decide) rfl (ap (by decide) rfl (ap (by decide) rfl (ap (by decide) rfl trivial))))) (by decide)
   |true=>
    simp only[if_pos]at hfd;rw[hfd]at hz;refine⟨?rsb,?sxb,?hxb,?kxb,?lxb⟩
    case hxb=>simp(disch:=decide) only[aE.eq_1,aE.eq_2,cm.eq_1,bd.eq_1,bd.eq_2,cn,cu,hz,ZW,aaJ,Option.isSome_some,dZ,an,hoy,go_sem];all_goals rfl
    case kxb=>kernel_rfl
    case lxb=>exact ak (by simp(disch:=decide) [ai,ab,aa,ag]) (ap (by decide) rfl (ap (by decide) rfl (ap (by decide) rfl (ap (by decide) rfl (ap (by decide) rfl trivial))))) (by decide)
  have hdw:IntKind.i64.wrap (d-((1:Nat):Int))=d-1:=by rw[wrap_i64 (by omega) (by omega)];omega
  by_cases hbd:fd=false\/yd≠d-1\/pv=some s1
  ·have hf:ez by_ x=22:=by
    unfold ez;rw[hfA,if_neg (by decide),<-hd,<-heq,if_pos];cases fd with
    |false=>exact CI hfd
    |true=>
     rw[qZ hfd];rcases hbd with h|h|h
     ·cases h
     ·simp[h]
     simp[h]
   rw[hf];refine bl av ⟨aI [(98,some (.bool true))],wd [(0,some (cn 1 (cU by_))),(1,some (cu by_))] 5 [] 0,[]⟩ ?hdc ?qdc
   case hdc=>
    cases fd with
    |false=>
     refine⟨?rsc,?sxc,?hxc,?kxc,?lxc⟩
     case hxc=>simp(disch:=decide) only[aE.eq_1,aE.eq_2,cm.eq_1,bd.eq_1,bd.eq_2,go_sem]<;>with_reducible rfl
     case kxc=>kernel_rfl
     case lxc=>exact ak (by simp(disch:=decide) [ai,ab,aa,ag]) (by simp(disch:=decide) [ai,ab,aa,ag]) (by decide)
    |true=>
     by_cases h2:yd=d-1
     ·have h3:pv=some s1:=by
       rcases hbd with h|h|h
       ·cases h
       ·exact absurd h2 h
       exact h
      have hnx:(yd !=d-1)=false:=by rw[h2];simp
      obtain⟨i',rfl⟩:∃i',i=i'+1:=⟨i-1,by
       have:i≠0:=fun e=>by rw[hp0 e]at h3;cases h3
       omega⟩
      obtain⟨q,hq1,hq2⟩:=hp1 i' rfl;have hqs:(q.1==s1)=true:=by rw[hq1]at h3;cases h3;simp
      have hiw:IntKind.i64.wrap (((i'+1:Nat):Int)-((1:Nat):Int))=((i':Nat):Int):=by rw[wrap_i64 (by omega) (by omega)];omega
      refine⟨?rsd,?sxd,?hxd,?kxd,?lxd⟩
      case hxd=>simp(disch:=first|decide|omega) only[aE.eq_1,aE.eq_2,cm.eq_1,bd.eq_1,bd.eq_2,hdw,hnx,hiw,hq2,hqs,fB,go_sem]<;>with_reducible rfl
      case kxd=>kernel_rfl
      case lxd=>exact ak (by simp(disch:=decide) [ai,ab,aa,ag]) (by simp(disch:=decide) [ai,ab,aa,ag]) (by decide)
     have hnx:(yd !=d-1)=true:=by simpa using h2
     refine⟨?rse,?sxe,?hxe,?kxe,?lxe⟩
     case hxe=>simp(disch:=decide) only[aE.eq_1,aE.eq_2,cm.eq_1,bd.eq_1,bd.eq_2,hdw,hnx,go_sem];all_goals rfl
     case kxe=>kernel_rfl
     case lxe=>exact ak (by simp(disch:=decide) [ai,ab,aa,ag]) (by simp(disch:=decide) [ai,ab,aa,ag]) (by decide)
   refine aZ ?h25 ?q25
   case h25=>simp(disch:=decide) only[go_sem];all_goals rfl
   refine ae (ac (e:=?e26) (s':=?s26) av ?h26 ?q26)
   case h26=>simp(disch:=decide) only[go_sem];all_goals rfl
   refine bh ?_;refine⟨_,?e27,?W27,rfl,?h27,?q27⟩
   case h27=>simp(disch:=decide) only[Tryz.results63,go_sem];all_goals rfl
   refine⟨rfl,?_,fun o ho=>?_⟩
   ·simp(disch:=decide) only[go_sem]
   cases ho;simp(disch:=decide) only[go_sem]
  have hft:fd=true:=by
   cases fd with
   |true=>rfl
   |false=>exact absurd (.inl rfl) hbd
  subst hft;have h2:yd=d-1:=Classical.byContradiction fun h=>hbd (.inr (.inl h))
  have h3:pv≠some s1:=fun h=>hbd (.inr (.inr h))
  have hnx:(yd !=d-1)=false:=by rw[h2];simp
  have hnext:jL by_ d (some s1) ((ao x.sides).drop (i+1))=jL by_ d none (ao x.sides):=by rw[<-heq,qZ hfd];simp[h2,h3]
  refine bl av ⟨aI [(0,some (.pointer (some ⟨0,0,none⟩))),(3,some (.pointer (some ⟨2,0,none⟩))),(5,some (.int .i64 (n:Int))),(56,some (al az x.sides)),(57,some (.int .i64 (n:Int))),(58,some (.int .i64 (i:Int))),(6,some (.int .i64 (i:Int))),(7,some (.pointer (some ⟨3,0,none⟩))),(98,some (.bool false))],wd [(0,some (cn 1 (cU by_))),(1,some (cu by_)),(2,some (.cells [.int .i64 x.id,.int .i64 d,al az x.sides] 58 (0,0))),(3,some (.cells [.int .i64 s1,.int .i64 s2] 60 (0,0)))] 5 [] 0,[]⟩ ?hdg ?qdg
  case hdg=>
   rcases Nat.eq_zero_or_pos i with h0|h0
   ·subst h0;refine⟨?rsf,?sxf,?hxf,?kxf,?lxf⟩
    case hxf=>simp(disch:=decide) only[aE.eq_1,aE.eq_2,cm.eq_1,bd.eq_1,bd.eq_2,hdw,hnx,go_sem]<;>with_reducible rfl
    case kxf=>kernel_rfl
    case lxf=>exact ak (by simp(disch:=decide) [ai,ab,aa,ag]) (by simp(disch:=decide) [ai,ab,aa,ag]) (by decide)
   obtain⟨i',rfl⟩:∃i',i=i'+1:=⟨i-1,by omega⟩;obtain⟨q,hq1,hq2⟩:=hp1 i' rfl;have hqs:(q.1==s1)=false:=AR fun e=>h3 (by rw[hq1,e])
   have hiw:IntKind.i64.wrap (((i'+1:Nat):Int)-((1:Nat):Int))=((i':Nat):Int):=by rw[wrap_i64 (by omega) (by omega)];omega
   refine⟨?rsg,?sxg,?hxg,?kxg,?lxg⟩
   case hxg=>simp(disch:=first|decide|omega) only[aE.eq_1,aE.eq_2,cm.eq_1,bd.eq_1,bd.eq_2,hdw,hnx,hiw,hq2,hqs,fB,go_sem]<;>with_reducible rfl
   case kxg=>kernel_rfl
   case lxg=>exact ak (by simp(disch:=decide) [ai,ab,aa,ag]) (by simp(disch:=decide) [ai,ab,aa,ag]) (by decide)
  refine aO (by simp(disch:=decide) only[go_sem]<;>with_reducible rfl) ?_;refine aH ?_;show bA _ _ _ _ _ _;refine ac av (by simp(disch:=first|decide|omega) only[go_sem]<;>with_reducible rfl) ?_;refine⟨⟨i+1,by omega,by rw[<-hd,hlast];exact hnext⟩,by simp only;omega,?_⟩;exact aV [(0,some 0),(1,some 1),(2,some 2)] [(0,some 0),(1,some 1),(2,some 2)] (by decide) (by decide) (by decide) (af (v:=.pointer (some ⟨0,0,none⟩)) (by decide) (by simp(disch:=first|decide|omega) only[ab,aa]) (ay (by simp(disch:=first|decide|omega) only[ab,aa])) (af (v:=.pointer (some ⟨2,0,none⟩)) (by decide) (by simp(disch:=first|decide|omega) only[ab,aa]) (ay (by simp(disch:=first|decide|omega) only[ab,aa])) (af (v:=.int .i64 (n:Int)) (by decide) (by simp(disch:=first|decide|omega) only[ab,aa]) (ar 1 rfl) (af (v:=al az x.sides) (by decide) (by simp(disch:=first|decide|omega) only[ab,aa]) (aB bB _ _ ah) (af (v:=.int .i64 (n:Int)) (by decide) (by simp(disch:=first|decide|omega) only[ab,aa]) (ar 1 rfl) (af (v:=.int .i64 ((i+1:Nat):Int)) (by decide) (by simp(disch:=first|decide|omega) only[ab,aa]) (ar 1 rfl) (aR))))))) (aj (o:=cn 1 (cU by_)) 0 (by simp(disch:=first|decide|omega) only[ab,aa]) (by decide) (by decide) (by simp(disch:=first|decide|omega) only[ab,aa]) (bJ (ax (cq (by simp(disch:=first|decide|omega) only[ab,aa])) (ax (io (ge by_) _ _ ah) aX))) (aj (o:=cu by_) 1 (by simp(disch:=first|decide|omega) only[ab,aa]) (by decide) (by decide) (by simp(disch:=first|decide|omega) only[ab,aa]) (aq ah (dj _)) (aj (o:=.cells [.int .i64 x.id,.int .i64 d,al az x.sides] 58 (0,0)) 2 (by simp(disch:=first|decide|omega) only[ab,aa]) (by decide) (by decide) (by simp(disch:=first|decide|omega) only[ab,aa]) (aq ah (bc (aw (aG 1 rfl) (aw (aG 1 rfl) (aw (aB bB _) aQ))))) bj))) .nil
 have e:i=n:=by omega
 have hno:jL by_ d none (ao x.sides)=false:=by rw[<-heq,Z5 (by omega)];rfl
 refine ae (ac (e:=?e30) (s':=?s30) av ?h30 ?q30)
 case h30=>simp(disch:=decide) only[go_sem];all_goals rfl
 refine ae (aO (by simp(disch:=first|decide|omega) only[go_sem]<;>with_reducible rfl) ?_);refine bp ?_;show bA _ _ _ _ _ _;refine ae (ac (e:=?e32) (s':=?s32) av ?h32 ?q32)
 case h32=>simp(disch:=decide) only[go_sem];all_goals rfl
 refine ae ?_;refine ae (ac (e:=?e33) (s':=?s33) av ?h33 ?q33)
 case h33=>simp(disch:=decide) only[da,go_sem];all_goals rfl
 rw[<-hn];refine aD ?_;refine aU (s':=⟨aI [(3,some (.pointer (some ⟨2,0,none⟩))),(10,some (.int .i64 0)),(101,some (al az x.sides)),(102,some (.int .i64 (n:Int))),(103,some (.int .i64 ((0:Nat):Int)))],wd [(0,some (cn 1 (cU by_))),(1,some (cu by_)),(2,some (.cells [.int .i64 x.id,.int .i64 d,al az x.sides] 58 (0,0)))] 3 [] 0,[]⟩) (ak (by simp(disch:=decide) [ai,ab,aa,ag]) (by simp(disch:=decide) [ai,ab,aa,ag]) (by decide)) ?_;refine bw (α:=ZE x) (fun y=>⟨aI [(3,some (.pointer (some ⟨2,0,none⟩))),(10,some (.int .i64 y.sum)),(101,some (al az x.sides)),(102,some (.int .i64 (n:Int))),(103,some (.int .i64 (y.i:Int)))],wd [(0,some (cn 1 (cU by_))),(1,some (cu by_)),(2,some (.cells [.int .i64 x.id,.int .i64 d,al az x.sides] 58 (0,0)))] 3 [] 0,[]⟩) (fun y=>n-y.i) ?_ ⟨0,0,Z3 _,rfl,rfl,by omega⟩;clear hi hlt heq e i;intro ⟨i,sum,hi,hsum,hgood,hb⟩;simp only;by_cases hlt:i<n
 ·have hst:=Mz (l:=ao x.sides) (i:=i) (by omega);have hbt:=Lq (l:=ao x.sides) (i:=i) (by omega);obtain⟨s,hs⟩:∃s,s=(ao x.sides)[i]:=⟨_,rfl⟩;have hix:∀j,dB Tryz.prog (some (.slice 60)) (some (al az x.sides)) (some (.int j ((i:Nat):Int)))=some (.val (some (FP [.int .i64 s.1,.int .i64 s.2]))):=fun j=>by rw[hs];exact pC (by omega)
  rw[<-hs,<-hsum]at hst;rw[<-hs,hgood,Bool.false_or]at hbt;have hmem:s∈ao x.sides:=by rw[hs];exact aay _
  obtain⟨s1,w⟩:=s;simp only at hix hst hbt;refine ae (ac (e:=?e34) (s':=?s34) av ?h34 ?q34)
  case h34=>simp(disch:=decide) only[go_sem];all_goals rfl
  refine ae (aZ (by simp(disch:=first|decide|omega) only[go_sem]<;>with_reducible rfl) ?_);refine aH ?_;refine ae (aD ?_);refine ae (ac (e:=?e36) (s':=?s36) av ?h36 ?q36)
  case h36=>simp(disch:=decide) only[hix,go_sem];all_goals rfl
  by_cases hw:w≠1/\w≠-1
  ·have hf:ez by_ x=23:=by
    have hsb:pE (ao x.sides)=true:=List.any_eq_true.2 ⟨(s1,w),hmem,decide_eq_true hw⟩;unfold ez;rw[hfA,if_neg (by decide),<-hd,hno,if_neg (by decide),if_pos hsb]
   have hn1:(w !=((1:Nat):Int))=true:=jK hw.1;have hn2:(w !=(-1:Int))=true:=jK hw.2;rw[hf];refine ae ?_;refine ae (ac (e:=?e37) (s':=?s37) av ?h37 ?q37)
   case h37=>simp(disch:=decide) only[hn1,hn2,go_sem];all_goals rfl
   refine aZ ?h38 ?q38
   case h38=>simp(disch:=decide) only[go_sem];all_goals rfl
   refine ae (ac (e:=?e39) (s':=?s39) av ?h39 ?q39)
   case h39=>simp(disch:=decide) only[go_sem];all_goals rfl
   refine bh ?_;refine⟨_,?e40,?W40,rfl,?h40,?q40⟩
   case h40=>simp(disch:=decide) only[Tryz.results63,go_sem];all_goals rfl
   refine⟨rfl,?_,fun o ho=>?_⟩
   ·simp(disch:=decide) only[go_sem]
   cases ho;simp(disch:=decide) only[go_sem]
  have hwb:-1<=w/\w<=1:=by omega
  have hsw:IntKind.i64.wrap (sum+w)=sum+w:=by rw[wrap_i64 (by omega) (by omega)]
  refine ae ?_;refine cP av ⟨aI [(3,some (.pointer (some ⟨2,0,none⟩))),(10,some (.int .i64 sum)),(101,some (al az x.sides)),(102,some (.int .i64 (n:Int))),(103,some (.int .i64 (i:Int))),(12,some (.pointer (some ⟨3,0,none⟩))),(114,some (.bool false))],wd [(0,some (cn 1 (cU by_))),(1,some (cu by_)),(2,some (.cells [.int .i64 x.id,.int .i64 d,al az x.sides] 58 (0,0))),(3,some (.cells [.int .i64 s1,.int .i64 w] 60 (0,0)))] 4 [] 0,[]⟩ ?hrg ?qrg
  case hrg=>
   by_cases h1:w=1
   ·have hn1:(w !=((1:Nat):Int))=false:=li h1;refine⟨?s41,?a41,?b41⟩
    case a41=>simp(disch:=decide) only[hn1,go_sem];all_goals rfl
    exact ak (by simp(disch:=decide) [ai,ab,aa,ag]) (by simp(disch:=decide) [ai,ab,aa,ag]) (by decide)
   have hn1:(w !=((1:Nat):Int))=true:=jK h1;have hn2:(w !=(-1:Int))=false:=li (by omega);refine⟨?s42,?a42,?b42⟩
   case a42=>simp(disch:=decide) only[hn1,hn2,go_sem];all_goals rfl
   exact ak (by simp(disch:=decide) [ai,ab,aa,ag]) (by simp(disch:=decide) [ai,ab,aa,ag]) (by decide)
  refine aO ?h43 ?q43
  case h43=>simp(disch:=decide) only[go_sem];all_goals rfl
  refine aH ?_;show bA _ _ _ _ _ _;refine ac av (by simp(disch:=decide) only[hsw,go_sem]<;>with_reducible rfl) ?_;show bA _ _ _ _ _ _;refine ac av (by simp(disch:=first|decide|omega) only[go_sem]<;>with_reducible rfl) ?_;refine⟨⟨i+1,sum+w,by omega,hst.symm,by rw[hbt];exact decide_eq_false hw,by omega⟩,by simp only;omega,?_⟩;exact aV [(0,some 0),(1,some 1),(2,some 2)] [(0,some 0),(1,some 1),(2,some 2)] (by decide) (by decide) (by decide) (af (v:=.pointer (some ⟨2,0,none⟩)) (by decide) (by simp(disch:=first|decide|omega) only[ab,aa]) (ay (by simp(disch:=first|decide|omega) only[ab,aa])) (af (v:=.int .i64 (sum+w:Int)) (by decide) (by simp(disch:=first|decide|omega) only[ab,aa]) (ar 1 rfl) (af (v:=al az x.sides) (by decide) (by simp(disch:=first|decide|omega) only[ab,aa]) (aB bB _ _ ah) (af (v:=.int .i64 (n:Int)) (by decide) (by simp(disch:=first|decide|omega) only[ab,aa]) (ar 1 rfl) (af (v:=.int .i64 ((i+1:Nat):Int)) (by decide) (by simp(disch:=first|decide|omega) only[ab,aa]) (ar 1 rfl) (aR)))))) (aj (o:=cn 1 (cU by_)) 0 (by simp(disch:=first|decide|omega) only[ab,aa]) (by decide) (by decide) (by simp(disch:=first|decide|omega) only[ab,aa]) (bJ (ax (cq (by simp(disch:=first|decide|omega) only[ab,aa])) (ax (io (ge by_) _ _ ah) aX))) (aj (o:=cu by_) 1 (by simp(disch:=first|decide|omega) only[ab,aa]) (by decide) (by decide) (by simp(disch:=first|decide|omega) only[ab,aa]) (aq ah (dj _)) (aj (o:=.cells [.int .i64 x.id,.int .i64 d,al az x.sides] 58 (0,0)) 2 (by simp(disch:=first|decide|omega) only[ab,aa]) (by decide) (by decide) (by simp(disch:=first|decide|omega) only[ab,aa]) (aq ah (bc (aw (aG 1 rfl) (aw (aG 1 rfl) (aw (aB bB _) aQ))))) bj))) .nil
 have e:i=n:=by omega
 have htk:(ao x.sides).take i=ao x.sides:=List.take_of_length_le (by omega);rw[htk]at hsum hgood;refine ae (ac (e:=?e46) (s':=?s46) av ?h46 ?q46)
 case h46=>simp(disch:=decide) only[go_sem];all_goals rfl
 refine ae (aO (by simp(disch:=first|decide|omega) only[go_sem]<;>with_reducible rfl) ?_);refine bp ?_;show bA _ _ _ _ _ _;by_cases hl:d=1/\sum≠0
 ·have hf:ez by_ x=23:=by
   unfold ez;rw[hfA,if_neg (by decide),<-hd,hno,if_neg (by decide),hgood,if_neg (by decide),if_pos (by rw[<-hsum];exact hl)]
  obtain⟨hl1,hl2⟩:=hl;have hn1:(sum !=((0:Nat):Int))=true:=jK hl2;rw[hf];refine ae ?_;refine ae (ac av (by simp(disch:=first|decide|omega) only[hn1,go_sem]<;>with_reducible rfl) ?_);refine aZ ?h49 ?q49
  case h49=>simp(disch:=decide) only[go_sem];all_goals rfl
  refine ae (ac (e:=?e50) (s':=?s50) av ?h50 ?q50)
  case h50=>simp(disch:=decide) only[go_sem];all_goals rfl
  refine bh ?_;refine⟨_,?e51,?W51,rfl,?h51,?q51⟩
  case h51=>simp(disch:=decide) only[Tryz.results63,go_sem];all_goals rfl
  refine⟨rfl,?_,fun o ho=>?_⟩
  ·simp(disch:=decide) only[go_sem]
  cases ho;simp(disch:=decide) only[go_sem]
 have hf:ez by_ x=0:=by unfold ez;rw[hfA,if_neg (by decide),<-hd,hno,if_neg (by decide),hgood,if_neg (by decide),if_neg (by rw[<-hsum];exact hl)]
 rw[hf];refine ae ?_;refine cP av ⟨aI [(126,some (.bool false))],wd [(0,some (cn 1 (cU by_))),(1,some (cu by_))] 3 [] 0,[]⟩ ?hrh ?qrh
 case hrh=>
  by_cases h1:d=1
  ·have hn1:(sum !=((0:Nat):Int))=false:=li (Classical.byContradiction fun h=>hl ⟨h1,h⟩);refine⟨?s52,?a52,?b52⟩
   case a52=>simp(disch:=first|decide|omega) only[hn1,go_sem]<;>with_reducible rfl
   exact ak (by simp(disch:=decide) [ai,ab,aa,ag]) (by simp(disch:=decide) [ai,ab,aa,ag]) (by decide)
  refine⟨?s53,?a53,?b53⟩
  case a53=>simp(disch:=first|decide|omega) only[hos,go_sem]<;>with_reducible rfl
  exact ak (by simp(disch:=decide) [ai,ab,aa,ag]) (by simp(disch:=decide) [ai,ab,aa,ag]) (by decide)
 refine aO ?h54 ?q54
 case h54=>simp(disch:=decide) only[go_sem];all_goals rfl
 refine aH ?_;show bA _ _ _ _ _ _;refine ae (ac (e:=?e55) (s':=?s55) av ?h55 ?q55)
 case h55=>simp(disch:=decide) only[go_sem];all_goals rfl
 refine bh ?_;refine⟨_,?e56,?W56,rfl,?h56,?q56⟩
 case h56=>simp(disch:=decide) only[Tryz.results63,go_sem];all_goals rfl
 refine⟨rfl,?_,fun o ho=>?_⟩
 ·simp(disch:=decide) only[go_sem]
 cases ho;simp(disch:=decide) only[go_sem]
open Classical in
noncomputable def rA:PP dD:=fun xs by_=>if h:∃x,xs=[dZ x]then some (.int .i64 (ez by_ (Classical.choose h)),by_,.rd)else none
theorem Mm{by_:dD}{x:aC}:rA [dZ x] by_=some (.int .i64 (ez by_ x),by_,.rd):=by
 have hx:∃y,[dZ x]=[dZ y]:=⟨x,rfl⟩;have e:rA [dZ x] by_=some (.int .i64 (ez by_ (Classical.choose hx)),by_,.rd):=dif_pos hx;have h2:=ZQ hx;injection h2 with h2 _;rw[e,<-tL h2]
theorem zS{xs:List Value}{by_ a':dD}{v:Value}{md:Md}(h:rA xs by_=some (v,a',md)):∃x,xs=[dZ x]/\v=.int .i64 (ez by_ x)/\a'=by_/\md=.rd:=by
 unfold rA at h;split at h
 ·rename_i hx;cases h;exact⟨_,ZQ hx,rfl,rfl,rfl⟩
 cases h
theorem RX:bD Tryz.prog 63 (ic sS rA):=uO (enters_of (by kernel_rfl)) (fun xs a v a' md h=>by
 obtain⟨x,rfl,rfl,_,_⟩:=zS h;exact⟨aw (rO x) aQ,aG 1 rfl⟩) (fun xs a v a' md h=>by
 obtain⟨x,rfl,rfl,rfl,rfl⟩:=zS h;exact Kx _ x)
def nO(s d B:Nat)(x:Nat):Option Nat:=if x=s then some d else if x=d then none else if x<B then some x else none
theorem kW{s d B:Nat}:nO s d B s=some d:=if_pos rfl
theorem aL{s d B x:Nat}(h1:x≠s)(h2:x≠d)(h3:x<B):nO s d B x=some x:=by
 unfold nO;rw[if_neg h1,if_neg h2,if_pos h3]
theorem yR{P:Program}{k:Nat}{F F':List (Nat×Option Value)}{L L':List (Nat×Option bb)}{n n' nl:Nat}{lg:List Nat}{s d B:Nat}(hd:k<=d)(hdn:d<n')(hB:B<=n')(hk:k<=n')
 (hF:jO (cM (nO s d B)) F F') (hL:∀m o',lk L' m=some o'->m<n'->∃x o,nO s d B x=some m/\x<n/\x<16383/\lk L x=some o/\TO P (cM (nO s d B)) o o'):db P k ⟨aI F,wd L n lg nl,[]⟩ ⟨aI F',wd L' n' [] 0,[]⟩:=by
 refine qR (nO s d B) (fun m=>if m=d then some s else if m<B/\m≠s then some m else none) (fun x m h=>?_) (fun m x h=>?_) hk (fun t v' h=>?_) (fun m o' h=>?_) .nil
 ·unfold nO at h;split at h
  ·rename_i e;cases h;exact .inr ⟨hd,by rw[if_pos rfl,e]⟩
  rename_i e;split at h
  ·cases h
  rename_i e2;split at h
  ·rename_i e3;cases h;rcases aaa x k with q|q
   ·exact .inl ⟨q,rfl⟩
   exact .inr ⟨q,by rw[if_neg e2,if_pos ⟨e3,e⟩]⟩
  cases h
 ·show m<n';split at h
  ·rename_i e;rw[e];exact hdn
  split at h
  ·rename_i e;omega
  cases h
 ·obtain⟨h1,v,h2,h3⟩:=hF.mem t v' (bX (gS h));exact⟨v,by show(aI F).get t=some v;rw[iZ h1];exact h2,h3⟩
 obtain⟨g1,g2⟩:=dV h;obtain⟨x,o,h1,h2,h3,h4,h5⟩:=hL m o' g2 g1;exact⟨x,o,h1,by show(wd L n lg nl).get x=some o;rw[bO h2 h3];exact h4,h5⟩
section
variable {P:Program} {β:Type} {enc:β->List Value} {e:TypeId} {B:Nat}
def kS(enc:β->List Value)(e:TypeId)(l:List β):bb:=.cells (l.flatMap enc) e (0,0)
def gq(B:Nat)(i:Nat)(l:List β):Value:=.slice (some ⟨B+i,0,none⟩) l.length aM
def gp(B:Nat)(rs:List (Int×List β)):bb:=.map (bn (gq B) rs 0) rs.length
def eC(enc:β->List Value)(e:TypeId)(B:Nat):List (Int×List β)->Nat->List (Nat×Option bb)
 |[],_=>[]
 |x::l,i=>(B+i,some (kS enc e x.2))::eC enc e B l (i+1)
theorem dK:∀(l:List (Int×List β)) (j m:Nat),lk (eC enc e B l j) m=if B+j<=m then(l[m-(B+j)]?).map fun x=>kS enc e x.2 else none
 |[],j,m=>by
  unfold eC;rw[ag];split<;>simp
 |x::l,j,m=>by
  unfold eC;by_cases h:B+j=m
  ·rw[<-h,ab,if_pos (Nat.le_refl _),Nat.sub_self];rfl
  rw[aa h,dK l (j+1) m];by_cases h2:B+j<=m
  ·rw[if_pos h2,if_pos (by omega),show m-(B+j)=(m-(B+(j+1)))+1 by omega];rfl
  rw[if_neg h2,if_neg (by omega)]
theorem ix{α:Type}{R:List (Nat×Option α)}:∀{A:List (Nat×Option α)} {m:Nat},(∀p∈A,p.1≠m)->lk (A++R) m=lk R m
 |[],m,_=>rfl
 |(a,x)::A,m,h=>by
  rw[List.cons_append,aa (h (a,x) aaf),ix fun p hp=>h p (aal _ hp)]
theorem wX{α:Type}{R:List (Nat×Option α)}{m:Nat}{o:α}:∀(A:List (Nat×Option α)),lk (A++R) m=some o->lk R m=none->lk A m=some o\/False
 |[],h,hr=>by rw[List.nil_append,hr]at h;cases h
 |(a,x)::A,h,hr=>by
  rw[List.cons_append]at h;by_cases e:a=m
  ·subst e;rw[ab]at h ⊢;exact .inl h
  rw[aa e]at h ⊢;exact wX A h hr
def gD(k:Int)(x:β)(rs:List (Int×List β)):List (Int×List β):=cJ k ((bz k rs).getD []++[x]) rs
def gW(k:Int)(rs:List (Int×List β)):Nat:=match fq k rs 0 with
 |some (i,_)=>i
 |none=>rs.length
theorem S7(k:Int)(rs:List (Int×List β)):gW k rs<=rs.length:=by
 unfold gW;split
 ·rename_i i b h;have:=eY h;omega
 exact Nat.le_refl _
def kR{γ:Type}(k:Int)(v:Value)(f:Nat->γ->Value)(l:List (Int×γ)):List MapEntry:=match fq k l 0 with
 |some (i,_)=>(bn f l 0).set i ⟨kV k,v,i⟩
 |none=>bn f l 0++[⟨kV k,v,l.length⟩]
theorem pB{γ:Type}{T:TypeId}(hu:P.underlying T=some (.int .i64)){f:Nat->γ->Value}{k:Int}{l:List (Int×γ)}(b:γ){W:XW}{r:Nat}{v:Value} :
 jh P W r T (kV k) v (some (.map (bn f l 0) l.length))=some (.mod undef (W.put r (some (.map (kR k v f l) (cJ k b l).length)))):=by
 show(bif ia P T (kV k) false then rD W r (bn f l 0) l.length (kV k) v (gH P T (kV k) (bn f l 0))else none)=_;rw[uK hu,cond_true,uV hu];unfold kR;rw[iO];cases h:fq k l 0 with
 |none=>
  rw[iu.1 h];rfl
 |some x=>
  obtain⟨i,b0⟩:=x;have hs:=eY h;have hg:bz k l=some b0:=by rw[<-iJ k l 0,h];rfl
  show wn W r (bn f l 0) l.length i (kV k) v (bn f l 0)[i]?=_;rw[oN (by rw[<-aad i];exact hs.2.2),Nat.zero_add];show(bif gC (kV k) (kV k)then some (XR.mod undef (W.put r (some (.map ((bn f l 0).set i ⟨kV k,v,i⟩) l.length))))else none)=_;rw[wO,cond_true,hg];rfl
theorem rt{T:RT}{f:Nat->List β->Value}:∀{l:List (Int×List β)} {j:Nat},(∀i x,j<=i->i<j+l.length->TV T (f i x) (f i x))->kZ T (bn f l j) (bn f l j)
 |[],_,_=>.nil
 |x::l,j,h=>.cons _ _ _ _ (ar 1 rfl) (h j x.2 (Nat.le_refl _) (by rw[List.length_cons];omega)) rfl (rt fun i y h1 h2=>h i y (by omega) (by rw[List.length_cons];omega))
theorem BK{T:RT}{v v':Value}{k:Int}{c:Nat}(hv:TV T v v'):∀{l l':List MapEntry},kZ T l l'->kZ T (l++[⟨kV k,v,c⟩]) (l'++[⟨kV k,v',c⟩])
 |_,_,.nil=>.cons _ _ _ _ (ar 1 rfl) hv rfl .nil
 |_,_,.cons _ _ _ _ a b c d=>.cons _ _ _ _ a b c (BK hv d)
theorem Fu{T:RT}{f:Nat->List β->Value}{k:Int}{v:Value}{b:List β}:∀{l:List (Int×List β)} {j i:Nat} {b0:List β},fq k l j=some (i,b0)->TV T v (f i b)->(∀q x,j<=q->q<j+l.length->q≠i->TV T (f q x) (f q x)) ->
 kZ T ((bn f l j).set (i-j) ⟨kV k,v,i⟩) (bn f (cJ k b l) j)
 |[],_,_,_,h,_,_=>by cases h
 |x::l,j,i,b0,h,hv,hs=>by
  have hsp:=eY h;unfold fq at h;unfold cJ;split at h
  ·rename_i hk;cases h;rw[if_pos hk,Nat.sub_self];exact .cons _ _ _ _ (ar 1 rfl) hv rfl (rt fun q y h1 h2=>hs q y (by omega) (by rw[List.length_cons];omega) (by omega))
  rename_i hk;rw[if_neg hk];have hs2:=eY h;rw[show i-j=(i-(j+1))+1 by omega];exact .cons _ _ _ _ (ar 1 rfl) (hs j x.2 (Nat.le_refl _) (by rw[List.length_cons];omega) (by omega)) rfl (Fu h hv fun q y h1 h2 h3=>hs q y (by omega) (by rw[List.length_cons];omega) h3)
theorem Pw{T:RT}{k:Int}{v:Value}{b:List β}{f:Nat->List β->Value}{rs:List (Int×List β)}(hv:TV T v (f (gW k rs) b))(hs:∀q x,q<rs.length->q≠gW k rs->TV T (f q x) (f q x)):kZ T (kR k v f rs) (bn f (cJ k b rs) 0):=by
 unfold kR;unfold gW at hv hs;cases h:fq k rs 0 with
 |none=>
  rw[h]at hv hs;rw[lQ (iu.1 h)];have:=tW (f:=f) k b rs 0;rw[Nat.zero_add]at this;rw[<-this];have hs':∀q x,q<rs.length->q≠rs.length->TV T (f q x) (f q x):=hs;exact BK hv (rt fun i x h1 h2=>hs' i x (by omega) (by omega))
 |some x=>
  obtain⟨i,b0⟩:=x;rw[h]at hv hs;have:=Fu (T:=T) (f:=f) (b:=b) h hv fun q y h1 h2 h3=>hs q y (by omega) h3
  rw[aad]at this;exact this
theorem FE{k:Int}{rs:List (Int×List β)}{b:List β}(j:Nat):(cJ k b rs)[j]?=if j=gW k rs then some (k,b)else rs[j]?:=by
 unfold gW;cases h:fq k rs 0 with
 |none=>
  rw[lQ (iu.1 h)];show(rs++[(k,b)])[j]?=if j=rs.length then _ else _
  rw[aax];by_cases h1:j<rs.length
  ·rw[if_pos h1,if_neg (by omega)]
  rw[if_neg h1];by_cases h2:j=rs.length
  ·rw[if_pos h2,h2,Nat.sub_self];rfl
  rw[if_neg h2,aae (by simp;omega),aae (by omega)]
 |some x=>
  obtain⟨i,b0⟩:=x;have key:∀(l:List (Int×List β)) (q i:Nat) (b0:List β),fq k l q=some (i,b0)->∀j,(cJ k b l)[j]?=if j+q=i then some (k,b)else l[j]?:=by
   intro l
   induction l with
   |nil=>intro q i b0 h;cases h
   |cons x l ih=>
    intro q i b0 h j;have hs:=eY h;unfold fq at h;unfold cJ;split at h
    ·rename_i hk;cases h;rw[if_pos hk];cases j with
     |zero=>rw[if_pos (by omega)];rfl
     |succ j=>rw[if_neg (by omega)];rfl
    rename_i hk;have hs2:=eY h;rw[if_neg hk];cases j with
    |zero=>rw[if_neg (by omega)];rfl
    |succ j=>
     show(cJ k b l)[j]?=if j+1+q=i then some (k,b)else l[j]?
     rw[ih (q+1) i b0 h j,show j+(q+1)=j+1+q by omega]
  have:=key rs 0 i b0 h j;rw[Nat.add_zero]at this;exact this
theorem Cq{k:Int}{rs:List (Int×List β)}{b:List β}:gW k rs<(cJ k b rs).length/\(cJ k b rs).length<=rs.length+1/\rs.length<=(cJ k b rs).length:=by
 have h1:=FE (k:=k) (rs:=rs) (b:=b) (gW k rs);rw[if_pos rfl]at h1;have:=(List.getElem?_eq_some_iff.1 h1).1;refine⟨this,?_,?_⟩<;>rw[iO]<;>split<;>omega
theorem n3{k:Int}{v:Value}{f g:Nat->List β->Value}{rs:List (Int×List β)}(h:∀q x,q<rs.length->q≠gW k rs->f q x=g q x):kR k v f rs=kR k v g rs:=by
 have key:∀(l:List (Int×List β)) (j:Nat),(∀q x,j<=q->q<j+l.length->f q x=g q x)->bn f l j=bn g l j:=by
  intro l
  induction l with
  |nil=>intro j _;rfl
  |cons a l ih=>
   intro j hq;unfold bn;rw[hq j a.2 (Nat.le_refl _) (by rw[List.length_cons];omega),ih (j+1) fun q x h1 h2=>hq q x (by omega) (by rw[List.length_cons];omega)]
 unfold kR;unfold gW at h;cases hx:fq k rs 0 with
 |none=>
  rw[hx]at h;have h':∀q x,q<rs.length->q≠rs.length->f q x=g q x:=h;simp only;rw[key rs 0 fun q x h1 h2=>h' q x (by omega) (by omega)]
 |some y=>
  obtain⟨i,b0⟩:=y;rw[hx]at h;have h':∀q x,q<rs.length->q≠i->f q x=g q x:=h;simp only;refine aao fun q=>?_
  rw[List.getElem?_set,List.getElem?_set,gO,gO];by_cases hq:i=q
  ·rw[if_pos hq,if_pos hq]
  rw[if_neg hq,if_neg hq];cases hr:rs[q]? with
  |none=>
   have:rs.length<=q:=List.getElem?_eq_none_iff.1 hr;rw[aae (by rw[gO];exact this),aae (by rw[gO];exact this)]
  |some z=>
   have hlt:=(List.getElem?_eq_some_iff.1 hr).1;obtain⟨a,b⟩:=z;rw[oN hr,oN hr,Nat.zero_add,h' q b hlt fun e=>hq e.symm]
def eB(B d i0:Nat)(i:Nat)(l:List β):Value:=if i=i0 then .slice (some ⟨d,0,none⟩) l.length aM else gq B i l
theorem rK{kk:Nat}{F F':List (Nat×Option Value)}{A L:List (Nat×Option bb)}{n nl d mp i0:Nat}{lg:List Nat}{rs:List (Int×List β)}(hb:∀x,dt (enc x))(hk:kk<=B)(hmp:mp<B)(hi:i0<rs.length)(hd:d<B)(hdk:kk<=d)(hdm:d≠mp)(hn:n<16383)(hBn:B+rs.length<=n)
 (hF:jO (cM (nO (B+i0) d n)) F F')
 (hA:∀m o,lk A m=some o->(m<B\/B+rs.length<=m)/\m≠mp/\m≠d/\m<n/\lk L m=some o/\TO P (cM (nO (B+i0) d n)) o o) (hAB:∀p∈A,(p.1<B\/B+rs.length<=p.1)/\p.1≠mp/\p.1≠d)
 (hm:lk L mp=some (gp B rs)) (hrows:∀j,j<rs.length->lk L (B+j)=(rs[j]?).map fun x=>kS enc e x.2) :
 db P kk ⟨aI F,wd L n lg nl,[]⟩ ⟨aI F',wd ((d,(rs[i0]?).map fun x=>kS enc e x.2)::(B+i0,none)::(A++((mp,some (.map (bn (eB B d i0) rs 0) rs.length))::eC enc e B rs 0))) n [] 0,[]⟩:=by
 refine yR hdk (by omega) (by omega) (by omega) hF fun m o' h hmn=>?_
 by_cases hmd:m=d
 ·subst hmd;rw[ab]at h;refine⟨B+i0,o',kW,by omega,by omega,by rw[hrows i0 hi];exact h,?_⟩;obtain⟨x,_,hx⟩:=Option.map_eq_some_iff.1 h;rw[<-hx];exact aq ah (bc (br hb _))
 rw[aa (fun e=>hmd e.symm)]at h;by_cases hm0:m=B+i0
 ·subst hm0;rw[ab]at h;cases h
 rw[aa (fun e=>hm0 e.symm)]at h;by_cases hmm:m=mp
 ·subst hmm;rw[ix fun p hp=>(hAB p hp).2.1,ab]at h;cases h;refine⟨m,_,aL (by omega) hmd (by omega),by omega,by omega,hm,jY ?_⟩;have key:∀(l:List (Int×List β)) (j:Nat),j+l.length<=rs.length->kZ (cM (nO (B+i0) d n)) (bn (gq B) l j) (bn (eB B d i0) l j):=by
   intro l
   induction l with
   |nil=>intro j _;exact .nil
   |cons a l ih=>
    intro j hj;rw[List.length_cons]at hj;refine .cons _ _ _ _ (ar 1 rfl) ?_ rfl (ih (j+1) (by omega));show TV _ (gq B j a.2) (eB B d i0 j a.2);unfold eB;by_cases hji:j=i0
    ·rw[if_pos hji,hji];exact bI kW
    rw[if_neg hji];exact bI (aL (by omega) (by omega) (by omega))
  exact key rs 0 (by omega)
 by_cases hmB:m<B\/B+rs.length<=m
 ·have hx:lk A m=some o':=by
   have hr:lk ((mp,some (bb.map (bn (eB B d i0) rs 0) rs.length))::eC enc e B rs 0) m=none:=by
    rw[aa (fun e=>hmm e.symm),dK];split
    ·rw[aae (by omega)];rfl
    rfl
   rcases wX A h hr with h|h
   ·exact h
   exact h.elim
  obtain⟨a1,a2,a3,a4,a5,a6⟩:=hA m o' hx;exact⟨m,o',aL (by omega) hmd (by omega),a4,by omega,a5,a6⟩
 rw[ix fun p hp=>by have:=(hAB p hp).1;omega,aa (fun e=>hmm e.symm),dK,if_pos (by omega)]at h;have hlt:m-(B+0)<rs.length:=by omega
 have:=hrows (m-(B+0)) hlt;rw[h,show B+(m-(B+0))=m by omega]at this;refine⟨m,o',aL hm0 hmd (by omega),by omega,by omega,this,?_⟩;obtain⟨x,_,hx⟩:=Option.map_eq_some_iff.1 h;rw[<-hx];exact aq ah (bc (br hb _))
theorem lR{kk:Nat}{F F':List (Nat×Option Value)}{A L:List (Nat×Option bb)}{n nl s mp:Nat}{lg:List Nat}{k:Int}{b:List β}{rs:List (Int×List β)}(hb:∀x,dt (enc x))(hk:kk<=B)(hmp:mp<B)(hs:B+rs.length<=s)(hsn:s<n)(hn:n<16383)
 (hF:jO (cM (nO s (B+gW k rs) (B+rs.length))) F F')
 (hA:∀m o,lk A m=some o->m<B/\m≠mp/\lk L m=some o/\TO P (cM (nO s (B+gW k rs) (B+rs.length))) o o) (hAB:∀p∈A,p.1<B/\p.1≠mp)
 (hm:lk L mp=some (.map (kR k (.slice (some ⟨s,0,none⟩) b.length aM) (gq B) rs) (cJ k b rs).length)) (hsr:lk L s=some (kS enc e b)) (hrows:∀j,j<rs.length->j≠gW k rs->lk L (B+j)=(rs[j]?).map fun x=>kS enc e x.2) :
 db P kk ⟨aI F,wd L n lg nl,[]⟩ ⟨aI F',wd (A++((mp,some (gp B (cJ k b rs)))::eC enc e B (cJ k b rs) 0)) ((cJ k b rs).length+B) [] 0,[]⟩:=by
 obtain⟨l1,l2,l3⟩:=Cq (k:=k) (rs:=rs) (b:=b);have hp:=S7 k rs;refine yR (by omega) (by omega) (by omega) (by omega) hF fun m o' h hmn=>?_
 by_cases hmB:m<B
 ·by_cases hmm:m=mp
  ·subst hmm;rw[ix fun p hp=>(hAB p hp).2,ab]at h;cases h;refine⟨m,_,aL (by omega) (by omega) (by omega),by omega,by omega,hm,jY (Pw (bI kW) fun q x h1 h2=>bI (aL (by omega) (by omega) (by omega)))⟩
  have hx:lk A m=some o':=by
   have hr:lk ((mp,some (gp B (cJ k b rs)))::eC enc e B (cJ k b rs) 0) m=none:=by rw[aa (fun e=>hmm e.symm),dK,if_neg (by omega)]
   rcases wX A h hr with h|h
   ·exact h
   exact h.elim
  obtain⟨a1,a2,a3,a4⟩:=hA m o' hx;exact⟨m,o',aL (by omega) (by omega) (by omega),by omega,by omega,a3,a4⟩
 rw[ix fun p hp=>by have:=(hAB p hp).1;omega,aa (by omega),dK,if_pos (by omega),FE]at h;by_cases hj:m-(B+0)=gW k rs
 ·rw[if_pos hj]at h;cases h;refine⟨s,_,by rw[kW];congr 1;omega,hsn,by omega,hsr,aq ah (bc (br hb _))⟩
 rw[if_neg hj]at h;have hlt:m-(B+0)<rs.length:=by
  rcases aaa (m-(B+0)) rs.length with q|q
  ·exact q
  rw[aae q]at h;cases h
 have:=hrows (m-(B+0)) hlt hj;rw[h,show B+(m-(B+0))=m by omega]at this;refine⟨m,o',aL (by omega) (by omega) (by omega),by omega,by omega,this,?_⟩;obtain⟨x,_,hx⟩:=Option.map_eq_some_iff.1 h;rw[<-hx];exact aq ah (bc (br hb _))
end
structure ol(n:Nat) where
 js:List Nat
 nd:js.Nodup
 lt:∀j∈js,j<n
theorem jZ:∀{n:Nat} {l:List Nat},l.Nodup->(∀j∈l,j<n)->l.length<=n
 |0,[],_,_=>Nat.le_refl _
 |0,a::l,_,h=>absurd (h a aaf) (aaN _)
 |n+1,l,h,hl=>by
  by_cases hn:n∈l
  ·have h1:=jZ (n:=n) (l:=l.erase n) (h.erase n) fun j hj=>by
    have hjl:=List.mem_of_mem_erase hj;have h2:=hl j hjl;have:j≠n:=fun e=>by subst e;exact(List.Nodup.not_mem_erase h) hj
    omega
   rw[List.length_erase_of_mem hn]at h1;omega
  have:=jZ (n:=n) (l:=l) h fun j hj=>by
   have h2:=hl j hj;have:j≠n:=fun e=>by subst e;exact hn hj
   omega
  omega
def G2(n:Nat):ol n:=⟨[],aa2,fun _ h=>by cases h⟩
def mi{n:Nat}(y:ol n)(j:Nat)(h:j<n)(hj:j∉y.js):ol n:=⟨y.js++[j],List.nodup_append.2 ⟨y.nd,List.nodup_cons.2 ⟨by simp,aa2⟩,fun a ha b hb=>by
 simp only[ZU,ZS,or_false]at hb;subst hb;exact fun e=>hj (by rw[<-e];exact ha)⟩,fun i hi=>by
 rcases List.mem_append.1 hi with q|q
 ·exact y.lt i q
 simp only[ZU,ZS,or_false]at q;subst q;exact h⟩
theorem wf{n:Nat}(y:ol n){j:Nat}(h:j<n)(hj:j∉y.js):n-(mi y j h hj).js.length<n-y.js.length:=by
 have:=jZ (mi y j h hj).nd (mi y j h hj).lt;have e:(mi y j h hj).js.length=y.js.length+1:=by show(y.js++[j]).length=_;simp
 omega
section
variable {γ:Type} {f:Nat->γ->Value}
theorem tE:∀{rs:List (Int×γ)} {i:Nat} {e:MapEntry},e∈bn f rs i->∃j x,rs[j]?=some x/\e=⟨kV x.1,f (i+j) x.2,i+j⟩
 |[],_,_,h=>by cases h
 |x::l,i,e,h=>by
  unfold bn at h;rcases List.mem_cons.1 h with rfl|h
  ·exact⟨0,x,rfl,rfl⟩
  obtain⟨j,y,h1,h2⟩:=tE h;exact⟨j+1,y,h1,by rw[h2,show i+1+j=i+(j+1) by omega]⟩
theorem na:∀{rs:List (Int×γ)} {i j:Nat} {x:Int×γ},rs[j]?=some x->(bn f rs i).find? (fun e=>Nat.beq e.born (i+j))=some ⟨kV x.1,f (i+j) x.2,i+j⟩
 |[],_,_,_,h=>by simp at h
 |a::l,i,0,x,h=>by
  cases h;unfold bn;rw[List.find?_cons_of_pos (by exact ZY i)];rfl
 |a::l,i,j+1,x,h=>by
  unfold bn;rw[List.find?_cons_of_neg (by
   show ¬Nat.beq i (i+(j+1))=true;intro e;have:=ZT e;omega),show i+(j+1)=i+1+j by omega]
  exact na (by exact h)
section
variable {P:Program} {k N:Nat} {all:Array Oper} {o:Oper} {l:List Oper} {s:XS} {Q:XQ}
theorem Dm{x:Operand}{r mp:Nat}{rs:List (Int×γ)}(y:ol rs.length)(hg:o.guard=none)(hop:o.op=.next x false)(hx:ev s.fr x=some (.pointer (some ⟨r,0,none⟩)))(hr:s.W.get r=some (.iter mp rs.length y.js rs.length))(hm:s.W.get mp=some (.map (bn f rs 0) rs.length))
 (h0:(∀j,j<rs.length->j∈y.js)->∃fr',d8 N s.fr o.dst (some (.tuple #[.bool false]))=some fr'/\ma P N k all l ⟨fr',s.W,s.ds⟩ Q)
 (h1:∀j kk b (hj:j<rs.length) (hn:j∉y.js),rs[j]?=some (kk,b)->∃fr',d8 N s.fr o.dst (some (.tuple #[.bool true,kV kk,f j b]))=some fr'/\ma P N k all l ⟨fr',s.W.put r (some (.iter mp rs.length (mi y j hj hn).js rs.length)),s.ds⟩ Q):ma P N k all (o::l) s Q:=by
 refine zM hg hop hx hr hm ?_ (fun e he=>?_) (fun hz=>h0 fun j hj=>?_) (fun e he=>?_)
 ·cases rs with
  |nil=>
   show(_&&_&&_)=false;unfold bn;simp
  |cons a l=>
   have:((bn f (a::l) 0).all fun e=>Nat.ble (a::l).length e.born)=false:=by unfold bn;show(Nat.ble (a::l).length 0&&_)=false;rfl
   rw[this,Bool.and_false]
 ·obtain⟨j,x,h2,rfl⟩:=tE (List.mem_filter.1 he).1;have:=(List.getElem?_eq_some_iff.1 h2).1;show 0+j<rs.length;omega
 ·by_cases hjs:j∈y.js
  ·exact hjs
  exfalso;have hmem:(⟨kV rs[j].1,f (0+j) rs[j].2,0+j⟩:MapEntry)∈bn f rs 0:=List.mem_of_find?_eq_some (na (i:=0) (ZP hj));have:(⟨kV rs[j].1,f (0+j) rs[j].2,0+j⟩:MapEntry)∈(bn f rs 0).filter (ib y.js):=List.mem_filter.2 ⟨hmem,by
   show(!(y.js.any fun n=>Nat.beq n (0+j)))=true;rw[Nat.zero_add,aaE,aa8];intro n hn2 hb;exact hjs (by rw[<-ZT hb];exact hn2)⟩
  rw[hz]at this;cases this
 obtain⟨hmem,hnot⟩:=List.mem_filter.1 he;obtain⟨j,x,h2,rfl⟩:=tE hmem;have hj:=(List.getElem?_eq_some_iff.1 h2).1;have hjn:j∉y.js:=fun hjs=>by
  have hnot:(!(y.js.any fun n=>Nat.beq n (0+j)))=true:=hnot;rw[Nat.zero_add,aaE,aa8]at hnot;exact hnot j hjs (ZY j)
 obtain⟨kk,b⟩:=x;simp only[Nat.zero_add];exact h1 j kk b hj hjn h2
end
end
section
variable {P:Program} {β:Type} {enc:β->List Value} {e:TypeId} {B:Nat}
def pY(enc:β->List Value)(B t:Nat)(i:Nat)(l:List β):Value:=if i<t then al enc (some l)else gq B i l
theorem kB{kk:Nat}{F:List (Nat×Option Value)}{A:List (Nat×Option bb)}{n nl mp:Nat}{lg:List Nat}{rs:List (Int×List β)}{w:Nat}(hl:∀x,(enc x).length=w)(hmp:mp<B)(hn:n<16383)(hBn:B+rs.length<=n)(hcap:∀x∈rs,x.2.length<=aM)(hAB:∀p∈A,p.1<n/\p.1≠mp):∀(d t:Nat) (L:List (Nat×Option bb)),t+d=rs.length ->
 lk L mp=some (.map (bn (pY enc B t) rs 0) rs.length)->(∀j,t<=j->j<rs.length->lk L (B+j)=(rs[j]?).map fun x=>kS enc e x.2)->(∀m o,lk A m=some o->(m<B\/B+rs.length<=m)/\lk L m=some o) ->
 db P kk ⟨aI F,wd L n lg nl,[]⟩ ⟨aI F,wd (A++[(mp,some (.map (bn (fun _ l=>al enc (some l)) rs 0) rs.length))]) n lg nl,[]⟩
 |0,t,L,ht,hm,hr,hA=>by
  have key:∀(l:List (Int×List β)) (j:Nat),j+l.length<=t->bn (pY enc B t) l j=bn (fun _ l=>al enc (some l)) l j:=by
   intro l
   induction l with
   |nil=>intro j _;rfl
   |cons a l ih=>
    intro j hj;rw[List.length_cons]at hj;unfold bn;rw[ih (j+1) (by omega)];unfold pY;rw[if_pos (by omega)]
  rw[key rs 0 (by omega)]at hm;refine j7 (fun t v h=>h) (fun m o h=>?_) (Nat.le_refl _) rfl;obtain⟨g1,g2⟩:=dV h;show(wd L n lg nl).get m=some o;rw[bO g1 (by omega)];by_cases hmm:m=mp
  ·subst hmm;rw[ix fun p hp=>(hAB p hp).2,ab]at g2;rw[hm];exact g2
  rcases wX A g2 (by rw[aa (fun q=>hmm q.symm),ag])with q|q
  ·exact(hA m o q).2
  exact q.elim
 |d+1,t,L,ht,hm,hr,hA=>by
  have htl:t<rs.length:=by omega
  have hrow:=hr t (Nat.le_refl _) htl;rw[ZP htl]at hrow;have hrow:lk L (B+t)=some (.cells (rs[t].2.flatMap enc) e (0,0)):=hrow;obtain⟨c,hc⟩:∃c,c=rs[t].2.flatMap enc:=⟨_,rfl⟩;rw[<-hc]at hrow;have hcl:c.length=rs[t].2.length*w:=by
   rw[hc];clear hc hrow
   induction rs[t].2 with
   |nil=>exact(aab w).symm
   |cons a l ih=>rw[Z8,ZM,hl,ih,List.length_cons,aaO,aau]
  refine db.trans (s2:=⟨aI F,wd ((B+t,none)::(mp,some (.map (bn (pY enc B (t+1)) rs 0) rs.length))::L) n lg nl,[]⟩) ?_ (kB hl hmp hn hBn hcap hAB d (t+1) _ (by omega) ?_ ?_ ?_)
  ·have key:∀m' o',lk ((B+t,none)::(mp,some (bb.map (bn (pY enc B (t+1)) rs 0) rs.length))::L) m'=some o'->∃o,lk L m'=some o/\TO P (fl (B+t) c) o o':=fun m' o' h=>by
    by_cases e1:B+t=m'
    ·subst e1;rw[ab]at h;cases h
    rw[aa e1]at h;by_cases e2:mp=m'
    ·subst e2;rw[ab]at h;cases h;refine⟨_,hm,jY ?_⟩;have key2:∀(l:List (Int×List β)) (j:Nat),(∀q,q<l.length->rs[j+q]?=l[q]?)->kZ (fl (B+t) c) (bn (pY enc B t) l j) (bn (pY enc B (t+1)) l j):=by
      intro l
      induction l with
      |nil=>intro j _;exact .nil
      |cons a l ih=>
       intro j hj;refine .cons _ _ _ _ bP ?_ rfl (ih (j+1) fun q hq=>by
        have:=hj (q+1) (by rw[List.length_cons];omega);rw[show j+1+q=j+(q+1) by omega,this];rfl)
       show TV _ (pY enc B t j a.2) (pY enc B (t+1) j a.2);unfold pY;by_cases h1:j<t
       ·rw[if_pos h1,if_pos (by omega)];exact bP
       rw[if_neg h1];by_cases h2:j=t
       ·subst h2;rw[if_pos (by omega)];have ha:=hj 0 (by rw[List.length_cons];omega);rw[Nat.add_zero,ZP htl]at ha;have ha:rs[j]=a:=Option.some.inj ha;rw[ha]at hc hcl;have:=gz (n:=B+j) (o:=0) (len:=a.2.length) (cap:=aM) (q:=c.length) (c:=c) (hcap a (by rw[<-ha];exact aay htl)) (fun h=>by rw[hcl,h,aab]);rw[List.drop_zero,List.take_length,hc]at this;rw[hc];exact this
       rw[if_neg (by omega)];exact bP
     exact key2 rs 0 fun q _=>by rw[Nat.zero_add]
    rw[aa e2]at h;exact⟨o',h,eb⟩
   refine mS (B+t) (c:=c) (e:=e) (fr:=(0,0)) (by show(wd L n lg nl).get (B+t)=_;rw[bO (by omega) (by omega)];exact hrow) ?_ (Nat.le_refl _) (fun t v' h=>⟨v',h,bP⟩) (fun m' o' h=>?_) .nil
   ·show(wd ((B+t,none)::_) n lg nl).get (B+t)=none;rw[bO (by omega) (by omega),ab]
   obtain⟨h1,h2⟩:=dV h;obtain⟨o,h3,h4⟩:=key m' o' h2;exact⟨o,by show(wd L n lg nl).get m'=some o;rw[bO h1 (by omega)];exact h3,h4⟩
  ·rw[aa (by omega),ab]
  ·intro j h1 h2;rw[aa (by omega),aa (by omega)];exact hr j (by omega) h2
  intro m o h;obtain⟨a1,a2⟩:=hA m o h;refine⟨a1,?_⟩;rw[aa (by omega),aa (fun q=>?_)]
  ·exact a2
  subst q;have:lk A mp=none:=by
   have:=ix (R:=([]:List (Nat×Option bb))) (A:=A) (m:=mp) fun p hp=>(hAB p hp).2
   rw[List.append_nil]at this;rw[this,ag]
  rw[this]at h;cases h
end
def gE(met:List (Int×List Int)):bb:=.map (bn (fun _ l=>al au (some l)) met 0) met.length
theorem iA{P:Program}(met:List (Int×List Int)):fY P (gE met):=fun T hT=>jY (kZ.bare hT (m4 (fun _ b=>aB ba _) met 0))
abbrev iX:=List (Int×Unit)
def l5(S:iX):bb:=.map (bn (fun _ _=>.bool true) S 0) S.length
def jp(J:List (Int×List Int))(a:Int):List Int:=ao (bz a J)
inductive Fh(J:List (Int×List Int)):Int->Int->Prop
 |z {a:Int}:Fh J a a
 |s {a b c:Int}:b∈jp J a->Fh J b c->Fh J a c
theorem iF{P:Program}{k:Nat}{fr:XF}{W:XW}{L:List (Nat×Option bb)}{n' nl:Nat}{lg:List Nat}{ds:List dz}(hn:W.next<=n')(h:∀m o,lk L m=some o->W.get m=some o):db P k ⟨fr,W,ds⟩ ⟨fr,wd L n' lg nl,ds⟩:=
 j7 (fun t v e=>e) (fun m o e=>h m o (dV e).2) hn rfl
structure Du(J:List (Int×List Int))(S:iX)(i:Int)(S':iX):Prop where
 nd:(S'.map (·.1)).Nodup
 mono:∀a,bz a S≠none->bz a S'≠none
 this:bz i S'≠none
 path:∀a,bz a S'≠none->bz a S=none->Fh J i a
 clos:∀a,bz a S'≠none->bz a S=none->∀b∈jp J a,bz b S'≠none
structure yJ(J:List (Int×List Int))(S:iX)(i:Int)(k:Nat)(S':iX):Prop where
 nd:(S'.map (·.1)).Nodup
 mono:∀a,bz a S≠none->bz a S'≠none
 this:bz i S'≠none
 path:∀a,bz a S'≠none->bz a S=none->Fh J i a
 clos:∀a,bz a S'≠none->bz a S=none->a≠i->∀b∈jp J a,bz b S'≠none
 done:∀b∈(jp J i).take k,bz b S'≠none
theorem zH{γ:Type}{k:Int}{b:γ}{l:List (Int×γ)}(h:bz k l=none)(hn:(l.map (·.1)).Nodup):((cJ k b l).map (·.1)).Nodup:=by
 rw[lQ h,aaI];refine List.nodup_append.2 ⟨hn,by simp,fun a ha c hc=>?_⟩;simp only[aaG,List.map_nil,ZU,ZS,or_false]at hc;subst hc;intro e;subst e;have key:∀l:List (Int×γ),a∈l.map (·.1)->bz a l≠none:=by
  intro l
  induction l with
  |nil=>intro h;cases h
  |cons x l ih=>
   intro h;unfold bz;split
   ·simp
   rename_i hx;rcases List.mem_cons.1 h with h|h
   ·exact absurd h hx
   exact ih h
 exact key l ha h
theorem T6{J:List (Int×List Int)}{S:iX}{i:Int}(h:bz i S=none)(hn:(S.map (·.1)).Nodup):yJ J S i 0 (cJ i () S) where
 nd:=zH h hn
 mono:=fun a ha=>by rw[lu];split<;>simp_all
 this:=by rw[lu,if_pos rfl];simp
 path:=fun a ha hs=>by
  rw[lu]at ha;split at ha
  ·rename_i e;subst e;exact .z
  exact absurd hs ha
 clos:=fun a ha hs hi=>by
  rw[lu,if_neg hi]at ha;exact absurd hs ha
 done:=fun b hb=>by simp at hb
theorem Re{J:List (Int×List Int)}{S S1 S2:iX}{i b:Int}{k:Nat}(h:yJ J S i k S1)(hk:(jp J i)[k]?=some b)(h2:Du J S1 b S2):yJ J S i (k+1) S2 where
 nd:=h2.nd
 mono:=fun a ha=>h2.mono a (h.mono a ha)
 this:=h2.mono _ h.this
 path:=fun a ha hs=>by
  by_cases h1:bz a S1=none
  ·exact .s (aaC hk) (h2.path a ha h1)
  exact h.path a h1 hs
 clos:=fun a ha hs hi c hc=>by
  by_cases h1:bz a S1=none
  ·exact h2.clos a ha h1 c hc
  exact h2.mono c (h.clos a h1 hs hi c hc)
 done:=fun c hc=>by
  rw[List.take_add_one,hk]at hc;rcases List.mem_append.1 hc with q|q
  ·exact h2.mono c (h.done c q)
  simp only[Option.toList_some,ZU,ZS,or_false]at q;subst q;exact h2.this
theorem MU{J:List (Int×List Int)}{S S1:iX}{i:Int}{k:Nat}(h:yJ J S i k S1)(hk:(jp J i).length<=k):Du J S i S1 where
 nd:=h.nd
 mono:=h.mono
 this:=h.this
 path:=h.path
 clos:=fun a ha hs c hc=>by
  by_cases hi:a=i
  ·subst hi;exact h.done c (by rw[List.take_of_length_le hk];exact hc)
  exact h.clos a ha hs hi c hc
theorem Ov{J:List (Int×List Int)}{S:iX}{i:Int}(h:bz i S≠none)(hn:(S.map (·.1)).Nodup):Du J S i S where
 nd:=hn
 mono:=fun a ha=>ha
 this:=h
 path:=fun a ha hs=>absurd hs ha
 clos:=fun a ha hs=>absurd hs ha
def left(U:List Int)(S:iX):Nat:=(U.filter fun a=>(bz a S).isNone).length
theorem KO{U:List Int}{S S':iX}(h:∀a,bz a S≠none->bz a S'≠none):left U S'<=left U S:=by
 unfold left
 induction U with
 |nil=>exact Nat.le_refl _
 |cons a U ih=>
  rw[aaV,aaV];cases h1:bz a S with
  |none=>simp only[Option.isNone_none,if_true];split<;>simp only[List.length_cons]<;>omega
  |some _=>
   have:=h a (by rw[h1];simp);cases h2:bz a S' with
   |none=>exact absurd h2 this
   |some _=>simpa using ih
theorem Pj{U:List Int}{S S':iX}{i:Int}(hi:i∈U)(h0:bz i S=none)(h1:bz i S'≠none)(h:∀a,bz a S≠none->bz a S'≠none):left U S'<left U S:=by
 induction U with
 |nil=>cases hi
 |cons a U ih=>
  have hm:=KO (U:=U) h;unfold left at *;rw[aaV,aaV];by_cases e:a=i
  ·subst e;rw[h0];cases h2:bz a S' with
   |none=>exact absurd h2 h1
   |some _=>simp only[Option.isNone_none,if_true,Option.isNone_some,List.length_cons];simp;omega
  have hlt:=ih (by rcases List.mem_cons.1 hi with q|q;exact absurd q.symm e;exact q);cases h3:bz a S with
  |none=>simp only[Option.isNone_none,if_true];split<;>simp only[List.length_cons]<;>omega
  |some _=>
   have:=h a (by rw[h3];simp);cases h2:bz a S' with
   |none=>exact absurd h2 this
   |some _=>simpa using hlt
def me:bb:=.cells [.map (some 5)] 182 (0,0)
def pS:bb:=.cells [.map (some 4)] 181 (0,0)
def Xn:Value:=.func (.func 99) #[] #[.pointer (some ⟨6,0,none⟩),.pointer (some ⟨3,0,none⟩),.pointer (some ⟨7,0,none⟩)]
def ut:bb:=.cells [Xn] 183 (0,0)
def G0(o0 o1 o2:bb)(J:List (Int×List Int))(S:iX)(i:Int):cz->XW->Prop:=fun e W'=>∃S',e=.ret (.tuple #[])/\W'.get 0=some o0/\W'.get 1=some o1/\W'.get 2=some o2/\W'.get 3=some pS/\W'.get 4=some (gE J)/\W'.get 5=some (l5 S')/\W'.get 6=some me/\W'.get 7=some ut/\W'.next<=8/\Du J S i S'
structure Xw(J:List (Int×List Int))(S:iX)(i:Int) where
 k:Nat
 S':iX
 h:k<=(jp J i).length
 m:yJ J S i k S'
set_option maxHeartbeats 2000000 in
theorem xW(o0 o1 o2:bb)(J:List (Int×List Int))(U:List Int)(hU:∀a∈U,∀b∈jp J a,b∈U)(hJ:∀a,(jp J a).length<=8192):∀(c:Nat) (S:iX) (i:Int),i∈U->(S.map (·.1)).Nodup->left U S<=c ->
 aN Tryz.prog 99 [.int .i64 i,.pointer (some ⟨6,0,none⟩),.pointer (some ⟨3,0,none⟩),.pointer (some ⟨7,0,none⟩)] (wd [(0,some o0),(1,some o1),(2,some o2),(3,some pS),(4,some (gE J)),(5,some (l5 S)),(6,some me),(7,some ut)] 8 [] 0) (G0 o0 o1 o2 J S i)
 |c,S,i,hi,hn,hc=>by
  have ih:∀(S2:iX) (b:Int),b∈U->(S2.map (·.1)).Nodup->left U S2<left U S->aN Tryz.prog 99 [.int .i64 b,.pointer (some ⟨6,0,none⟩),.pointer (some ⟨3,0,none⟩),.pointer (some ⟨7,0,none⟩)] (wd [(0,some o0),(1,some o1),(2,some o2),(3,some pS),(4,some (gE J)),(5,some (l5 S2)),(6,some me),(7,some ut)] 8 [] 0) (G0 o0 o1 o2 J S2 b):=fun S2 b hb hn2 hlt=>by
   cases c with
   |zero=>omega
   |succ c=>exact xW o0 o1 o2 J U hU hJ c S2 b hb hn2 (by omega)
  refine be av Tryz.func99 rfl (Nat.le_of_ble_eq_true rfl) ?_;simp only[aY.eq_1,aY.eq_2,bf,Tryz.ntmps99,reduceAdd];have hz0:jJ Tryz.prog 3 (.int .i64 i) false (some (bn (fun _ (_:Unit)=>Value.bool true) S 0,S.length)) (some (.bool false))=some (.val (some (.bool (bz i S).isSome))):=by have:=qY (P:=Tryz.prog) (T:=3) Tryz.underlying3 (f:=fun(_:Unit)=>Value.bool true) i S (c:=S.length) (z:=.bool false) (ok:=false);rw[this];cases bz i S<;>rfl
  have hz2:jJ Tryz.prog 3 (.int .i64 i) false (some (bn (fun _ l=>al au (some l)) J 0,J.length)) (some (.slice none 0 0))=some (.val (some (al au (bz i J)))):=by have:=qY (P:=Tryz.prog) (T:=3) Tryz.underlying3 (f:=fun l=>al au (some l)) i J (c:=J.length) (z:=.slice none 0 0) (ok:=false);rw[this];cases bz i J<;>rfl
  have hup:∀W,jh Tryz.prog W 5 3 (.int .i64 i) (.bool true) (some (.map (bn (fun _ (_:Unit)=>Value.bool true) S 0) S.length))=some (.mod undef (W.put 5 (some (.map (bn (fun _ (_:Unit)=>Value.bool true) (cJ i () S) 0) (cJ i () S).length)))):=fun W=>F7 Tryz.underlying3 (f:=fun(_:Unit)=>Value.bool true) ()
  cases hg:bz i S with
  |some u=>
   rw[hg]at hz0;refine ae (ac (e:=?e1) (s':=?s1) av ?h1 ?q1)
   case h1=>simp(disch:=decide) only[me,l5,hz0,Option.isSome_some,go_sem];all_goals rfl
   refine aO ?h2 ?q2
   case h2=>simp(disch:=decide) only[go_sem];all_goals rfl
   refine aH ?_;refine⟨_,?e3,?W3,rfl,?h3,?q3⟩
   case h3=>simp(disch:=decide) only[Tryz.results99,go_sem];all_goals rfl
   refine⟨S,rfl,?_,?_,?_,?_,?_,?_,?_,?_,?_,Ov (by rw[hg];simp) hn⟩
   ·simp(disch:=decide) only[go_sem]
   ·simp(disch:=decide) only[go_sem]
   ·simp(disch:=decide) only[go_sem]
   ·simp(disch:=decide) only[go_sem]
   ·simp(disch:=decide) only[go_sem]
   ·simp(disch:=decide) only[l5,go_sem]
   ·simp(disch:=decide) only[me,go_sem]
   ·simp(disch:=decide) only[go_sem]
   exact Nat.le_refl _
  |none=>
   rw[hg]at hz0;refine ae (ac (e:=?e4) (s':=?s4) av ?h4 ?q4)
   case h4=>simp(disch:=decide) only[me,l5,hz0,Option.isSome_none,go_sem];all_goals rfl
   refine aZ ?h5 ?q5
   case h5=>simp(disch:=decide) only[go_sem];all_goals rfl
   refine ae (ac (e:=?e6) (s':=?s6) av ?h6 ?q6)
   case h6=>simp(disch:=decide) only[me,l5,hup,go_sem];all_goals rfl
   obtain⟨os,hos⟩:∃os,os=bz i J:=⟨_,rfl⟩;have hnb:jp J i=ao os:=by rw[hos];rfl
   have hk8:=hJ i;rw[hnb]at hk8;rw[<-hos]at hz2;have hoo:bk (al au os)=true:=bL _;refine ae (ac (e:=?e7) (s':=?s7) av ?h7 ?q7)
   case h7=>simp(disch:=decide) only[pS,gE,hz2,hoo,da,go_sem];all_goals rfl
   obtain⟨S1,hS1⟩:∃S1,S1=cJ i () S:=⟨_,rfl⟩;have hm0:yJ J S i 0 S1:=by rw[hS1];exact T6 hg hn
   rw[<-hS1];refine aD ?_;refine aU (s':=⟨aI [(0,some (.int .i64 i)),(1,some (.pointer (some ⟨6,0,none⟩))),(2,some (.pointer (some ⟨3,0,none⟩))),(3,some (.pointer (some ⟨7,0,none⟩))),(15,some (al au os)),(16,some (.int .i64 ((ao os).length:Int))),(17,some (.int .i64 ((0:Nat):Int)))],wd [(0,some o0),(1,some o1),(2,some o2),(3,some pS),(4,some (gE J)),(5,some (l5 S1)),(6,some me),(7,some ut)] 8 [] 0,[]⟩) (ak (by simp(disch:=decide) [ai,ab,aa,ag]) (by simp(disch:=decide) [ai,ab,aa,ag,me,pS,l5,gE]) (by decide)) ?_;refine bw (α:=Xw J S i) (fun y=>⟨aI [(0,some (.int .i64 i)),(1,some (.pointer (some ⟨6,0,none⟩))),(2,some (.pointer (some ⟨3,0,none⟩))),(3,some (.pointer (some ⟨7,0,none⟩))),(15,some (al au os)),(16,some (.int .i64 ((ao os).length:Int))),(17,some (.int .i64 (y.k:Int)))],wd [(0,some o0),(1,some o1),(2,some o2),(3,some pS),(4,some (gE J)),(5,some (l5 y.S')),(6,some me),(7,some ut)] 8 [] 0,[]⟩) (fun y=>(jp J i).length-y.k) ?_ ⟨0,S1,Z3 _,hm0⟩;intro ⟨k,S2,hk,hm⟩;simp only;rw[hnb]at hk;by_cases hlt:k<(ao os).length
   ·obtain⟨b,hb⟩:∃b,b=(ao os)[k]:=⟨_,rfl⟩;have hbg:(jp J i)[k]?=some b:=by rw[hnb,hb];exact ZP hlt
    have hix:∀t,dB Tryz.prog (some (.slice 3)) (some (al au os)) (some (.int t ((k:Nat):Int)))=some (.val (some (FP [.int .i64 b]))):=fun t=>by rw[hb];exact kC hlt
    have hld:∀W a,fo Tryz.prog W 3 (FP [.int .i64 a])=some (.int .i64 a):=fun W a=>xF a
    refine ae (ac (e:=?e8) (s':=?s8) av ?h8 ?q8)
    case h8=>simp(disch:=decide) only[go_sem];all_goals rfl
    refine ae (aZ (by simp(disch:=first|decide|omega) only[go_sem]<;>with_reducible rfl) ?_);refine aH ?_;refine ae (aD ?_);refine ae (ac (e:=?e10) (s':=?s10) av ?h10 ?q10)
    case h10=>simp(disch:=decide) only[hix,hld,go_sem];all_goals rfl
    refine cI ?_;refine aP av 1 (s1:=?sa) ?ha1 (aP av 1 (s1:=?sb) ?hb1 (fT (f:=99) (args:=[.int .i64 b,.pointer (some ⟨6,0,none⟩),.pointer (some ⟨3,0,none⟩),.pointer (some ⟨7,0,none⟩)]) (S:=G0 o0 o1 o2 J S2 b) (enters_of (by kernel_rfl)) rfl ?hx ?hl ?q))
    case ha1=>simp(disch:=decide) only[ut,Xn,go_sem];all_goals rfl
    case hb1=>simp(disch:=decide) only[go_sem];all_goals rfl
    case hx=>simp(disch:=first|decide|omega) only[go_sem]
    case hl=>exact ih S2 b (hU i hi b (aaC hbg)) hm.nd (Pj hi hg hm.this hm.mono)
    intro e W' ⟨S3,he,g0,g1,g2,g3,g4,g6,g7,g8,g5,hp⟩;refine⟨_,_,he,dQ (by decide),?_⟩;refine ec (iF (L:=[(0,some o0),(1,some o1),(2,some o2),(3,some pS),(4,some (gE J)),(5,some (l5 S3)),(6,some me),(7,some ut)]) (n':=8) (lg:=[]) (nl:=0) g5 fun n o e=>?_) ?_
    ·have hcases:=bX e;simp only[ZU,ZS,or_false,Prod.mk.injEq,Option.some.injEq]at hcases;rcases hcases with⟨rfl,rfl⟩|⟨rfl,rfl⟩|⟨rfl,rfl⟩|⟨rfl,rfl⟩|⟨rfl,rfl⟩|⟨rfl,rfl⟩|⟨rfl,rfl⟩|⟨rfl,rfl⟩<;>assumption
    refine cY ?_;show bA _ _ _ _ _ _;refine ac av (by simp(disch:=first|decide|omega) only[go_sem]<;>with_reducible rfl) ?_;refine⟨⟨k+1,S3,by rw[hnb];omega,Re hm hbg hp⟩,by simp only;rw[hnb];omega,?_⟩;exact ak (by simp(disch:=decide) [ai,ab,aa,ag]) (ap (by decide) (by simp(disch:=first|decide|omega) only[ab,aa]) (ap (by decide) (by simp(disch:=first|decide|omega) only[ab,aa]) (ap (by decide) (by simp(disch:=first|decide|omega) only[ab,aa]) (ap (by decide) (by simp(disch:=first|decide|omega) only[ab,aa]) (ap (by decide) (by simp(disch:=first|decide|omega) only[ab,aa]) (ap (by decide) (by simp(disch:=first|decide|omega) only[ab,aa]) (ap (by decide) (by simp(disch:=first|decide|omega) only[ab,aa]) (ap (by decide) (by simp(disch:=first|decide|omega) only[ab,aa]) trivial)))))))) (by decide)
   refine ae (ac (e:=?e12) (s':=?s12) av ?h12 ?q12)
   case h12=>simp(disch:=decide) only[go_sem];all_goals rfl
   refine ae (aO (by simp(disch:=first|decide|omega) only[go_sem]<;>with_reducible rfl) ?_);refine bp ?_;refine⟨_,?e14,?W14,rfl,?h14,?q14⟩
   case h14=>simp(disch:=decide) only[Tryz.results99,go_sem];all_goals rfl
   refine⟨S2,rfl,?_,?_,?_,?_,?_,?_,?_,?_,?_,MU hm (by rw[hnb];omega)⟩
   ·simp(disch:=decide) only[go_sem]
   ·simp(disch:=decide) only[go_sem]
   ·simp(disch:=decide) only[go_sem]
   ·simp(disch:=decide) only[go_sem]
   ·simp(disch:=decide) only[go_sem]
   ·simp(disch:=decide) only[go_sem]
   ·simp(disch:=decide) only[go_sem]
   ·simp(disch:=decide) only[go_sem]
   exact Nat.le_refl _
theorem eK{P:Program}{all:Array Oper}{n:Nat}{rs:List dI}(h1:Region.lexB .any all=true)(h2:kA rs n=true)(h3:kj P all (dN all) rs rs 0=true):o7 P all n rs=true:=by
 unfold o7;rw[h1,h2,h3];simp
theorem cH{P:Program}{all:Array Oper}{ms:List Nat}{rs l:List dI}{r:dI}{i:Nat}(h:px P r i (eZ ms i rs 0) (la ms i rs 0) (kH all r.s.fr r.o)=true)(h2:kj P all ms rs l (i+1)=true):kj P all ms rs (r::l) i=true:=by
 unfold kj;rw[h,h2];rfl
theorem qc{P:Program}{all:Array Oper}{ms:List Nat}{rs l:List dI}{r:dI}{i:Nat}(u:List Nat)(hh:eZ ms i rs 0=u)(hw:kH all r.s.fr r.o=some true)(hu:(u.all fun n=>Nat.blt n r.s.W.next||Nat.ble r.s'.W.next n)=true)(hc:Cr r.o.op=true)
 (hx:ij (dq P r.s.fr (eM r.s.W u) r.o.type r.o.op)=true) (h2:kj P all ms rs l (i+1)=true):kj P all ms rs (r::l) i=true:=by
 refine cH ?_ h2;rw[hh,hw];unfold px;simp only;rw[hu,hc,hx];simp
theorem wB{W:XW}{n:Nat}:eM W [n]=W.put n none:=rfl
theorem u5{P:Program}{k:Nat}{F F':List (Nat×Option Value)}{W:XW}{ds:List dz}(hF:ai 511 F F'):db P k ⟨aI F,W,ds⟩ ⟨aI F',W,ds⟩:=
 j7 (fun t v h=>by
  obtain⟨h1,h2⟩:=hF.mem _ _ (bX (gS h));show(aI F).get t=some v;rw[iZ h1];exact h2) (fun m o h=>h) (Nat.le_refl _) rfl
theorem qS{c d:Nat}{m:List (Int×List Int)}(h:m.length<=c/\∀p∈m,p.2.length<=c)(hd:c<=d):m.length<=d/\∀p∈m,p.2.length<=d:=⟨Nat.le_trans h.1 hd,fun p hp=>Nat.le_trans (h.2 p hp) hd⟩
theorem u4{P:Program}{β:Type}{enc:β->List Value}{e:TypeId}{B kk:Nat}{F F':List (Nat×Option Value)}{A L:List (Nat×Option bb)}{n nl s d mp:Nat}{lg:List Nat}{rs:List (Int×List β)}(hb:∀x,dt (enc x))(hk:kk<=B)(hmp:mp<B)(hs:B+rs.length<=s)(hd:d<B)(hdk:kk<=d)(hdm:d≠mp)(hn:n<16383)(hBn:B+rs.length<=n)
 (hF:jO (cM (nO s d (B+rs.length))) F F')
 (hA:∀m o,lk A m=some o->m<B/\m≠mp/\∃x,nO s d (B+rs.length) x=some m/\x<n/\lk L x=some o/\TO P (cM (nO s d (B+rs.length))) o o) (hAB:∀p∈A,p.1<B/\p.1≠mp)
 (hm:lk L mp=some (gp B rs)) (hrows:∀j,j<rs.length->lk L (B+j)=(rs[j]?).map fun x=>kS enc e x.2) :
 db P kk ⟨aI F,wd L n lg nl,[]⟩ ⟨aI F',wd (A++((mp,some (gp B rs))::eC enc e B rs 0)) (rs.length+B) [] 0,[]⟩:=by
 refine yR hdk (by omega) (by omega) (by omega) hF fun m o' h hmn=>?_
 by_cases hmB:m<B
 ·by_cases hmm:m=mp
  ·subst hmm;rw[ix fun p hp=>(hAB p hp).2,ab]at h;cases h;exact⟨m,_,aL (by omega) (by omega) (by omega),by omega,by omega,hm,jY (rt fun q x h1 h2=>bI (aL (by omega) (by omega) (by omega)))⟩
  have hx:lk A m=some o':=by
   have hr:lk ((mp,some (gp B rs))::eC enc e B rs 0) m=none:=by rw[aa (fun e=>hmm e.symm),dK,if_neg (by omega)]
   rcases wX A h hr with h|h
   ·exact h
   exact h.elim
  obtain⟨a1,a2,x,a3,a4,a5,a6⟩:=hA m o' hx;exact⟨x,o',a3,a4,by omega,a5,a6⟩
 rw[ix fun p hp=>by have:=(hAB p hp).1;omega,aa (by omega),dK,if_pos (by omega)]at h;have hlt:m-(B+0)<rs.length:=by
  rcases aaa (m-(B+0)) rs.length with q|q
  ·exact q
  rw[aae q]at h;cases h
 have:=hrows (m-(B+0)) hlt;rw[h,show B+(m-(B+0))=m by omega]at this;refine⟨m,o',aL (by omega) (by omega) (by omega),by omega,by omega,this,?_⟩;obtain⟨x,_,hx⟩:=Option.map_eq_some_iff.1 h;rw[<-hx];exact aq ah (bc (br hb _))
abbrev iS:=List (Int×Int)
abbrev ef:=List (Int×List Int)
def RP(sg:Int)(sums:iS)(r:bC):iS:=cJ r.1 (IntKind.i64.wrap ((bz r.1 sums).getD 0+IntKind.i64.wrap (sg*r.2))) sums
def Eu(i:Int)(met:ef)(r:bC):ef:=gD r.1 i met
def su(i sg:Int)(p:iS×ef)(l:List bC):iS×ef:=l.foldl (fun p r=>(RP sg p.1 r,Eu i p.2 r)) p
def FA(by_:dD)(k:Int):Option (List bC):=(bz k by_).bind (·.sides)
def sk(by_:dD):Nat->iS×ef->List bC->iS×ef
 |_,p,[]=>p
 |i,p,s::l=>sk by_ (i+1) (su (i:Int) s.2 p (ao (FA by_ s.1))) l
def mX(c:Nat)(m:ef):Prop:=m.length<=c/\∀p∈m,p.2.length<=c
theorem iK{γ:Type}{k:Int}{b:γ}:∀{l:List (Int×γ)},bz k l=some b->(k,b)∈l
 |[],h=>by cases h
 |x::l,h=>by
  unfold bz at h;split at h
  ·rename_i e;cases h;rw[e];exact aaf
  exact aal _ (iK h)
theorem rj{γ:Type}{k:Int}{b:γ}{q:Int×γ}:∀{l:List (Int×γ)},q∈cJ k b l->q=(k,b)\/q∈l
 |[],h=>by
  rcases List.mem_cons.1 h with h|h
  ·exact .inl h
  cases h
 |x::l,h=>by
  unfold cJ at h;split at h
  ·rcases List.mem_cons.1 h with h|h
   ·exact .inl h
   exact .inr (aal _ h)
  rcases List.mem_cons.1 h with h|h
  ·exact .inr (by rw[h];exact aaf)
  rcases rj h with h|h
  ·exact .inl h
  exact .inr (aal _ h)
theorem zF{c:Nat}{m:ef}{i:Int}{r:bC}(h:mX c m):mX (c+1) (Eu i m r):=by
 obtain⟨h1,h2⟩:=h;refine⟨?_,fun p hp=>?_⟩
 ·unfold Eu gD;rw[iO];split<;>omega
 unfold Eu gD at hp;rcases rj hp with rfl|hp
 ·simp only[ZM,List.length_cons,List.length_nil];cases hg:bz r.1 m with
  |none=>simp
  |some l=>
   have:=h2 _ (iK hg);simp only[aaJ]at *;omega
 have:=h2 p hp;omega
def xw(j:ef)(l:List Int):ef:=match l with
 |[p,q]=>gD q p (gD p q j)
 |_=>j
def uU(met:ef)(js:List Nat):ef:=js.foldl (fun j t=>xw j ((met[t]?.map (·.2)).getD [])) []
def Oi(met:ef)(a b:Int):Prop:=∃m∈met,m.2=[a,b]\/m.2=[b,a]
inductive zr(met:ef):Int->Prop
 |z:zr met 0
 |s {a b:Int}:zr met a->Oi met a b->zr met b
open Classical in
noncomputable def AW(n:Nat)(met:ef):Int:=if ∃S:List Int,S.Nodup/\S.length=n/\∀a,a∈S↔zr met a then 0 else 25
open Classical in
noncomputable def u7(n:Nat)(met:ef):Int:=if ∃m∈met,m.2.length≠2 then 25 else AW n met
open Classical in
noncomputable def F3(n:Nat)(r:iS×ef):Int:=if ∃m∈r.1,m.2≠0 then 24 else u7 n r.2
noncomputable def fP(by_:dD)(x:aC):Int:=F3 (ao x.sides).length (sk by_ 0 ([],[]) (ao x.sides))
def sZ(s:iS):bb:=.map (bn (fun _=>kV) s 0) s.length
def SZ(sums:iS):={ y:ol sums.length // ∀j∈y.js,∀k b,sums[j]?=some (k,b)->b=0 }
theorem Gj{met:ef}{js:List Nat}{j:Nat}{k:Int}{l:List Int}(h:met[j]?=some (k,l)):uU met (js++[j])=xw (uU met js) l:=by
 unfold uU;rw[List.foldl_append];simp only[aaR,List.foldl_nil,h,ZW,aaJ]
theorem Fg{k x a b:Int}{J:ef}:b∈jp (gD k x J) a↔b∈jp J a\/(a=k/\b=x):=by
 unfold jp gD ao;rw[lu];by_cases h:a=k
 ·subst h;rw[if_pos rfl];cases bz a J with
  |none=>simp
  |some l=>simp
 rw[if_neg h];simp[h]
theorem IA{l:List Int}{a b:Int}{J:ef}:b∈jp (xw J l) a↔b∈jp J a\/(l=[a,b]\/l=[b,a]):=by
 unfold xw;split
 ·rename_i p q;rw[Fg,Fg];simp only[List.cons.injEq,and_true];constructor
  ·rintro ((h|⟨rfl,rfl⟩)|⟨rfl,rfl⟩)
   ·exact .inl h
   ·exact .inr (.inl ⟨rfl,rfl⟩)
   exact .inr (.inr ⟨rfl,rfl⟩)
  rintro (h|⟨rfl,rfl⟩|⟨rfl,rfl⟩)
  ·exact .inl (.inl h)
  ·exact .inl (.inr ⟨rfl,rfl⟩)
  exact .inr ⟨rfl,rfl⟩
 rename_i h;constructor
 ·exact .inl
 rintro (h1|rfl|rfl)
 ·exact h1
 ·exact absurd rfl (h _ _)
 exact absurd rfl (h _ _)
theorem Dc{met:ef}{a b:Int}:∀(js:List Nat) (J:ef),b∈jp (js.foldl (fun j t=>xw j ((met[t]?.map (·.2)).getD [])) J) a↔b∈jp J a\/∃t∈js,(met[t]?.map (·.2)).getD []=[a,b]\/(met[t]?.map (·.2)).getD []=[b,a]
 |[],J=>by simp
 |t::js,J=>by
  rw[aaR,Dc js,IA];constructor
  ·rintro ((h|h)|⟨u,h1,h2⟩)
   ·exact .inl h
   ·exact .inr ⟨t,aaf,h⟩
   exact .inr ⟨u,aal _ h1,h2⟩
  rintro (h|⟨u,h1,h2⟩)
  ·exact .inl (.inl h)
  rcases List.mem_cons.1 h1 with rfl|h1
  ·exact .inl (.inr h2)
  exact .inr ⟨u,h1,h2⟩
theorem OZ{met:ef}{js:List Nat}{a b:Int}(hall:∀j,j<met.length->j∈js):b∈jp (uU met js) a↔Oi met a b:=by
 unfold uU;rw[Dc];constructor
 ·rintro (h|⟨t,h1,h2⟩)
  ·cases h
  cases hm:met[t]? with
  |none=>rw[hm]at h2;simp at h2
  |some m=>
   rw[hm]at h2;exact⟨m,aaC hm,h2⟩
 rintro ⟨m,hm,h⟩;obtain⟨t,ht,he⟩:=List.getElem_of_mem hm;refine .inr ⟨t,hall t ht,?_⟩;rw[ZP ht,he];exact h
theorem C8{γ:Type}{a:Int}:∀{l:List (Int×γ)},bz a l≠none↔a∈l.map (·.1)
 |[]=>by unfold bz;simp
 |x::l=>by
  unfold bz;rw[aaG,ZU];split
  ·rename_i h;simp[h]
  rename_i h;rw[C8];simp[h]
theorem OE{met:ef}{J:ef}{S:iX}(hJ:∀a b,b∈jp J a↔Oi met a b)(h:Du J [] 0 S)(a:Int):a∈S.map (·.1)↔zr met a:=by
 rw[<-C8];have gn:∀b:Int,bz b ([]:iX)=none:=fun b=>rfl
 constructor
 ·intro ha;have key:∀{b c:Int},Fh J b c->zr met b->zr met c:=by
   intro b c hp
   induction hp with
   |z=>exact id
   |s h1 _ ih=>exact fun hb=>ih (.s hb ((hJ _ _).1 h1))
  exact key (h.path a ha (gn a)) .z
 intro hr
 induction hr with
 |z=>exact h.this
 |s h1 h2 ih=>exact h.clos _ ih (gn _) _ ((hJ _ _).2 h2)
theorem Ls{met:ef}{S:iX}{n:Nat}(hn:(S.map (·.1)).Nodup)(h:∀a,a∈S.map (·.1)↔zr met a):AW n met=if S.length=n then 0 else 25:=by
 unfold AW;by_cases hs:S.length=n
 ·rw[if_pos hs,if_pos ⟨S.map (·.1),hn,by rw[aaq];exact hs,h⟩]
 rw[if_neg hs,if_neg];rintro ⟨T,h1,h2,h3⟩;have hp:T.Perm (S.map (·.1)):=(List.perm_ext_iff_of_nodup h1 hn).2 fun a=>(h3 a).trans (h a).symm
 have:=hp.length_eq;rw[aaq]at this;omega
theorem E4{c:Nat}{m:ef}{i k:Int}(h:mX c m):mX (c+1) (gD k i m):=zF (i:=i) (r:=(k,0)) h
structure JO(met:ef) where
 y:ol met.length
 jn:ef
 two:∀j∈y.js,∀k l,met[j]?=some (k,l)->l.length=2
 eq:jn=uU met y.js
 le:mX (2*y.js.length) jn
theorem S6{l:List Int}(h:l.length=2):∃p q,l=[p,q]:=by
 rcases l with _|⟨p,_|⟨q,_|⟨r,l⟩⟩⟩
 ·cases h
 ·cases h
 ·exact⟨p,q,rfl⟩
 simp at h
structure CX(by_:dD)(x:aC):Prop where
 n:(ao x.sides).length<=64
 y:∀k,(ao (FA by_ k)).length<=64
structure Zn(by_:dD)(x:aC) where
 i:Nat
 sums:iS
 met:ef
 h:i<=(ao x.sides).length
 le:mX (64*i) met
 eq:sk by_ i (sums,met) ((ao x.sides).drop i)=sk by_ 0 ([],[]) (ao x.sides)
structure Zp(ys:List bC)(i:Nat)(sg:Int)(p0:iS×ef) where
 j:Nat
 sums:iS
 met:ef
 h:j<=ys.length
 le:mX (64*i+j) met
 eq:su (i:Int) sg (sums,met) (ys.drop j)=su (i:Int) sg p0 ys
theorem Qx(k:Int)(s:iS):((bz k s).map kV).getD (.int .i64 0)=.int .i64 ((bz k s).getD 0):=by cases bz k s<;>rfl
theorem gZ{P:Program}{θ:Nat->Option Nat}{by_:dD}(h:θ 1=some 1):TO P (cM θ) (cn 1 (cU by_)) (cn 1 (cU by_)):=bJ (ax (cq h) (ax (io (ge by_) _ _ ah) aX))
theorem eV{P:Program}{x:aC}:fY P (.cells [.int .i64 x.id,.int .i64 x.dim,al az x.sides] 58 (0,0)):=bc (aw (aG 1 rfl) (aw (aG 1 rfl) (aw (aB bB _) aQ)))
theorem j8{P:Program}(s:iS):fY P (.map (bn (fun _=>kV) s 0) s.length):=fun T hT=>jY (kZ.bare hT (m4 (fun _ b=>aG 1 rfl) s 0))
theorem lO{P:Program}{a b:Int}:fY P (.cells [.int .i64 a,.int .i64 b] 60 (0,0)):=bc (aw (aG 1 rfl) (aw (aG 1 rfl) aQ))
set_option maxHeartbeats 4000000 in
theorem DZ(by_:dD)(x:aC)(ha:CX by_ x):aN Tryz.prog 64 [.pointer (some ⟨0,0,none⟩),dZ x] (lw sS by_) fun e W'=>e=.ret (.int .i64 (fP by_ x))/\Cd sS by_ by_ W' .rd:=by
 have hos:bk (al az x.sides)=true:=bL _;have hoi:bk (cU by_)=true:=qQ _;show aN _ _ [.pointer (some ⟨0,0,none⟩),.agg #[.int .i64 x.id,.int .i64 x.dim,al az x.sides]] (wd [(0,some (cn 1 (cU by_))),(1,some (cu by_))] 2 [] 0) fun e W'=>e=.ret (.int .i64 (fP by_ x))/\W'.get 0=some (cn 1 (cU by_))/\∀o,some (cu by_)=some o->W'.get 1=some o
 obtain⟨n,hn⟩:∃n,n=(ao x.sides).length:=⟨_,rfl⟩;have hn64:=ha.n;rw[<-hn]at hn64;refine be av Tryz.func64 rfl (Nat.le_of_ble_eq_true rfl) ?_;simp only[aY.eq_1,aY.eq_2,bf,Tryz.ntmps64,reduceAdd];refine ae (ac av (by simp(disch:=first|decide|omega) only[hos,go_sem]<;>with_reducible rfl) ?_);refine ae (ac av (by simp(disch:=first|decide|omega) only[go_sem]<;>with_reducible rfl) ?_);refine ae ?_;refine ae (ac av (by simp(disch:=first|decide|omega) only[da,go_sem]<;>with_reducible rfl) ?_);rw[<-hn];refine aD ?_;refine aU (s':=⟨aI [(0,some (.pointer (some ⟨0,0,none⟩))),(3,some (.pointer (some ⟨2,0,none⟩))),(5,some (.map (some 3))),(6,some (.map (some 4))),(21,some (al az x.sides)),(22,some (.int .i64 (n:Int))),(23,some (.int .i64 ((0:Nat):Int)))],wd ([(0,some (cn 1 (cU by_))),(1,some (cu by_)),(2,some (.cells [.int .i64 x.id,.int .i64 x.dim,al az x.sides] 58 (0,0))),(3,some (.map (bn (fun _=>kV) ([]:iS) 0) ([]:iS).length))]++((4,some (gp 8 ([]:ef)))::eC au 3 8 ([]:ef) 0)) (([]:ef).length+8) [] 0,[]⟩) (ak (by simp(disch:=decide) [ai,ab,aa,ag]) (by simp(disch:=decide) [ai,ab,aa,ag,eC];exact⟨rfl,rfl⟩) (by decide)) ?_;refine bw (α:=Zn by_ x) (fun y=>⟨aI [(0,some (.pointer (some ⟨0,0,none⟩))),(3,some (.pointer (some ⟨2,0,none⟩))),(5,some (.map (some 3))),(6,some (.map (some 4))),(21,some (al az x.sides)),(22,some (.int .i64 (n:Int))),(23,some (.int .i64 (y.i:Int)))],wd ([(0,some (cn 1 (cU by_))),(1,some (cu by_)),(2,some (.cells [.int .i64 x.id,.int .i64 x.dim,al az x.sides] 58 (0,0))),(3,some (.map (bn (fun _=>kV) y.sums 0) y.sums.length))]++((4,some (gp 8 y.met))::eC au 3 8 y.met 0)) (y.met.length+8) [] 0,[]⟩) (fun y=>n-y.i) ?_ ⟨0,[],[],Z3 _,⟨Z3 _,fun p h=>(by cases h)⟩,rfl⟩;intro ⟨i,sums,met,hi,hle,heq⟩;simp only;by_cases hlt:i<n
 ·have hdr:(ao x.sides).drop i=(ao x.sides)[i]::(ao x.sides).drop (i+1):=aac (by omega);obtain⟨s,hs⟩:∃s,s=(ao x.sides)[i]:=⟨_,rfl⟩;have hix:∀j,dB Tryz.prog (some (.slice 60)) (some (al az x.sides)) (some (.int j ((i:Nat):Int)))=some (.val (some (FP [.int .i64 s.1,.int .i64 s.2]))):=fun j=>by rw[hs];exact pC (by omega)
  rw[hdr,<-hs]at heq;replace heq:sk by_ (i+1) (su (i:Int) s.2 (sums,met) (ao (FA by_ s.1))) ((ao x.sides).drop (i+1))=sk by_ 0 ([],[]) (ao x.sides):=heq;obtain⟨s1,sg⟩:=s;simp only at hix heq;have hmN:met.length<=64*i:=hle.1;refine ae (ac av (by simp(disch:=first|decide|omega) only[go_sem]<;>with_reducible rfl) ?_);refine ae (aZ (by simp(disch:=first|decide|omega) only[go_sem]<;>with_reducible rfl) ?_);refine aH ?_;refine ae (aD ?_);refine ae (ac av (by simp(disch:=first|decide|omega) only[hix,go_sem]<;>with_reducible rfl) ?_);have hz:jJ Tryz.prog 3 (.int .i64 s1) false (some (bn (fun _=>dZ) by_ 0,by_.length)) (some (.agg #[.int .i64 0,.int .i64 0,.slice none 0 0]))=some (.val (some (pr false (((bz s1 by_).map dZ).getD (.agg #[.int .i64 0,.int .i64 0,.slice none 0 0])) (bz s1 by_).isSome))):=qY Tryz.underlying3 s1 by_;have hy64:=ha.y s1;obtain⟨ys,hys⟩:∃ys,ys=FA by_ s1:=⟨_,rfl⟩;rw[<-hys]at heq hy64;have hoy:bk (al az ys)=true:=bL _;refine bl av ⟨aI [(0,some (.pointer (some ⟨0,0,none⟩))),(3,some (.pointer (some ⟨2,0,none⟩))),(5,some (.map (some 3))),(6,some (.map (some 4))),(21,some (al az x.sides)),(22,some (.int .i64 (n:Int))),(23,some (.int .i64 (i:Int))),(7,some (.int .i64 (i:Int))),(8,some (.pointer (some ⟨5,0,none⟩))),(35,some (al az ys)),(36,some (.int .i64 ((ao ys).length:Int))),(37,some (.int .i64 ((0:Nat):Int)))],wd ([(0,some (cn 1 (cU by_))),(1,some (cu by_)),(2,some (.cells [.int .i64 x.id,.int .i64 x.dim,al az x.sides] 58 (0,0))),(3,some (.map (bn (fun _=>kV) sums 0) sums.length)),(5,some (.cells [.int .i64 s1,.int .i64 sg] 60 (0,0)))]++((4,some (gp 8 met))::eC au 3 8 met 0)) (met.length+8) [] 0,[]⟩ ?hda ?qda
  case hda=>
   unfold FA at hys;cases hg:bz s1 by_ with
   |none=>
    rw[hg]at hys hz;have hys:ys=none:=hys;rw[hys];refine⟨?rsa,?sxa,?hxa,?kxa,?lxa⟩
    case hxa=>simp(disch:=first|decide|omega) only[aE.eq_1,aE.eq_2,cm.eq_1,bd.eq_1,bd.eq_2,cn,cu,hz,Z6,aaW,go_sem]<;>with_reducible rfl
    case kxa=>kernel_rfl
    exact u4 (B:=8) (s:=(met.length+8)) (d:=5) (mp:=4) ba (by decide) (by decide) (by omega) (by decide) (by decide) (by decide) (by omega) (by omega)
     (af (v:=.pointer (some ⟨0,0,none⟩)) (by decide) (by simp(disch:=first|decide|omega) only[ab,aa]) (ay (aL (by omega) (by omega) (by omega))) (af (v:=.pointer (some ⟨2,0,none⟩)) (by decide) (by simp(disch:=first|decide|omega) only[ab,aa]) (ay (aL (by omega) (by omega) (by omega))) (af (v:=.map (some 3)) (by decide) (by simp(disch:=first|decide|omega) only[ab,aa]) (cq (aL (by omega) (by omega) (by omega))) (af (v:=.map (some 4)) (by decide) (by simp(disch:=first|decide|omega) only[ab,aa]) (cq (aL (by omega) (by omega) (by omega))) (af (v:=al az x.sides) (by decide) (by simp(disch:=first|decide|omega) only[ab,aa]) (aB bB _ _ ah) (af (v:=.int .i64 (n:Int)) (by decide) (by simp(disch:=first|decide|omega) only[ab,aa]) (ar 1 rfl) (af (v:=.int .i64 (i:Int)) (by decide) (by simp(disch:=first|decide|omega) only[ab,aa]) (ar 1 rfl) (af (v:=.int .i64 (i:Int)) (by decide) (by simp(disch:=first|decide|omega) only[ab,aa]) (ar 1 rfl) (af (v:=.pointer (some ⟨met.length+8,0,none⟩)) (by decide) (by simp(disch:=first|decide|omega) only[ab,aa]) (ay kW) (af (v:=.slice none 0 0) (by decide) (by simp(disch:=first|decide|omega) only[ab,aa]) (ar 1 rfl) (af (v:=.int .i64 ((0:Nat):Int)) (by decide) (by simp(disch:=first|decide|omega) only[ab,aa]) (ar 1 rfl) (af (v:=.int .i64 ((0:Nat):Int)) (by decide) (by simp(disch:=first|decide|omega) only[ab,aa]) (ar 1 rfl) (aR)))))))))))))
     (fun m o h=>by
      have hm:=bX h;simp only[ZU,ZS,or_false,Prod.mk.injEq,Option.some.injEq]at hm;rcases hm with⟨rfl,rfl⟩|⟨rfl,rfl⟩|⟨rfl,rfl⟩|⟨rfl,rfl⟩|⟨rfl,rfl⟩
      ·exact⟨by decide,by decide,0,(aL (by omega) (by omega) (by omega)),by omega,by simp(disch:=first|decide|omega) only[ab,aa]<;>rfl,gZ (aL (by omega) (by omega) (by omega))⟩
      ·exact⟨by decide,by decide,1,(aL (by omega) (by omega) (by omega)),by omega,by simp(disch:=first|decide|omega) only[ab,aa]<;>rfl,aq ah (dj _)⟩
      ·exact⟨by decide,by decide,2,(aL (by omega) (by omega) (by omega)),by omega,by simp(disch:=first|decide|omega) only[ab,aa]<;>rfl,aq ah eV⟩
      ·exact⟨by decide,by decide,3,(aL (by omega) (by omega) (by omega)),by omega,by simp(disch:=first|decide|omega) only[ab,aa]<;>rfl,aq ah (j8 _)⟩
      exact⟨by decide,by decide,(met.length+8),kW,by omega,by simp(disch:=first|decide|omega) only[ab,aa]<;>rfl,aq ah lO⟩)
     (fun p hp=>by simp only[ZU,ZS,or_false]at hp;rcases hp with rfl|rfl|rfl|rfl|rfl<;>exact⟨by simp only;decide,by simp only;decide⟩) (by simp(disch:=first|decide|omega) only[ab,aa]<;>rfl) (fun j hj=>by simp(disch:=first|decide|omega) only[ab,aa];rw[dK,if_pos (by omega),show 8+j-(8+0)=j by omega])
   |some y=>
    rw[hg]at hys hz;have hys:ys=y.sides:=hys;rw[hys];refine⟨?rsb,?sxb,?hxb,?kxb,?lxb⟩
    case hxb=>simp(disch:=first|decide|omega) only[aE.eq_1,aE.eq_2,cm.eq_1,bd.eq_1,bd.eq_2,cn,cu,hz,ZW,aaJ,dZ,an,da,go_sem]<;>with_reducible rfl
    case kxb=>kernel_rfl
    exact u4 (B:=8) (s:=(met.length+8)) (d:=5) (mp:=4) ba (by decide) (by decide) (by omega) (by decide) (by decide) (by decide) (by omega) (by omega)
     (af (v:=.pointer (some ⟨0,0,none⟩)) (by decide) (by simp(disch:=first|decide|omega) only[ab,aa]) (ay (aL (by omega) (by omega) (by omega))) (af (v:=.pointer (some ⟨2,0,none⟩)) (by decide) (by simp(disch:=first|decide|omega) only[ab,aa]) (ay (aL (by omega) (by omega) (by omega))) (af (v:=.map (some 3)) (by decide) (by simp(disch:=first|decide|omega) only[ab,aa]) (cq (aL (by omega) (by omega) (by omega))) (af (v:=.map (some 4)) (by decide) (by simp(disch:=first|decide|omega) only[ab,aa]) (cq (aL (by omega) (by omega) (by omega))) (af (v:=al az x.sides) (by decide) (by simp(disch:=first|decide|omega) only[ab,aa]) (aB bB _ _ ah) (af (v:=.int .i64 (n:Int)) (by decide) (by simp(disch:=first|decide|omega) only[ab,aa]) (ar 1 rfl) (af (v:=.int .i64 (i:Int)) (by decide) (by simp(disch:=first|decide|omega) only[ab,aa]) (ar 1 rfl) (af (v:=.int .i64 (i:Int)) (by decide) (by simp(disch:=first|decide|omega) only[ab,aa]) (ar 1 rfl) (af (v:=.pointer (some ⟨met.length+8,0,none⟩)) (by decide) (by simp(disch:=first|decide|omega) only[ab,aa]) (ay kW) (af (v:=al az y.sides) (by decide) (by simp(disch:=first|decide|omega) only[ab,aa]) (aB bB _ _ ah) (af (v:=.int .i64 ((ao y.sides).length:Int)) (by decide) (by simp(disch:=first|decide|omega) only[ab,aa]) (ar 1 rfl) (af (v:=.int .i64 ((0:Nat):Int)) (by decide) (by simp(disch:=first|decide|omega) only[ab,aa]) (ar 1 rfl) (aR)))))))))))))
     (fun m o h=>by
      have hm:=bX h;simp only[ZU,ZS,or_false,Prod.mk.injEq,Option.some.injEq]at hm;rcases hm with⟨rfl,rfl⟩|⟨rfl,rfl⟩|⟨rfl,rfl⟩|⟨rfl,rfl⟩|⟨rfl,rfl⟩
      ·exact⟨by decide,by decide,0,(aL (by omega) (by omega) (by omega)),by omega,by simp(disch:=first|decide|omega) only[ab,aa]<;>rfl,gZ (aL (by omega) (by omega) (by omega))⟩
      ·exact⟨by decide,by decide,1,(aL (by omega) (by omega) (by omega)),by omega,by simp(disch:=first|decide|omega) only[ab,aa]<;>rfl,aq ah (dj _)⟩
      ·exact⟨by decide,by decide,2,(aL (by omega) (by omega) (by omega)),by omega,by simp(disch:=first|decide|omega) only[ab,aa]<;>rfl,aq ah eV⟩
      ·exact⟨by decide,by decide,3,(aL (by omega) (by omega) (by omega)),by omega,by simp(disch:=first|decide|omega) only[ab,aa]<;>rfl,aq ah (j8 _)⟩
      exact⟨by decide,by decide,(met.length+8),kW,by omega,by simp(disch:=first|decide|omega) only[ab,aa]<;>rfl,aq ah lO⟩)
     (fun p hp=>by simp only[ZU,ZS,or_false]at hp;rcases hp with rfl|rfl|rfl|rfl|rfl<;>exact⟨by simp only;decide,by simp only;decide⟩) (by simp(disch:=first|decide|omega) only[ab,aa]<;>rfl) (fun j hj=>by simp(disch:=first|decide|omega) only[ab,aa];rw[dK,if_pos (by omega),show 8+j-(8+0)=j by omega])
  obtain⟨p0,hp0⟩:∃p0,p0=(sums,met):=⟨_,rfl⟩;have hj0:su (i:Int) sg (sums,met) ((ao ys).drop 0)=su (i:Int) sg p0 (ao ys):=by rw[hp0];rfl
  rw[<-hp0]at heq;refine aD ?_;refine bw (α:=Zp (ao ys) i sg p0) (fun y=>⟨aI [(0,some (.pointer (some ⟨0,0,none⟩))),(3,some (.pointer (some ⟨2,0,none⟩))),(5,some (.map (some 3))),(6,some (.map (some 4))),(21,some (al az x.sides)),(22,some (.int .i64 (n:Int))),(23,some (.int .i64 (i:Int))),(7,some (.int .i64 (i:Int))),(8,some (.pointer (some ⟨5,0,none⟩))),(35,some (al az ys)),(36,some (.int .i64 ((ao ys).length:Int))),(37,some (.int .i64 (y.j:Int)))],wd ([(0,some (cn 1 (cU by_))),(1,some (cu by_)),(2,some (.cells [.int .i64 x.id,.int .i64 x.dim,al az x.sides] 58 (0,0))),(3,some (.map (bn (fun _=>kV) y.sums 0) y.sums.length)),(5,some (.cells [.int .i64 s1,.int .i64 sg] 60 (0,0)))]++((4,some (gp 8 y.met))::eC au 3 8 y.met 0)) (y.met.length+8) [] 0,[]⟩) (fun y=>(ao ys).length-y.j) ?_ ⟨0,sums,met,Z3 _,hle,hj0⟩;clear hj0 hp0 hmN hle met sums;intro ⟨j,sums,met,hj,hle,hjq⟩;simp only;by_cases hlj:j<(ao ys).length
  ·obtain⟨r,hr⟩:∃r,r=(ao ys)[j]:=⟨_,rfl⟩;have hdr2:(ao ys).drop j=(ao ys)[j]::(ao ys).drop (j+1):=aac hlj;have hjx:∀t,dB Tryz.prog (some (.slice 60)) (some (al az ys)) (some (.int t ((j:Nat):Int)))=some (.val (some (FP [.int .i64 r.1,.int .i64 r.2]))):=fun t=>by rw[hr];exact pC hlj
   rw[hdr2,<-hr]at hjq;replace hjq:su (i:Int) sg (RP sg sums r,Eu (i:Int) met r) ((ao ys).drop (j+1))=su (i:Int) sg p0 (ao ys):=hjq;have hle2:=zF (i:=(i:Int)) (r:=r) hle;have hmN:met.length<=64*i+j:=hle.1;obtain⟨S2,hS2⟩:∃S2,S2=RP sg sums r:=⟨_,rfl⟩;obtain⟨M2,hM2⟩:∃M2,M2=Eu (i:Int) met r:=⟨_,rfl⟩;have hS3:S2=cJ r.1 (IntKind.i64.wrap ((bz r.1 sums).getD 0+IntKind.i64.wrap (sg*r.2))) sums:=hS2;have hM3:M2=cJ r.1 ((bz r.1 met).getD []++[(i:Int)]) met:=hM2;rw[<-hS2,<-hM2]at hjq;rw[<-hM2]at hle2;clear hS2 hM2 hdr2 hr;obtain⟨r1,r2⟩:=r;simp only at hjx hS3 hM3;have hz2:jJ Tryz.prog 3 (.int .i64 r1) false (some (bn (fun _=>kV) sums 0,sums.length)) (some (.int .i64 0))=some (.val (some (.int .i64 ((bz r1 sums).getD 0)))):=by rw[qY Tryz.underlying3];show some (XR.val (some (((bz r1 sums).map kV).getD (.int .i64 0))))=_;rw[Qx]
   have hup2:∀W,jh Tryz.prog W 3 3 (.int .i64 r1) (.int .i64 (IntKind.i64.wrap ((bz r1 sums).getD 0+IntKind.i64.wrap (sg*r2)))) (some (.map (bn (fun _=>kV) sums 0) sums.length))=some (.mod undef (W.put 3 (some (.map (bn (fun _=>kV) S2 0) S2.length)))):=fun W=>by rw[hS3];exact F7 Tryz.underlying3 (f:=kV) _
   refine ae (ac av (by simp(disch:=first|decide|omega) only[go_sem]<;>with_reducible rfl) ?_);refine ae (aZ (by simp(disch:=first|decide|omega) only[go_sem]<;>with_reducible rfl) ?_);refine aH ?_;refine ae (aD ?_);refine ae (ac av (by simp(disch:=first|decide|omega) only[hjx,go_sem]<;>with_reducible rfl) ?_);refine ae (ac av (by simp(disch:=first|decide|omega) only[hz2,hup2,go_sem]<;>with_reducible rfl) ?_);refine jb (Q:=xO Tryz.prog 2 ⟨aI [(0,some (.pointer (some ⟨0,0,none⟩))),(3,some (.pointer (some ⟨2,0,none⟩))),(5,some (.map (some 3))),(6,some (.map (some 4))),(21,some (al az x.sides)),(22,some (.int .i64 (n:Int))),(23,some (.int .i64 (i:Int))),(7,some (.int .i64 (i:Int))),(8,some (.pointer (some ⟨5,0,none⟩))),(35,some (al az ys)),(36,some (.int .i64 ((ao ys).length:Int))),(37,some (.int .i64 (j:Int)))],wd ([(0,some (cn 1 (cU by_))),(1,some (cu by_)),(2,some (.cells [.int .i64 x.id,.int .i64 x.dim,al az x.sides] 58 (0,0))),(3,some (.map (bn (fun _=>kV) S2 0) S2.length)),(5,some (.cells [.int .i64 s1,.int .i64 sg] 60 (0,0)))]++((4,some (gp 8 M2))::eC au 3 8 M2 0)) (M2.length+8) [] 0,[]⟩) (fun e s' ⟨he,hq⟩=>?_) ?_
   ·subst he;refine aU hq ?_;show bA _ _ _ _ _ _;refine ac av (by simp(disch:=first|decide|omega) only[go_sem]<;>with_reducible rfl) ?_;refine⟨⟨j+1,S2,M2,by omega,hle2,hjq⟩,by simp only;omega,?_⟩;exact u5 (by simp(disch:=decide) [ai,ab,aa,ag])
   have hz3:=fun z=>nW (P:=Tryz.prog) (T:=3) Tryz.underlying3 (f:=gq 8) r1 met (c:=met.length) (z:=z) (ok:=false)
   cases hx:fq r1 met 0 with
   |none=>
    have hg:=iu.1 hx;rw[hx]at hz3;have hplc:gW r1 met=met.length:=by unfold gW;rw[hx]
    rw[hg]at hM3;have hM3:M2=cJ r1 [(i:Int)] met:=hM3;have hup3:∀W,jh Tryz.prog W 4 3 (.int .i64 r1) (.slice (some ⟨met.length+8+1+1,0,none⟩) 1 aM) (some (.map (bn (gq 8) met 0) met.length))=some (.mod undef (W.put 4 (some (.map (kR r1 (.slice (some ⟨met.length+8+1+1,0,none⟩) 1 aM) (gq 8) met) (cJ r1 [(i:Int)] met).length)))):=fun W=>pB Tryz.underlying3 [(i:Int)]
    refine fX av (rs:=?rsc) (s':=?sxc) ?hxc ?kxc (gQ ?lxc)
    case hxc=>simp(disch:=first|decide|omega) only[aE.eq_1,aE.eq_2,cm.eq_1,bd.eq_1,bd.eq_2,gp,hz3,hup3,Z6,aaW,show bm 0=false from rfl,go_sem]<;>with_reducible rfl
    case kxc=>kernel_rfl
    rw[hM3];exact lR (B:=8) (s:=met.length+8+1+1) (mp:=4) (k:=r1) (b:=[(i:Int)]) (rs:=met) (enc:=au) (e:=3) ba (by decide) (by decide) (by omega) (by omega) (by omega)
     (af (v:=.pointer (some ⟨0,0,none⟩)) (by decide) (by simp(disch:=first|decide|omega) only[ab,aa]) (ay (aL (by omega) (by omega) (by omega))) (af (v:=.pointer (some ⟨2,0,none⟩)) (by decide) (by simp(disch:=first|decide|omega) only[ab,aa]) (ay (aL (by omega) (by omega) (by omega))) (af (v:=.map (some 3)) (by decide) (by simp(disch:=first|decide|omega) only[ab,aa]) (cq (aL (by omega) (by omega) (by omega))) (af (v:=.map (some 4)) (by decide) (by simp(disch:=first|decide|omega) only[ab,aa]) (cq (aL (by omega) (by omega) (by omega))) (af (v:=al az x.sides) (by decide) (by simp(disch:=first|decide|omega) only[ab,aa]) (aB bB _ _ ah) (af (v:=.int .i64 (n:Int)) (by decide) (by simp(disch:=first|decide|omega) only[ab,aa]) (ar 1 rfl) (af (v:=.int .i64 (i:Int)) (by decide) (by simp(disch:=first|decide|omega) only[ab,aa]) (ar 1 rfl) (af (v:=.int .i64 (i:Int)) (by decide) (by simp(disch:=first|decide|omega) only[ab,aa]) (ar 1 rfl) (af (v:=.pointer (some ⟨5,0,none⟩)) (by decide) (by simp(disch:=first|decide|omega) only[ab,aa]) (ay (aL (by omega) (by omega) (by omega))) (af (v:=al az ys) (by decide) (by simp(disch:=first|decide|omega) only[ab,aa]) (aB bB _ _ ah) (af (v:=.int .i64 ((ao ys).length:Int)) (by decide) (by simp(disch:=first|decide|omega) only[ab,aa]) (ar 1 rfl) (af (v:=.int .i64 (j:Int)) (by decide) (by simp(disch:=first|decide|omega) only[ab,aa]) (ar 1 rfl) (aR)))))))))))))
     (fun m o h=>by
      have hm:=bX h;simp only[ZU,ZS,or_false,Prod.mk.injEq,Option.some.injEq]at hm;rcases hm with⟨rfl,rfl⟩|⟨rfl,rfl⟩|⟨rfl,rfl⟩|⟨rfl,rfl⟩|⟨rfl,rfl⟩
      ·exact⟨by decide,by decide,by simp(disch:=first|decide|omega) only[ab,aa]<;>rfl,gZ (aL (by omega) (by omega) (by omega))⟩
      ·exact⟨by decide,by decide,by simp(disch:=first|decide|omega) only[ab,aa]<;>rfl,aq ah (dj _)⟩
      ·exact⟨by decide,by decide,by simp(disch:=first|decide|omega) only[ab,aa]<;>rfl,aq ah eV⟩
      ·exact⟨by decide,by decide,by simp(disch:=first|decide|omega) only[ab,aa]<;>rfl,aq ah (j8 _)⟩
      exact⟨by decide,by decide,by simp(disch:=first|decide|omega) only[ab,aa]<;>rfl,aq ah lO⟩)
     (fun p hp=>by simp only[ZU,ZS,or_false]at hp;rcases hp with rfl|rfl|rfl|rfl|rfl<;>exact⟨by simp only;decide,by simp only;decide⟩) (by simp(disch:=first|decide|omega) only[ab,aa]<;>rfl) (by simp(disch:=first|decide|omega) only[ab,aa]<;>rfl) (fun j hj hne=>by simp(disch:=first|decide|omega) only[ab,aa];rw[dK,if_pos (by omega),show 8+j-(8+0)=j by omega])
   |some q=>
    obtain⟨i0,l⟩:=q;have hsp:=eY hx;rw[aad,Nat.zero_add]at hsp;have hi0:=hsp.2.1;have hg:bz r1 met=some l:=by rw[<-iJ r1 met 0,hx];rfl
    have hplc:gW r1 met=i0:=by unfold gW;rw[hx]
    rw[hg]at hM3;have hM3:M2=cJ r1 (l++[(i:Int)]) met:=hM3;have hll:l.length<=64*i+j:=hle.2 _ (iK hg);have hrl:(l.flatMap au).length=l.length:=by rw[Je,aak]
    have hal:=nH l;have hsn:(l++[(i:Int)]).flatMap au=l.flatMap au++[.int .i64 (i:Int)]:=by rw[aap];rfl
    have hbl:(l++[(i:Int)]).length=l.length+1:=by simp
    refine aU (s':=⟨aI [(0,some (.pointer (some ⟨0,0,none⟩))),(3,some (.pointer (some ⟨2,0,none⟩))),(5,some (.map (some 3))),(6,some (.map (some 4))),(21,some (al az x.sides)),(22,some (.int .i64 (n:Int))),(23,some (.int .i64 (i:Int))),(7,some (.int .i64 (i:Int))),(8,some (.pointer (some ⟨5,0,none⟩))),(35,some (al az ys)),(36,some (.int .i64 ((ao ys).length:Int))),(37,some (.int .i64 (j:Int))),(10,some (.pointer (some ⟨met.length+8,0,none⟩)))],wd ((7,(met[i0]?).map fun x=>kS au 3 x.2)::(8+i0,none)::([(0,some (cn 1 (cU by_))),(1,some (cu by_)),(2,some (.cells [.int .i64 x.id,.int .i64 x.dim,al az x.sides] 58 (0,0))),(3,some (.map (bn (fun _=>kV) S2 0) S2.length)),(5,some (.cells [.int .i64 s1,.int .i64 sg] 60 (0,0))),(met.length+8,some (.cells [.int .i64 r1,.int .i64 r2] 60 (0,0)))]++((4,some (.map (bn (eB 8 7 i0) met 0) met.length))::eC au 3 8 met 0))) (met.length+8+1) [] 0,[]⟩) ?hfo ?_
    case hfo=>
     exact rK (B:=8) (d:=7) (mp:=4) (i0:=i0) ba (by decide) (by decide) hi0 (by decide) (by decide) (by decide) (by omega) (by omega)
      (af (v:=.pointer (some ⟨0,0,none⟩)) (by decide) (by simp(disch:=first|decide|omega) only[ab,aa]) (ay (aL (by omega) (by omega) (by omega))) (af (v:=.pointer (some ⟨2,0,none⟩)) (by decide) (by simp(disch:=first|decide|omega) only[ab,aa]) (ay (aL (by omega) (by omega) (by omega))) (af (v:=.map (some 3)) (by decide) (by simp(disch:=first|decide|omega) only[ab,aa]) (cq (aL (by omega) (by omega) (by omega))) (af (v:=.map (some 4)) (by decide) (by simp(disch:=first|decide|omega) only[ab,aa]) (cq (aL (by omega) (by omega) (by omega))) (af (v:=al az x.sides) (by decide) (by simp(disch:=first|decide|omega) only[ab,aa]) (aB bB _ _ ah) (af (v:=.int .i64 (n:Int)) (by decide) (by simp(disch:=first|decide|omega) only[ab,aa]) (ar 1 rfl) (af (v:=.int .i64 (i:Int)) (by decide) (by simp(disch:=first|decide|omega) only[ab,aa]) (ar 1 rfl) (af (v:=.int .i64 (i:Int)) (by decide) (by simp(disch:=first|decide|omega) only[ab,aa]) (ar 1 rfl) (af (v:=.pointer (some ⟨5,0,none⟩)) (by decide) (by simp(disch:=first|decide|omega) only[ab,aa]) (ay (aL (by omega) (by omega) (by omega))) (af (v:=al az ys) (by decide) (by simp(disch:=first|decide|omega) only[ab,aa]) (aB bB _ _ ah) (af (v:=.int .i64 ((ao ys).length:Int)) (by decide) (by simp(disch:=first|decide|omega) only[ab,aa]) (ar 1 rfl) (af (v:=.int .i64 (j:Int)) (by decide) (by simp(disch:=first|decide|omega) only[ab,aa]) (ar 1 rfl) (af (v:=.pointer (some ⟨met.length+8,0,none⟩)) (by decide) (by simp(disch:=first|decide|omega) only[ab,aa]) (ay (aL (by omega) (by omega) (by omega))) (aR))))))))))))))
      (fun m o h=>by
       have hm:=bX h;simp only[ZU,ZS,or_false,Prod.mk.injEq,Option.some.injEq]at hm;rcases hm with⟨rfl,rfl⟩|⟨rfl,rfl⟩|⟨rfl,rfl⟩|⟨rfl,rfl⟩|⟨rfl,rfl⟩|⟨rfl,rfl⟩
       ·exact⟨by omega,by omega,by omega,by omega,by simp(disch:=first|decide|omega) only[ab,aa]<;>rfl,gZ (aL (by omega) (by omega) (by omega))⟩
       ·exact⟨by omega,by omega,by omega,by omega,by simp(disch:=first|decide|omega) only[ab,aa]<;>rfl,aq ah (dj _)⟩
       ·exact⟨by omega,by omega,by omega,by omega,by simp(disch:=first|decide|omega) only[ab,aa]<;>rfl,aq ah eV⟩
       ·exact⟨by omega,by omega,by omega,by omega,by simp(disch:=first|decide|omega) only[ab,aa]<;>rfl,aq ah (j8 _)⟩
       ·exact⟨by omega,by omega,by omega,by omega,by simp(disch:=first|decide|omega) only[ab,aa]<;>rfl,aq ah lO⟩
       exact⟨by omega,by omega,by omega,by omega,by simp(disch:=first|decide|omega) only[ab,aa]<;>rfl,aq ah lO⟩)
      (fun p hp=>by simp only[ZU,ZS,or_false]at hp;rcases hp with rfl|rfl|rfl|rfl|rfl|rfl<;>exact⟨by simp only;omega,by simp only;omega,by simp only;omega⟩) (by simp(disch:=first|decide|omega) only[ab,aa]<;>rfl) (fun j hj=>by simp(disch:=first|decide|omega) only[ab,aa];rw[dK,if_pos (by omega),show 8+j-(8+0)=j by omega])
    rw[hsp.2.2];have hz4:∀z,jJ Tryz.prog 3 (.int .i64 r1) false (some (bn (eB 8 7 i0) met 0,met.length)) (some z)=some (.val (some (.slice (some ⟨7,0,none⟩) l.length aM))):=fun z=>by
     rw[nW (P:=Tryz.prog) (T:=3) Tryz.underlying3,hx];show some (XR.val (some (eB 8 7 i0 i0 l)))=_;unfold eB;rw[if_pos rfl]
    have hup4:∀W,jh Tryz.prog W 4 3 (.int .i64 r1) (.slice (some ⟨met.length+8+1+1,0,none⟩) (l.length+1) aM) (some (.map (bn (eB 8 7 i0) met 0) met.length))=some (.mod undef (W.put 4 (some (.map (kR r1 (.slice (some ⟨met.length+8+1+1,0,none⟩) (l++[(i:Int)]).length aM) (gq 8) met) (cJ r1 (l++[(i:Int)]) met).length)))):=fun W=>by
     rw[hbl,pB Tryz.underlying3 (l++[(i:Int)]),n3 (g:=gq 8) fun q x h1 h2=>by unfold eB;rw[if_neg (by rw[<-hplc];exact h2)]]
    refine fX av (rs:=?rsd) (s':=?sxd) ?hxd ?kxd (gQ ?lxd)
    case hxd=>simp(disch:=first|decide|omega) only[aE.eq_1,aE.eq_2,cm.eq_1,bd.eq_1,bd.eq_2,ZW,kS,hz4,hup4,hrl,hal,List.take_of_length_le,go_sem]<;>with_reducible rfl
    case kxd=>
     refine eK (by kernel_rfl) (by kernel_rfl) ?_;refine cH (by kernel_rfl) ?_;refine cH (by kernel_rfl) ?_;refine qc [7] ?hhd (by kernel_rfl) (by kernel_rfl) rfl ?hhx ?_
     case hhd=>kernel_rfl
     case hhx=>simp(disch:=first|decide|omega) only[wB,ij.eq_1,go_sem]
     repeat (refine cH (by kernel_rfl) ?_)
     rfl
    rw[hM3,<-hsn];exact lR (B:=8) (s:=met.length+8+1+1) (mp:=4) (k:=r1) (b:=l++[(i:Int)]) (rs:=met) (enc:=au) (e:=3) ba (by decide) (by decide) (by omega) (by omega) (by omega)
     (af (v:=.pointer (some ⟨0,0,none⟩)) (by decide) (by simp(disch:=first|decide|omega) only[ab,aa]) (ay (aL (by omega) (by omega) (by omega))) (af (v:=.pointer (some ⟨2,0,none⟩)) (by decide) (by simp(disch:=first|decide|omega) only[ab,aa]) (ay (aL (by omega) (by omega) (by omega))) (af (v:=.map (some 3)) (by decide) (by simp(disch:=first|decide|omega) only[ab,aa]) (cq (aL (by omega) (by omega) (by omega))) (af (v:=.map (some 4)) (by decide) (by simp(disch:=first|decide|omega) only[ab,aa]) (cq (aL (by omega) (by omega) (by omega))) (af (v:=al az x.sides) (by decide) (by simp(disch:=first|decide|omega) only[ab,aa]) (aB bB _ _ ah) (af (v:=.int .i64 (n:Int)) (by decide) (by simp(disch:=first|decide|omega) only[ab,aa]) (ar 1 rfl) (af (v:=.int .i64 (i:Int)) (by decide) (by simp(disch:=first|decide|omega) only[ab,aa]) (ar 1 rfl) (af (v:=.int .i64 (i:Int)) (by decide) (by simp(disch:=first|decide|omega) only[ab,aa]) (ar 1 rfl) (af (v:=.pointer (some ⟨5,0,none⟩)) (by decide) (by simp(disch:=first|decide|omega) only[ab,aa]) (ay (aL (by omega) (by omega) (by omega))) (af (v:=al az ys) (by decide) (by simp(disch:=first|decide|omega) only[ab,aa]) (aB bB _ _ ah) (af (v:=.int .i64 ((ao ys).length:Int)) (by decide) (by simp(disch:=first|decide|omega) only[ab,aa]) (ar 1 rfl) (af (v:=.int .i64 (j:Int)) (by decide) (by simp(disch:=first|decide|omega) only[ab,aa]) (ar 1 rfl) (aR)))))))))))))
     (fun m o h=>by
      have hm:=bX h;simp only[ZU,ZS,or_false,Prod.mk.injEq,Option.some.injEq]at hm;rcases hm with⟨rfl,rfl⟩|⟨rfl,rfl⟩|⟨rfl,rfl⟩|⟨rfl,rfl⟩|⟨rfl,rfl⟩
      ·exact⟨by decide,by decide,by simp(disch:=first|decide|omega) only[ab,aa]<;>rfl,gZ (aL (by omega) (by omega) (by omega))⟩
      ·exact⟨by decide,by decide,by simp(disch:=first|decide|omega) only[ab,aa]<;>rfl,aq ah (dj _)⟩
      ·exact⟨by decide,by decide,by simp(disch:=first|decide|omega) only[ab,aa]<;>rfl,aq ah eV⟩
      ·exact⟨by decide,by decide,by simp(disch:=first|decide|omega) only[ab,aa]<;>rfl,aq ah (j8 _)⟩
      exact⟨by decide,by decide,by simp(disch:=first|decide|omega) only[ab,aa]<;>rfl,aq ah lO⟩)
     (fun p hp=>by simp only[ZU,ZS,or_false]at hp;rcases hp with rfl|rfl|rfl|rfl|rfl<;>exact⟨by simp only;decide,by simp only;decide⟩) (by simp(disch:=first|decide|omega) only[ab,aa]<;>rfl) (by simp(disch:=first|decide|omega) only[ab,aa]<;>rfl) (fun j hj hne=>by simp(disch:=first|decide|omega) only[ab,aa];rw[dK,if_pos (by omega),show 8+j-(8+0)=j by omega])
  have ej:j=(ao ys).length:=by omega
  rw[Z5 (by omega)]at hjq;replace hjq:(sums,met)=su (i:Int) sg p0 (ao ys):=hjq;rw[<-hjq]at heq;have hmN:met.length<=64*i+j:=hle.1;refine ae (ac av (by simp(disch:=decide) only[go_sem]<;>with_reducible rfl) ?_);refine ae (aO (by simp(disch:=first|decide|omega) only[go_sem]<;>with_reducible rfl) ?_);refine bp ?_;show bA _ _ _ _ _ _;refine ac av (by simp(disch:=first|decide|omega) only[go_sem]<;>with_reducible rfl) ?_;refine⟨⟨i+1,sums,met,by omega,qS hle (by omega),heq⟩,by simp only;omega,?_⟩;simp only;exact u4 (B:=8) (s:=(met.length+8)) (d:=5) (mp:=4) ba (by decide) (by decide) (by omega) (by decide) (by decide) (by decide) (by omega) (by omega)
   (af (v:=.pointer (some ⟨0,0,none⟩)) (by decide) (by simp(disch:=first|decide|omega) only[ab,aa]) (ay (aL (by omega) (by omega) (by omega))) (af (v:=.pointer (some ⟨2,0,none⟩)) (by decide) (by simp(disch:=first|decide|omega) only[ab,aa]) (ay (aL (by omega) (by omega) (by omega))) (af (v:=.map (some 3)) (by decide) (by simp(disch:=first|decide|omega) only[ab,aa]) (cq (aL (by omega) (by omega) (by omega))) (af (v:=.map (some 4)) (by decide) (by simp(disch:=first|decide|omega) only[ab,aa]) (cq (aL (by omega) (by omega) (by omega))) (af (v:=al az x.sides) (by decide) (by simp(disch:=first|decide|omega) only[ab,aa]) (aB bB _ _ ah) (af (v:=.int .i64 (n:Int)) (by decide) (by simp(disch:=first|decide|omega) only[ab,aa]) (ar 1 rfl) (af (v:=.int .i64 ((i+1:Nat):Int)) (by decide) (by simp(disch:=first|decide|omega) only[ab,aa]) (ar 1 rfl) (aR))))))))
   (fun m o h=>by
    have hm:=bX h;simp only[ZU,ZS,or_false,Prod.mk.injEq,Option.some.injEq]at hm;rcases hm with⟨rfl,rfl⟩|⟨rfl,rfl⟩|⟨rfl,rfl⟩|⟨rfl,rfl⟩
    ·exact⟨by decide,by decide,0,(aL (by omega) (by omega) (by omega)),by omega,rfl,gZ (aL (by omega) (by omega) (by omega))⟩
    ·exact⟨by decide,by decide,1,(aL (by omega) (by omega) (by omega)),by omega,rfl,aq ah (dj _)⟩
    ·exact⟨by decide,by decide,2,(aL (by omega) (by omega) (by omega)),by omega,rfl,aq ah eV⟩
    exact⟨by decide,by decide,3,(aL (by omega) (by omega) (by omega)),by omega,rfl,aq ah (j8 _)⟩)
   (fun p hp=>by simp only[ZU,ZS,or_false]at hp;rcases hp with rfl|rfl|rfl|rfl<;>exact⟨by simp only;decide,by simp only;decide⟩) rfl (fun j hj=>by simp(disch:=first|decide|omega) only[ab,aa];rw[dK,if_pos (by omega),show 8+j-(8+0)=j by omega])
 have ei:i=n:=by omega
 rw[Z5 (by omega)]at heq;replace heq:(sums,met)=sk by_ 0 ([],[]) (ao x.sides):=heq;have hm4:mX 4096 met:=qS hle (by omega);refine ae (ac (e:=?e15) (s':=?s15) av ?h15 ?q15)
 case h15=>simp(disch:=decide) only[go_sem];all_goals rfl
 refine ae (aO (by simp(disch:=first|decide|omega) only[go_sem]<;>with_reducible rfl) ?_);refine bp ?_;show bA _ _ _ _ _ _;clear hle;obtain⟨hme1,hme2⟩:=hm4;refine aU (kB (e:=3) (enc:=au) (B:=8) (mp:=4) (A:=[(0,some (cn 1 (cU by_))),(1,some (cu by_)),(2,some (.cells [.int .i64 x.id,.int .i64 x.dim,al az x.sides] 58 (0,0))),(3,some (.map (bn (fun _=>kV) sums 0) sums.length))]) dA (by decide) (by omega) (by omega) (fun x hx=>by have:=hme2 x hx;show _<=4611686018427387904;omega) (fun p hp=>by simp only[ZU,ZS,or_false]at hp;rcases hp with rfl|rfl|rfl|rfl<;>exact⟨by simp only;omega,by simp only;decide⟩) met.length 0 _ (Nat.zero_add _) rfl (fun j _ hj=>by simp(disch:=first|decide|omega) only[ab,aa];rw[dK,if_pos (by omega),show 8+j-(8+0)=j by omega]) (fun m o h=>by
  have hm:=bX h;simp only[ZU,ZS,or_false,Prod.mk.injEq,Option.some.injEq]at hm;rcases hm with⟨rfl,rfl⟩|⟨rfl,rfl⟩|⟨rfl,rfl⟩|⟨rfl,rfl⟩<;>exact⟨by omega,rfl⟩)) ?_
 simp only[List.cons_append,List.nil_append];refine aU (s':=⟨aI [(0,some (.pointer (some ⟨0,0,none⟩))),(3,some (.pointer (some ⟨2,0,none⟩))),(5,some (.map (some 3))),(6,some (.map (some 4)))],wd [(0,some (cn 1 (cU by_))),(1,some (cu by_)),(2,some (.cells [.int .i64 x.id,.int .i64 x.dim,al az x.sides] 58 (0,0))),(3,some (sZ sums)),(4,some (gE met))] 5 [] 0,[]⟩) (aV [(0,some 0),(1,some 1),(2,some 2),(3,some 3),(4,some 4)] [(0,some 0),(1,some 1),(2,some 2),(3,some 3),(4,some 4)] (by decide) (by decide) (by decide)
  (af (by decide) rfl (ay rfl) (af (by decide) rfl (ay rfl) (af (by decide) rfl (cq rfl) (af (by decide) rfl (cq rfl) (aR)))))
  (aj 0 rfl (by omega) (by decide) rfl (gZ rfl) (aj 1 rfl (by omega) (by decide) rfl (aq ah (dj _)) (aj 2 rfl (by omega) (by decide) rfl (aq ah eV) (aj 3 rfl (by omega) (by decide) rfl (aq ah (j8 _)) (aj 4 rfl (by omega) (by decide) rfl (aq ah (iA _)) bj))))) .nil) ?_
 refine ae ?_;refine ae (ac (e:=?e17) (s':=?s17) av ?h17 ?q17)
 case h17=>simp(disch:=decide) only[ua.eq_1,vZ.eq_1,sZ,go_sem];all_goals rfl
 refine aD ?_;refine aU (s':=⟨aI [(0,some (.pointer (some ⟨0,0,none⟩))),(3,some (.pointer (some ⟨2,0,none⟩))),(5,some (.map (some 3))),(6,some (.map (some 4))),(64,some (.pointer (some ⟨5,0,none⟩)))],wd [(0,some (cn 1 (cU by_))),(1,some (cu by_)),(2,some (.cells [.int .i64 x.id,.int .i64 x.dim,al az x.sides] 58 (0,0))),(3,some (sZ sums)),(4,some (gE met)),(5,some (.iter 3 sums.length [] sums.length))] 6 [] 0,[]⟩) (ak (by simp(disch:=decide) [ai,ab,aa,ag]) (by simp(disch:=decide) [ai,ab,aa,ag,sZ]) (by decide)) ?_;refine bw (α:=SZ sums) (fun y=>⟨aI [(0,some (.pointer (some ⟨0,0,none⟩))),(3,some (.pointer (some ⟨2,0,none⟩))),(5,some (.map (some 3))),(6,some (.map (some 4))),(64,some (.pointer (some ⟨5,0,none⟩)))],wd [(0,some (cn 1 (cU by_))),(1,some (cu by_)),(2,some (.cells [.int .i64 x.id,.int .i64 x.dim,al az x.sides] 58 (0,0))),(3,some (sZ sums)),(4,some (gE met)),(5,some (.iter 3 sums.length y.1.js sums.length))] 6 [] 0,[]⟩) (fun y=>sums.length-y.1.js.length) ?_ ⟨G2 _,fun j h=>by cases h⟩;intro ⟨y,hz⟩;simp only;refine ae (cI ?_);refine Dm (x:=.tmp 64) (r:=5) (mp:=3) (rs:=sums) (f:=fun _=>kV) y rfl rfl ?hx2 ?hr2 ?hm2 (fun hall=>?_) (fun j kk b hj hjn hjb=>?_)
 case hx2=>simp(disch:=decide) only[go_sem]
 case hr2=>simp(disch:=decide) only[go_sem]
 case hm2=>simp(disch:=decide) only[sZ,go_sem]
 ·refine⟨_,dQ (by decide),aP av 1 (s1:=?s1z) ?hz1 (cY ?qz)⟩
  case hz1=>simp(disch:=decide) only[go_sem];all_goals rfl
  show bA _ _ _ _ _ _;refine ae (aO ?h18 ?q18)
  case h18=>simp(disch:=decide) only[go_sem];all_goals rfl
  refine bp ?_;show bA _ _ _ _ _ _;have hS0:¬∃m∈sums,m.2≠0:=fun⟨m,hm,h⟩=>by
   obtain⟨j,hj,hjm⟩:=List.getElem_of_mem hm;exact h (hz j (hall j hj) m.1 m.2 (by rw[<-hjm];exact ZP hj))
  have hF3:fP by_ x=u7 n met:=by unfold fP;rw[<-heq,<-hn];unfold F3;rw[if_neg hS0]
  rw[hF3];clear hF3 hS0 heq hall hz;refine ae (ac (e:=?e19) (s':=?s19) av ?h19 ?q19)
  case h19=>simp(disch:=decide) only[go_sem];all_goals rfl
  refine ae ?_;refine ae (ac (e:=?e20) (s':=?s20) av ?h20 ?q20)
  case h20=>simp(disch:=decide) only[ua.eq_1,vZ.eq_1,gE,go_sem];all_goals rfl
  refine aD ?_;refine aU (s':=⟨aI [(0,some (.pointer (some ⟨0,0,none⟩))),(3,some (.pointer (some ⟨2,0,none⟩))),(13,some (.pointer (some ⟨5,0,none⟩))),(73,some (.pointer (some ⟨4,0,none⟩)))],wd ([(0,some (cn 1 (cU by_))),(1,some (cu by_)),(2,some (.cells [.int .i64 x.id,.int .i64 x.dim,al az x.sides] 58 (0,0))),(3,some (gE met)),(4,some (.iter 3 met.length ([]:List Nat) met.length)),(5,some (.cells [.map (some 6)] 181 (0,0)))]++((6,some (gp 8 ([]:ef)))::eC au 3 8 ([]:ef) 0)) (([]:ef).length+8) [] 0,[]⟩) (aV [(0,some 0),(1,some 1),(2,some 2),(4,some 3),(8,some 4),(7,some 5),(6,some 6)] [(0,some 0),(1,some 1),(2,some 2),(3,some 4),(4,some 8),(5,some 7),(6,some 6)] (by decide) (by decide) (by decide)
   (af (by decide) rfl (ay rfl) (af (by decide) rfl (ay rfl) (af (by decide) rfl (ay rfl) (af (by decide) rfl (ay rfl) (aR)))))
   (aj (o:=cn 1 (cU by_)) 0 (by simp(disch:=first|decide|omega) only[ab,aa]) (by decide) (by decide) (by simp(disch:=first|decide|omega) only[ab,aa]) (gZ (by simp(disch:=first|decide|omega) only[ab,aa])) (aj (o:=cu by_) 1 (by simp(disch:=first|decide|omega) only[ab,aa]) (by decide) (by decide) (by simp(disch:=first|decide|omega) only[ab,aa]) (aq ah (dj _)) (aj (o:=.cells [.int .i64 x.id,.int .i64 x.dim,al az x.sides] 58 (0,0)) 2 (by simp(disch:=first|decide|omega) only[ab,aa]) (by decide) (by decide) (by simp(disch:=first|decide|omega) only[ab,aa]) (aq ah eV)
   (aj (o:=gE met) 4 (by simp(disch:=first|decide|omega) only[ab,aa]) (by decide) (by decide) (by simp(disch:=first|decide|omega) only[ab,aa];rfl) (aq ah (iA _)) (aj (o:=.iter 4 met.length [] met.length) 8 (by simp(disch:=first|decide|omega) only[ab,aa]) (by decide) (by decide) (by simp(disch:=first|decide|omega) only[ab,aa]) (kK (by simp(disch:=first|decide|omega) only[ab,aa])) (aj (o:=.cells [.map (some 6)] 181 (0,0)) 7 (by simp(disch:=first|decide|omega) only[ab,aa]) (by decide) (by decide) (by simp(disch:=first|decide|omega) only[ab,aa]) (bJ (ax (cq (by simp(disch:=first|decide|omega) only[ab,aa])) aX))
   (aj (o:=gp 8 []) 6 (by simp(disch:=first|decide|omega) only[ab,aa]) (by decide) (by decide) (by simp(disch:=first|decide|omega) only[ab,aa];rfl) (jY .nil) bj))))))) .nil) ?_
  refine bw (α:=JO met) (fun y=>⟨aI [(0,some (.pointer (some ⟨0,0,none⟩))),(3,some (.pointer (some ⟨2,0,none⟩))),(13,some (.pointer (some ⟨5,0,none⟩))),(73,some (.pointer (some ⟨4,0,none⟩)))],wd ([(0,some (cn 1 (cU by_))),(1,some (cu by_)),(2,some (.cells [.int .i64 x.id,.int .i64 x.dim,al az x.sides] 58 (0,0))),(3,some (gE met)),(4,some (.iter 3 met.length y.y.js met.length)),(5,some (.cells [.map (some 6)] 181 (0,0)))]++((6,some (gp 8 y.jn))::eC au 3 8 y.jn 0)) (y.jn.length+8) [] 0,[]⟩) (fun y=>met.length-y.y.js.length) ?_ ⟨G2 _,[],fun j h=>by(cases h),rfl,⟨Z3 _,fun p h=>by cases h⟩⟩;intro ⟨y,jn,htw,hje,hle⟩;simp only;have hyl:=jZ y.nd y.lt;have hjn:=hle.1;refine ae (cI ?_);refine Dm (x:=.tmp 73) (r:=4) (mp:=3) (rs:=met) (f:=fun _ l=>al au (some l)) y rfl rfl ?hx3 ?hr3 ?hm3 (fun hall=>?_) (fun j kk l hj hjn1 hjb=>?_)
  case hx3=>simp(disch:=decide) only[go_sem]
  case hr3=>simp(disch:=first|decide|omega) only[go_sem]
  case hm3=>simp(disch:=first|decide|omega) only[gE,go_sem]
  ·refine⟨_,dQ (by decide),aP av 1 (s1:=?s1y) ?hz3 (cY ?qy)⟩
   case hz3=>simp(disch:=decide) only[go_sem];all_goals rfl
   show bA _ _ _ _ _ _;refine ae (aO ?h21 ?q21)
   case h21=>simp(disch:=decide) only[go_sem];all_goals rfl
   refine bp ?_;show bA _ _ _ _ _ _;have htw2:∀m∈met,m.2.length=2:=fun m hm=>by
    obtain⟨j,hj,hjm⟩:=List.getElem_of_mem hm;exact htw j (hall j hj) m.1 m.2 (by rw[<-hjm];exact ZP hj)
   have hF4:u7 n met=AW n met:=by unfold u7;rw[if_neg (fun⟨m,hm,h⟩=>h (htw2 m hm))]
   rw[hF4];have hnb:∀a b,b∈jp jn a↔Oi met a b:=fun a b=>by rw[hje];exact OZ hall
   have hJ8:∀a,(jp jn a).length<=8192:=fun a=>by
    unfold jp;cases hg:bz a jn with
    |none=>exact Z3 _
    |some l=>
     have:=hle.2 _ (iK hg);show l.length<=8192;simp only at this;omega
   have hU:∀a∈(0:Int)::met.flatMap (·.2),∀b∈jp jn a,b∈(0:Int)::met.flatMap (·.2):=fun a _ b hb=>by
    obtain⟨m,hm,h⟩:=(hnb a b).1 hb;refine aal _ (List.mem_flatMap.2 ⟨m,hm,?_⟩);rcases h with h|h<;>rw[h]<;>simp
   have hvis:=xW (cn 1 (cU by_)) (cu by_) (.cells [.int .i64 x.id,.int .i64 x.dim,al az x.sides] 58 (0,0)) jn _ hU hJ8 _ [] 0 aaf aa2 (Nat.le_refl _);obtain⟨hle1,hle2⟩:=hle;refine aU (kB (e:=3) (enc:=au) (B:=8) (mp:=6) (A:=[(0,some (cn 1 (cU by_))),(1,some (cu by_)),(2,some (.cells [.int .i64 x.id,.int .i64 x.dim,al az x.sides] 58 (0,0))),(3,some (gE met)),(4,some (.iter 3 met.length y.js met.length)),(5,some (.cells [.map (some 6)] 181 (0,0)))]) dA (by decide) (by omega) (by omega) (fun x hx=>by have:=hle2 x hx;show _<=4611686018427387904;omega) (fun p hp=>by simp only[ZU,ZS,or_false]at hp;rcases hp with rfl|rfl|rfl|rfl|rfl|rfl<;>exact⟨by simp only;omega,by simp only;decide⟩) jn.length 0 _ (Nat.zero_add _) rfl (fun j _ hj=>by simp(disch:=first|decide|omega) only[ab,aa];rw[dK,if_pos (by omega),show 8+j-(8+0)=j by omega]) (fun m o h=>by
    have hm:=bX h;simp only[ZU,ZS,or_false,Prod.mk.injEq,Option.some.injEq]at hm;rcases hm with⟨rfl,rfl⟩|⟨rfl,rfl⟩|⟨rfl,rfl⟩|⟨rfl,rfl⟩|⟨rfl,rfl⟩|⟨rfl,rfl⟩<;>exact⟨by omega,rfl⟩)) ?_
   simp only[List.cons_append,List.nil_append];refine aU (s':=⟨aI [(0,some (.pointer (some ⟨0,0,none⟩))),(3,some (.pointer (some ⟨2,0,none⟩))),(13,some (.pointer (some ⟨3,0,none⟩)))],wd [(0,some (cn 1 (cU by_))),(1,some (cu by_)),(2,some (.cells [.int .i64 x.id,.int .i64 x.dim,al az x.sides] 58 (0,0))),(3,some pS),(4,some (gE jn))] 5 [] 0,[]⟩) (aV [(0,some 0),(1,some 1),(2,some 2),(5,some 3),(6,some 4)] [(0,some 0),(1,some 1),(2,some 2),(3,some 5),(4,some 6)] (by decide) (by decide) (by decide)
    (af (by decide) rfl (ay rfl) (af (by decide) rfl (ay rfl) (af (by decide) rfl (ay rfl) (aR))))
    (aj 0 rfl (by omega) (by decide) rfl (gZ rfl) (aj 1 rfl (by omega) (by decide) rfl (aq ah (dj _)) (aj 2 rfl (by omega) (by decide) rfl (aq ah eV)
    (aj 5 rfl (by omega) (by decide) rfl (bJ (ax (cq rfl) aX)) (aj 6 rfl (by omega) (by decide) rfl (aq ah (iA _)) bj))))) .nil) ?_
   refine ae (ac (e:=?e22) (s':=?s22) av ?h22 ?q22)
   case h22=>simp(disch:=decide) only[go_sem];all_goals rfl
   refine ae (ac (e:=?e23) (s':=?s23) av ?h23 ?q23)
   case h23=>simp(disch:=decide) only[go_sem];all_goals rfl
   refine ae (ac (e:=?e24) (s':=?s24) av ?h24 ?q24)
   case h24=>simp(disch:=decide) only[go_sem];all_goals rfl
   refine ae (cI ?_);refine aP av 1 (s1:=?sv) ?hv1 (fT (f:=99) (args:=[.int .i64 0,.pointer (some ⟨6,0,none⟩),.pointer (some ⟨3,0,none⟩),.pointer (some ⟨7,0,none⟩)]) (S:=G0 (cn 1 (cU by_)) (cu by_) (.cells [.int .i64 x.id,.int .i64 x.dim,al az x.sides] 58 (0,0)) jn [] 0) (enters_of (by kernel_rfl)) rfl ?hxv ?hlv ?qv)
   case hv1=>simp(disch:=decide) only[go_sem];all_goals rfl
   case hxv=>simp(disch:=decide) only[go_sem];rfl
   case hlv=>exact hvis
   intro e W' ⟨S3,he,g0,g1,g2,g3,g4,g5,g6,g7,g8,hp⟩;refine⟨_,_,he,dQ (by decide),?_⟩;refine ec (iF (L:=[(0,some (cn 1 (cU by_))),(1,some (cu by_)),(2,some (.cells [.int .i64 x.id,.int .i64 x.dim,al az x.sides] 58 (0,0))),(3,some pS),(4,some (gE jn)),(5,some (l5 S3)),(6,some me),(7,some ut)]) (n':=8) (lg:=[]) (nl:=0) g8 fun n o e=>?_) ?_
   ·have hcases:=bX e;simp only[ZU,ZS,or_false,Prod.mk.injEq,Option.some.injEq]at hcases;rcases hcases with⟨rfl,rfl⟩|⟨rfl,rfl⟩|⟨rfl,rfl⟩|⟨rfl,rfl⟩|⟨rfl,rfl⟩|⟨rfl,rfl⟩|⟨rfl,rfl⟩|⟨rfl,rfl⟩<;>assumption
   refine cY ?_;show bA _ _ _ _ _ _;rw[Ls hp.nd (OE hnb hp)];refine ae ?_;have hls:∀W,fm W (al az x.sides) (some (.slice 60))=some (.val (some (.int .i64 (n:Int)))):=fun W=>by rw[hn];exact da _
   by_cases hsn:S3.length=n
   ·have hb1:((S3.length:Int) !=(n:Int))=false:=li (by rw[hsn]);rw[if_pos hsn];refine ae (ac (e:=?e25) (s':=?s25) av ?h25 ?q25)
    case h25=>simp(disch:=decide) only[me,l5,gO,hls,hb1,go_sem];all_goals rfl
    refine aO ?h26 ?q26
    case h26=>simp(disch:=decide) only[go_sem];all_goals rfl
    refine aH ?_;show bA _ _ _ _ _ _;refine ae (ac (e:=?e27) (s':=?s27) av ?h27 ?q27)
    case h27=>simp(disch:=decide) only[go_sem];all_goals rfl
    refine bh ?_;refine⟨_,?e28,?W28,rfl,?h28,?q28⟩
    case h28=>simp(disch:=decide) only[Tryz.results64,go_sem];all_goals rfl
    refine⟨rfl,?_,fun o ho=>?_⟩
    ·simp(disch:=decide) only[go_sem]
    cases ho;simp(disch:=decide) only[go_sem]
   have hb1:((S3.length:Int) !=(n:Int))=true:=jK (by omega);rw[if_neg hsn];refine ae (ac (e:=?e29) (s':=?s29) av ?h29 ?q29)
   case h29=>simp(disch:=decide) only[me,l5,gO,hls,hb1,go_sem];all_goals rfl
   refine aZ ?h30 ?q30
   case h30=>simp(disch:=decide) only[go_sem];all_goals rfl
   refine ae (ac (e:=?e31) (s':=?s31) av ?h31 ?q31)
   case h31=>simp(disch:=decide) only[go_sem];all_goals rfl
   refine bh ?_;refine⟨_,?e32,?bx,rfl,?h32,?q32⟩
   case h32=>simp(disch:=decide) only[Tryz.results64,go_sem];all_goals rfl
   refine⟨rfl,?_,fun o ho=>?_⟩
   ·simp(disch:=decide) only[go_sem]
   cases ho;simp(disch:=decide) only[go_sem]
  refine⟨_,dQ (by decide),aP av 1 (s1:=?s1w) ?hz4 (cY ?qw)⟩
  case hz4=>simp(disch:=first|decide|omega) only[go_sem]<;>with_reducible rfl
  show bA _ _ _ _ _ _;refine ae (aZ (by simp(disch:=first|decide|omega) only[go_sem]<;>with_reducible rfl) ?_);refine aH ?_;refine aD ?_;have hfind:(bn (fun _ l=>al au (some l)) met 0).find? (fun e=>Nat.beq e.born j)=some ⟨kV kk,al au (some l),j⟩:=by have:=na (f:=fun _ l=>al au (some l)) (i:=0) hjb;rw[Nat.zero_add]at this;exact this
  have hgl:(mi y j hj hjn1).js.getLast?=some j:=by show(y.js++[j]).getLast?=some j;simp
  obtain⟨y2,hy2⟩:∃y2,y2=mi y j hj hjn1:=⟨_,rfl⟩;have hlt:=wf y hj hjn1;have hjs2:y2.js=y.js++[j]:=by rw[hy2];rfl
  have hjl2:y2.js.length=y.js.length+1:=by rw[hjs2];simp
  have hyl2:=jZ y2.nd y2.lt;rw[<-hy2]at hgl hlt ⊢;refine ae (ac av (by simp(disch:=first|decide|omega) only[t6.eq_1,wA.eq_1,v8.eq_1,yb.eq_1,gE,hgl,hfind,go_sem]<;>with_reducible rfl) ?_);refine ae ?_;have hll0:∀W e,fm W (al au (some l)) (some (.slice e))=some (.val (some (.int .i64 (l.length:Int)))):=fun W e=>da _
  by_cases hb2:l.length=2
  ·have hb1:((l.length:Int) !=((2:Nat):Int))=false:=li (by rw[hb2]);refine ae (ac av (by simp(disch:=first|decide|omega) only[hll0,hb1,go_sem]<;>with_reducible rfl) ?_);refine aO (by simp(disch:=first|decide|omega) only[go_sem]<;>with_reducible rfl) ?_;refine aH ?_;show bA _ _ _ _ _ _;obtain⟨p,q,rfl⟩:=S6 hb2;clear hll0 hb1 hb2 hgl hfind;have hj0:∀t,dB Tryz.prog (some (.slice 3)) (some (al au (some [p,q]))) (some (.int t ((0:Nat):Int)))=some (.val (some (FP [.int .i64 p]))):=fun t=>kC (o:=some [p,q]) (i:=0) (by show 0<2;decide)
   have hj1:∀t,dB Tryz.prog (some (.slice 3)) (some (al au (some [p,q]))) (some (.int t ((1:Nat):Int)))=some (.val (some (FP [.int .i64 q]))):=fun t=>kC (o:=some [p,q]) (i:=1) (by show 1<2;decide)
   have hld:∀W a,fo Tryz.prog W 3 (FP [.int .i64 a])=some (.int .i64 a):=fun W a=>xF a
   obtain⟨J1,hJ1⟩:∃J1,J1=gD p q jn:=⟨_,rfl⟩;obtain⟨J2,hJ2⟩:∃J2,J2=gD q p J1:=⟨_,rfl⟩;have hle1:mX (2*y.js.length+1) J1:=by rw[hJ1];exact E4 hle
   have hle2:mX (2*y2.js.length) J2:=by rw[hJ2];exact qS (E4 hle1) (by omega)
   have hj1l:=hle1.1;refine jy ⟨aI [(0,some (.pointer (some ⟨0,0,none⟩))),(3,some (.pointer (some ⟨2,0,none⟩))),(13,some (.pointer (some ⟨5,0,none⟩))),(73,some (.pointer (some ⟨4,0,none⟩))),(15,some (al au (some [p,q])))],wd ([(0,some (cn 1 (cU by_))),(1,some (cu by_)),(2,some (.cells [.int .i64 x.id,.int .i64 x.dim,al az x.sides] 58 (0,0))),(3,some (gE met)),(4,some (.iter 3 met.length y2.js met.length)),(5,some (.cells [.map (some 6)] 181 (0,0)))]++((6,some (gp 8 J1))::eC au 3 8 J1 0)) (J1.length+8) [] 0,[]⟩ ?hz23 ?qz23
   case hz23=>
    have hz3:=fun z=>nW (P:=Tryz.prog) (T:=3) Tryz.underlying3 (f:=gq 8) p jn (c:=jn.length) (z:=z) (ok:=false)
    cases hx:fq p jn 0 with
    |none=>
     have hg:=iu.1 hx;rw[hx]at hz3;have hplc:gW p jn=jn.length:=by unfold gW;rw[hx]
     have hM3:J1=cJ p [q] jn:=by rw[hJ1];unfold gD;rw[hg];rfl
     have hup3:∀W,jh Tryz.prog W 6 3 (.int .i64 p) (.slice (some ⟨jn.length+8+1,0,none⟩) 1 aM) (some (.map (bn (gq 8) jn 0) jn.length))=some (.mod undef (W.put 6 (some (.map (kR p (.slice (some ⟨jn.length+8+1,0,none⟩) [q].length aM) (gq 8) jn) (cJ p [q] jn).length)))):=fun W=>pB Tryz.underlying3 [q]
     refine fX av (rs:=?rsuc) (s':=?sxuc) ?hxuc ?kxuc (gQ ?lxuc)
     case hxuc=>simp(disch:=first|decide|omega) only[aE.eq_1,aE.eq_2,cm.eq_1,bd.eq_1,bd.eq_2,gp,hj0,hj1,hld,hz3,hup3,Z6,aaW,show bm 0=false from rfl,go_sem]<;>with_reducible rfl
     case kxuc=>kernel_rfl
     rw[hM3];exact lR (B:=8) (s:=jn.length+8+1) (mp:=6) (k:=p) (b:=[q]) (rs:=jn) (enc:=au) (e:=3) ba (by decide) (by decide) (by omega) (by omega) (by omega)
      (af (v:=.pointer (some ⟨0,0,none⟩)) (by decide) (by simp(disch:=first|decide|omega) only[ab,aa]) (ay (aL (by omega) (by omega) (by omega))) (af (v:=.pointer (some ⟨2,0,none⟩)) (by decide) (by simp(disch:=first|decide|omega) only[ab,aa]) (ay (aL (by omega) (by omega) (by omega))) (af (v:=.pointer (some ⟨5,0,none⟩)) (by decide) (by simp(disch:=first|decide|omega) only[ab,aa]) (ay (aL (by omega) (by omega) (by omega))) (af (v:=.pointer (some ⟨4,0,none⟩)) (by decide) (by simp(disch:=first|decide|omega) only[ab,aa]) (ay (aL (by omega) (by omega) (by omega))) (af (v:=al au (some [p,q])) (by decide) (by simp(disch:=first|decide|omega) only[ab,aa]) (aB ba _ _ ah) (aR))))))
      (fun m o h=>by
       have hm:=bX h;simp only[ZU,ZS,or_false,Prod.mk.injEq,Option.some.injEq]at hm;rcases hm with⟨rfl,rfl⟩|⟨rfl,rfl⟩|⟨rfl,rfl⟩|⟨rfl,rfl⟩|⟨rfl,rfl⟩|⟨rfl,rfl⟩
       ·exact⟨by decide,by decide,rfl,gZ (aL (by omega) (by omega) (by omega))⟩
       ·exact⟨by decide,by decide,rfl,aq ah (dj _)⟩
       ·exact⟨by decide,by decide,rfl,aq ah eV⟩
       ·exact⟨by decide,by decide,rfl,aq ah (iA _)⟩
       ·exact⟨by decide,by decide,by simp(disch:=first|decide|omega) only[ab,aa]<;>rfl,kK (aL (by omega) (by omega) (by omega))⟩
       exact⟨by decide,by decide,by simp(disch:=first|decide|omega) only[ab,aa]<;>rfl,bJ (ax (cq (aL (by omega) (by omega) (by omega))) aX)⟩)
      (fun p hp=>by simp only[ZU,ZS,or_false]at hp;rcases hp with rfl|rfl|rfl|rfl|rfl|rfl<;>exact⟨by simp only;decide,by simp only;decide⟩) (by simp(disch:=first|decide|omega) only[ab,aa]<;>rfl) (by simp(disch:=first|decide|omega) only[ab,aa]<;>rfl) (fun j hj hne=>by simp(disch:=first|decide|omega) only[ab,aa];rw[dK,if_pos (by omega),show 8+j-(8+0)=j by omega])
    |some q0=>
     obtain⟨i0,l0⟩:=q0;have hsp:=eY hx;rw[aad,Nat.zero_add]at hsp;have hi0:=hsp.2.1;have hg:bz p jn=some l0:=by rw[<-iJ p jn 0,hx];rfl
     have hplc:gW p jn=i0:=by unfold gW;rw[hx]
     have hM3:J1=cJ p (l0++[q]) jn:=by rw[hJ1];unfold gD;rw[hg];rfl
     have hll:=hle.2 _ (iK hg);simp only at hll;have hrl:(l0.flatMap au).length=l0.length:=by rw[Je,aak]
     have hal:=nH l0;have hsn:(l0++[q]).flatMap au=l0.flatMap au++[.int .i64 q]:=by rw[aap];rfl
     have hbl:(l0++[q]).length=l0.length+1:=by simp
     refine aU (s':=⟨aI [(0,some (.pointer (some ⟨0,0,none⟩))),(3,some (.pointer (some ⟨2,0,none⟩))),(13,some (.pointer (some ⟨5,0,none⟩))),(73,some (.pointer (some ⟨4,0,none⟩))),(15,some (al au (some [p,q])))],wd ((7,(jn[i0]?).map fun x=>kS au 3 x.2)::(8+i0,none)::([(0,some (cn 1 (cU by_))),(1,some (cu by_)),(2,some (.cells [.int .i64 x.id,.int .i64 x.dim,al az x.sides] 58 (0,0))),(3,some (gE met)),(4,some (.iter 3 met.length y2.js met.length)),(5,some (.cells [.map (some 6)] 181 (0,0)))]++((6,some (.map (bn (eB 8 7 i0) jn 0) jn.length))::eC au 3 8 jn 0))) (jn.length+8) [] 0,[]⟩) ?hfou ?_
     case hfou=>
      exact rK (B:=8) (d:=7) (mp:=6) (i0:=i0) ba (by decide) (by decide) hi0 (by decide) (by decide) (by decide) (by omega) (by omega)
       (af (by decide) rfl (ay (aL (by omega) (by omega) (by omega))) (af (by decide) rfl (ay (aL (by omega) (by omega) (by omega))) (af (by decide) rfl (ay (aL (by omega) (by omega) (by omega))) (af (by decide) rfl (ay (aL (by omega) (by omega) (by omega))) (af (by decide) rfl (aB ba _ _ ah) (aR))))))
       (fun m o h=>by
        have hm:=bX h;simp only[ZU,ZS,or_false,Prod.mk.injEq,Option.some.injEq]at hm;rcases hm with⟨rfl,rfl⟩|⟨rfl,rfl⟩|⟨rfl,rfl⟩|⟨rfl,rfl⟩|⟨rfl,rfl⟩|⟨rfl,rfl⟩
        ·exact⟨by omega,by omega,by omega,by omega,rfl,gZ (aL (by omega) (by omega) (by omega))⟩
        ·exact⟨by omega,by omega,by omega,by omega,rfl,aq ah (dj _)⟩
        ·exact⟨by omega,by omega,by omega,by omega,rfl,aq ah eV⟩
        ·exact⟨by omega,by omega,by omega,by omega,by simp(disch:=first|decide|omega) only[ab,aa]<;>rfl,aq ah (iA _)⟩
        ·exact⟨by omega,by omega,by omega,by omega,by simp(disch:=first|decide|omega) only[ab,aa]<;>rfl,kK (aL (by omega) (by omega) (by omega))⟩
        exact⟨by omega,by omega,by omega,by omega,by simp(disch:=first|decide|omega) only[ab,aa]<;>rfl,bJ (ax (cq (aL (by omega) (by omega) (by omega))) aX)⟩)
       (fun p hp=>by simp only[ZU,ZS,or_false]at hp;rcases hp with rfl|rfl|rfl|rfl|rfl|rfl<;>exact⟨by simp only;omega,by simp only;omega,by simp only;omega⟩) (by simp(disch:=first|decide|omega) only[ab,aa]<;>rfl) (fun j hj=>by simp(disch:=first|decide|omega) only[ab,aa];rw[dK,if_pos (by omega),show 8+j-(8+0)=j by omega])
     rw[hsp.2.2];have hz4:∀z,jJ Tryz.prog 3 (.int .i64 p) false (some (bn (eB 8 7 i0) jn 0,jn.length)) (some z)=some (.val (some (.slice (some ⟨7,0,none⟩) l0.length aM))):=fun z=>by
      rw[nW (P:=Tryz.prog) (T:=3) Tryz.underlying3,hx];show some (XR.val (some (eB 8 7 i0 i0 l0)))=_;unfold eB;rw[if_pos rfl]
     have hup4:∀W,jh Tryz.prog W 6 3 (.int .i64 p) (.slice (some ⟨jn.length+8+1,0,none⟩) (l0.length+1) aM) (some (.map (bn (eB 8 7 i0) jn 0) jn.length))=some (.mod undef (W.put 6 (some (.map (kR p (.slice (some ⟨jn.length+8+1,0,none⟩) (l0++[q]).length aM) (gq 8) jn) (cJ p (l0++[q]) jn).length)))):=fun W=>by
      rw[hbl,pB Tryz.underlying3 (l0++[q]),n3 (g:=gq 8) fun q x h1 h2=>by unfold eB;rw[if_neg (by rw[<-hplc];exact h2)]]
     refine fX av (rs:=?rsud) (s':=?sxud) ?hxud ?kxud (gQ ?lxud)
     case hxud=>simp(disch:=first|decide|omega) only[aE.eq_1,aE.eq_2,cm.eq_1,bd.eq_1,bd.eq_2,ZW,kS,hj0,hj1,hld,hz4,hup4,hrl,hal,List.take_of_length_le,go_sem]<;>with_reducible rfl
     case kxud=>
      refine eK (by kernel_rfl) (by kernel_rfl) ?_;refine qc [7] ?hhd (by kernel_rfl) (by kernel_rfl) rfl ?hhx ?_
      case hhd=>kernel_rfl
      case hhx=>simp(disch:=first|decide|omega) only[wB,ij.eq_1,go_sem]
      repeat (refine cH (by kernel_rfl) ?_)
      rfl
     rw[hM3,<-hsn];exact lR (B:=8) (s:=jn.length+8+1) (mp:=6) (k:=p) (b:=(l0++[q])) (rs:=jn) (enc:=au) (e:=3) ba (by decide) (by decide) (by omega) (by omega) (by omega)
      (af (v:=.pointer (some ⟨0,0,none⟩)) (by decide) (by simp(disch:=first|decide|omega) only[ab,aa]) (ay (aL (by omega) (by omega) (by omega))) (af (v:=.pointer (some ⟨2,0,none⟩)) (by decide) (by simp(disch:=first|decide|omega) only[ab,aa]) (ay (aL (by omega) (by omega) (by omega))) (af (v:=.pointer (some ⟨5,0,none⟩)) (by decide) (by simp(disch:=first|decide|omega) only[ab,aa]) (ay (aL (by omega) (by omega) (by omega))) (af (v:=.pointer (some ⟨4,0,none⟩)) (by decide) (by simp(disch:=first|decide|omega) only[ab,aa]) (ay (aL (by omega) (by omega) (by omega))) (af (v:=al au (some [p,q])) (by decide) (by simp(disch:=first|decide|omega) only[ab,aa]) (aB ba _ _ ah) (aR))))))
      (fun m o h=>by
       have hm:=bX h;simp only[ZU,ZS,or_false,Prod.mk.injEq,Option.some.injEq]at hm;rcases hm with⟨rfl,rfl⟩|⟨rfl,rfl⟩|⟨rfl,rfl⟩|⟨rfl,rfl⟩|⟨rfl,rfl⟩|⟨rfl,rfl⟩
       ·exact⟨by decide,by decide,by simp(disch:=first|decide|omega) only[ab,aa]<;>rfl,gZ (aL (by omega) (by omega) (by omega))⟩
       ·exact⟨by decide,by decide,by simp(disch:=first|decide|omega) only[ab,aa]<;>rfl,aq ah (dj _)⟩
       ·exact⟨by decide,by decide,by simp(disch:=first|decide|omega) only[ab,aa]<;>rfl,aq ah eV⟩
       ·exact⟨by decide,by decide,by simp(disch:=first|decide|omega) only[ab,aa]<;>rfl,aq ah (iA _)⟩
       ·exact⟨by decide,by decide,by simp(disch:=first|decide|omega) only[ab,aa]<;>rfl,kK (aL (by omega) (by omega) (by omega))⟩
       exact⟨by decide,by decide,by simp(disch:=first|decide|omega) only[ab,aa]<;>rfl,bJ (ax (cq (aL (by omega) (by omega) (by omega))) aX)⟩)
      (fun p hp=>by simp only[ZU,ZS,or_false]at hp;rcases hp with rfl|rfl|rfl|rfl|rfl|rfl<;>exact⟨by simp only;decide,by simp only;decide⟩) (by simp(disch:=first|decide|omega) only[ab,aa]<;>rfl) (by simp(disch:=first|decide|omega) only[ab,aa]<;>rfl) (fun j hj hne=>by simp(disch:=first|decide|omega) only[ab,aa];rw[dK,if_pos (by omega),show 8+j-(8+0)=j by omega])
   simp only[List.cons_append,List.nil_append];refine jb (Q:=xO Tryz.prog 2 ⟨aI [(0,some (.pointer (some ⟨0,0,none⟩))),(3,some (.pointer (some ⟨2,0,none⟩))),(13,some (.pointer (some ⟨5,0,none⟩))),(73,some (.pointer (some ⟨4,0,none⟩)))],wd ([(0,some (cn 1 (cU by_))),(1,some (cu by_)),(2,some (.cells [.int .i64 x.id,.int .i64 x.dim,al az x.sides] 58 (0,0))),(3,some (gE met)),(4,some (.iter 3 met.length y2.js met.length)),(5,some (.cells [.map (some 6)] 181 (0,0)))]++((6,some (gp 8 J2))::eC au 3 8 J2 0)) (J2.length+8) [] 0,[]⟩) (fun e s' ⟨he,hq⟩=>?_) ?_
   ·subst he;refine⟨⟨y2,J2,fun j' hj' k' l' h'=>?_,?_,hle2⟩,hlt,hq⟩
    ·rw[hjs2]at hj';rcases List.mem_append.1 hj' with z|z
     ·exact htw j' z k' l' h'
     simp only[ZU,ZS,or_false]at z;subst z;rw[hjb]at h';cases h';rfl
    rw[hjs2,Gj hjb,<-hje,hJ2,hJ1];rfl
   have hz3:=fun z=>nW (P:=Tryz.prog) (T:=3) Tryz.underlying3 (f:=gq 8) q J1 (c:=J1.length) (z:=z) (ok:=false)
   cases hx:fq q J1 0 with
   |none=>
    have hg:=iu.1 hx;rw[hx]at hz3;have hplc:gW q J1=J1.length:=by unfold gW;rw[hx]
    have hM3:J2=cJ q [p] J1:=by rw[hJ2];unfold gD;rw[hg];rfl
    have hup3:∀W,jh Tryz.prog W 6 3 (.int .i64 q) (.slice (some ⟨J1.length+8+1,0,none⟩) 1 aM) (some (.map (bn (gq 8) J1 0) J1.length))=some (.mod undef (W.put 6 (some (.map (kR q (.slice (some ⟨J1.length+8+1,0,none⟩) [p].length aM) (gq 8) J1) (cJ q [p] J1).length)))):=fun W=>pB Tryz.underlying3 [p]
    refine fX av (rs:=?rsvc) (s':=?sxvc) ?hxvc ?kxvc (gQ ?lxvc)
    case hxvc=>simp(disch:=first|decide|omega) only[aE.eq_1,aE.eq_2,cm.eq_1,bd.eq_1,bd.eq_2,gp,hj0,hj1,hld,hz3,hup3,Z6,aaW,show bm 0=false from rfl,go_sem]<;>with_reducible rfl
    case kxvc=>kernel_rfl
    rw[hM3];exact lR (B:=8) (s:=J1.length+8+1) (mp:=6) (k:=q) (b:=[p]) (rs:=J1) (enc:=au) (e:=3) ba (by decide) (by decide) (by omega) (by omega) (by omega)
     (af (v:=.pointer (some ⟨0,0,none⟩)) (by decide) (by simp(disch:=first|decide|omega) only[ab,aa]) (ay (aL (by omega) (by omega) (by omega))) (af (v:=.pointer (some ⟨2,0,none⟩)) (by decide) (by simp(disch:=first|decide|omega) only[ab,aa]) (ay (aL (by omega) (by omega) (by omega))) (af (v:=.pointer (some ⟨5,0,none⟩)) (by decide) (by simp(disch:=first|decide|omega) only[ab,aa]) (ay (aL (by omega) (by omega) (by omega))) (af (v:=.pointer (some ⟨4,0,none⟩)) (by decide) (by simp(disch:=first|decide|omega) only[ab,aa]) (ay (aL (by omega) (by omega) (by omega))) (aR)))))
     (fun m o h=>by
      have hm:=bX h;simp only[ZU,ZS,or_false,Prod.mk.injEq,Option.some.injEq]at hm;rcases hm with⟨rfl,rfl⟩|⟨rfl,rfl⟩|⟨rfl,rfl⟩|⟨rfl,rfl⟩|⟨rfl,rfl⟩|⟨rfl,rfl⟩
      ·exact⟨by decide,by decide,by simp(disch:=first|decide|omega) only[ab,aa]<;>rfl,gZ (aL (by omega) (by omega) (by omega))⟩
      ·exact⟨by decide,by decide,by simp(disch:=first|decide|omega) only[ab,aa]<;>rfl,aq ah (dj _)⟩
      ·exact⟨by decide,by decide,by simp(disch:=first|decide|omega) only[ab,aa]<;>rfl,aq ah eV⟩
      ·exact⟨by decide,by decide,by simp(disch:=first|decide|omega) only[ab,aa]<;>rfl,aq ah (iA _)⟩
      ·exact⟨by decide,by decide,by simp(disch:=first|decide|omega) only[ab,aa]<;>rfl,kK (aL (by omega) (by omega) (by omega))⟩
      exact⟨by decide,by decide,by simp(disch:=first|decide|omega) only[ab,aa]<;>rfl,bJ (ax (cq (aL (by omega) (by omega) (by omega))) aX)⟩)
     (fun p hp=>by simp only[ZU,ZS,or_false]at hp;rcases hp with rfl|rfl|rfl|rfl|rfl|rfl<;>exact⟨by simp only;decide,by simp only;decide⟩) (by simp(disch:=first|decide|omega) only[ab,aa]<;>rfl) (by simp(disch:=first|decide|omega) only[ab,aa]<;>rfl) (fun j hj hne=>by simp(disch:=first|decide|omega) only[ab,aa];rw[dK,if_pos (by omega),show 8+j-(8+0)=j by omega])
   |some q0=>
    obtain⟨i0,l0⟩:=q0;have hsp:=eY hx;rw[aad,Nat.zero_add]at hsp;have hi0:=hsp.2.1;have hg:bz q J1=some l0:=by rw[<-iJ q J1 0,hx];rfl
    have hplc:gW q J1=i0:=by unfold gW;rw[hx]
    have hM3:J2=cJ q (l0++[p]) J1:=by rw[hJ2];unfold gD;rw[hg];rfl
    have hll:=hle1.2 _ (iK hg);simp only at hll;have hrl:(l0.flatMap au).length=l0.length:=by rw[Je,aak]
    have hal:=nH l0;have hsn:(l0++[p]).flatMap au=l0.flatMap au++[.int .i64 p]:=by rw[aap];rfl
    have hbl:(l0++[p]).length=l0.length+1:=by simp
    refine aU (s':=⟨aI [(0,some (.pointer (some ⟨0,0,none⟩))),(3,some (.pointer (some ⟨2,0,none⟩))),(13,some (.pointer (some ⟨5,0,none⟩))),(73,some (.pointer (some ⟨4,0,none⟩))),(15,some (al au (some [p,q])))],wd ((7,(J1[i0]?).map fun x=>kS au 3 x.2)::(8+i0,none)::([(0,some (cn 1 (cU by_))),(1,some (cu by_)),(2,some (.cells [.int .i64 x.id,.int .i64 x.dim,al az x.sides] 58 (0,0))),(3,some (gE met)),(4,some (.iter 3 met.length y2.js met.length)),(5,some (.cells [.map (some 6)] 181 (0,0)))]++((6,some (.map (bn (eB 8 7 i0) J1 0) J1.length))::eC au 3 8 J1 0))) (J1.length+8) [] 0,[]⟩) ?hfov ?_
    case hfov=>
     exact rK (B:=8) (d:=7) (mp:=6) (i0:=i0) ba (by decide) (by decide) hi0 (by decide) (by decide) (by decide) (by omega) (by omega)
      (af (v:=.pointer (some ⟨0,0,none⟩)) (by decide) (by simp(disch:=first|decide|omega) only[ab,aa]) (ay (aL (by omega) (by omega) (by omega))) (af (v:=.pointer (some ⟨2,0,none⟩)) (by decide) (by simp(disch:=first|decide|omega) only[ab,aa]) (ay (aL (by omega) (by omega) (by omega))) (af (v:=.pointer (some ⟨5,0,none⟩)) (by decide) (by simp(disch:=first|decide|omega) only[ab,aa]) (ay (aL (by omega) (by omega) (by omega))) (af (v:=.pointer (some ⟨4,0,none⟩)) (by decide) (by simp(disch:=first|decide|omega) only[ab,aa]) (ay (aL (by omega) (by omega) (by omega))) (af (v:=al au (some [p,q])) (by decide) (by simp(disch:=first|decide|omega) only[ab,aa]) (aB ba _ _ ah) (aR))))))
      (fun m o h=>by
       have hm:=bX h;simp only[ZU,ZS,or_false,Prod.mk.injEq,Option.some.injEq]at hm;rcases hm with⟨rfl,rfl⟩|⟨rfl,rfl⟩|⟨rfl,rfl⟩|⟨rfl,rfl⟩|⟨rfl,rfl⟩|⟨rfl,rfl⟩
       ·exact⟨by omega,by omega,by omega,by omega,by simp(disch:=first|decide|omega) only[ab,aa]<;>rfl,gZ (aL (by omega) (by omega) (by omega))⟩
       ·exact⟨by omega,by omega,by omega,by omega,by simp(disch:=first|decide|omega) only[ab,aa]<;>rfl,aq ah (dj _)⟩
       ·exact⟨by omega,by omega,by omega,by omega,by simp(disch:=first|decide|omega) only[ab,aa]<;>rfl,aq ah eV⟩
       ·exact⟨by omega,by omega,by omega,by omega,by simp(disch:=first|decide|omega) only[ab,aa]<;>rfl,aq ah (iA _)⟩
       ·exact⟨by omega,by omega,by omega,by omega,by simp(disch:=first|decide|omega) only[ab,aa]<;>rfl,kK (aL (by omega) (by omega) (by omega))⟩
       exact⟨by omega,by omega,by omega,by omega,by simp(disch:=first|decide|omega) only[ab,aa]<;>rfl,bJ (ax (cq (aL (by omega) (by omega) (by omega))) aX)⟩)
      (fun p hp=>by simp only[ZU,ZS,or_false]at hp;rcases hp with rfl|rfl|rfl|rfl|rfl|rfl<;>exact⟨by simp only;omega,by simp only;omega,by simp only;omega⟩) (by simp(disch:=first|decide|omega) only[ab,aa]<;>rfl) (fun j hj=>by simp(disch:=first|decide|omega) only[ab,aa];rw[dK,if_pos (by omega),show 8+j-(8+0)=j by omega])
    rw[hsp.2.2];have hz4:∀z,jJ Tryz.prog 3 (.int .i64 q) false (some (bn (eB 8 7 i0) J1 0,J1.length)) (some z)=some (.val (some (.slice (some ⟨7,0,none⟩) l0.length aM))):=fun z=>by
     rw[nW (P:=Tryz.prog) (T:=3) Tryz.underlying3,hx];show some (XR.val (some (eB 8 7 i0 i0 l0)))=_;unfold eB;rw[if_pos rfl]
    have hup4:∀W,jh Tryz.prog W 6 3 (.int .i64 q) (.slice (some ⟨J1.length+8+1,0,none⟩) (l0.length+1) aM) (some (.map (bn (eB 8 7 i0) J1 0) J1.length))=some (.mod undef (W.put 6 (some (.map (kR q (.slice (some ⟨J1.length+8+1,0,none⟩) (l0++[p]).length aM) (gq 8) J1) (cJ q (l0++[p]) J1).length)))):=fun W=>by
     rw[hbl,pB Tryz.underlying3 (l0++[p]),n3 (g:=gq 8) fun q x h1 h2=>by unfold eB;rw[if_neg (by rw[<-hplc];exact h2)]]
    refine fX av (rs:=?rsvd) (s':=?sxvd) ?hxvd ?kxvd (gQ ?lxvd)
    case hxvd=>simp(disch:=first|decide|omega) only[aE.eq_1,aE.eq_2,cm.eq_1,bd.eq_1,bd.eq_2,ZW,kS,hj0,hj1,hld,hz4,hup4,hrl,hal,List.take_of_length_le,go_sem]<;>with_reducible rfl
    case kxvd=>
     refine eK (by kernel_rfl) (by kernel_rfl) ?_;refine qc [7] ?hhd (by kernel_rfl) (by kernel_rfl) rfl ?hhx ?_
     case hhd=>kernel_rfl
     case hhx=>simp(disch:=first|decide|omega) only[wB,ij.eq_1,go_sem]
     repeat (refine cH (by kernel_rfl) ?_)
     rfl
    rw[hM3,<-hsn];exact lR (B:=8) (s:=J1.length+8+1) (mp:=6) (k:=q) (b:=(l0++[p])) (rs:=J1) (enc:=au) (e:=3) ba (by decide) (by decide) (by omega) (by omega) (by omega)
     (af (v:=.pointer (some ⟨0,0,none⟩)) (by decide) (by simp(disch:=first|decide|omega) only[ab,aa]) (ay (aL (by omega) (by omega) (by omega))) (af (v:=.pointer (some ⟨2,0,none⟩)) (by decide) (by simp(disch:=first|decide|omega) only[ab,aa]) (ay (aL (by omega) (by omega) (by omega))) (af (v:=.pointer (some ⟨5,0,none⟩)) (by decide) (by simp(disch:=first|decide|omega) only[ab,aa]) (ay (aL (by omega) (by omega) (by omega))) (af (v:=.pointer (some ⟨4,0,none⟩)) (by decide) (by simp(disch:=first|decide|omega) only[ab,aa]) (ay (aL (by omega) (by omega) (by omega))) (aR)))))
     (fun m o h=>by
      have hm:=bX h;simp only[ZU,ZS,or_false,Prod.mk.injEq,Option.some.injEq]at hm;rcases hm with⟨rfl,rfl⟩|⟨rfl,rfl⟩|⟨rfl,rfl⟩|⟨rfl,rfl⟩|⟨rfl,rfl⟩|⟨rfl,rfl⟩
      ·exact⟨by decide,by decide,by simp(disch:=first|decide|omega) only[ab,aa]<;>rfl,gZ (aL (by omega) (by omega) (by omega))⟩
      ·exact⟨by decide,by decide,by simp(disch:=first|decide|omega) only[ab,aa]<;>rfl,aq ah (dj _)⟩
      ·exact⟨by decide,by decide,by simp(disch:=first|decide|omega) only[ab,aa]<;>rfl,aq ah eV⟩
      ·exact⟨by decide,by decide,by simp(disch:=first|decide|omega) only[ab,aa]<;>rfl,aq ah (iA _)⟩
      ·exact⟨by decide,by decide,by simp(disch:=first|decide|omega) only[ab,aa]<;>rfl,kK (aL (by omega) (by omega) (by omega))⟩
      exact⟨by decide,by decide,by simp(disch:=first|decide|omega) only[ab,aa]<;>rfl,bJ (ax (cq (aL (by omega) (by omega) (by omega))) aX)⟩)
     (fun p hp=>by simp only[ZU,ZS,or_false]at hp;rcases hp with rfl|rfl|rfl|rfl|rfl|rfl<;>exact⟨by simp only;decide,by simp only;decide⟩) (by simp(disch:=first|decide|omega) only[ab,aa]<;>rfl) (by simp(disch:=first|decide|omega) only[ab,aa]<;>rfl) (fun j hj hne=>by simp(disch:=first|decide|omega) only[ab,aa];rw[dK,if_pos (by omega),show 8+j-(8+0)=j by omega])
  have hb1:((l.length:Int) !=((2:Nat):Int))=true:=jK (by omega);have hf:u7 n met=25:=by unfold u7;rw[if_pos ⟨(kk,l),aaC hjb,hb2⟩]
  rw[hf];refine ae (ac (e:=?e37) (s':=?s37) av ?h37 ?q37)
  case h37=>simp(disch:=decide) only[hll0,hb1,go_sem];all_goals rfl
  refine aZ ?h38 ?q38
  case h38=>simp(disch:=decide) only[go_sem];all_goals rfl
  refine ae (ac (e:=?e39) (s':=?s39) av ?h39 ?q39)
  case h39=>simp(disch:=decide) only[go_sem];all_goals rfl
  refine bh ?_;refine⟨_,?e40,?W40,rfl,?h40,?q40⟩
  case h40=>simp(disch:=first|decide|omega) only[Tryz.results64,go_sem]<;>with_reducible rfl
  refine⟨rfl,?_,fun o ho=>?_⟩
  ·simp(disch:=first|decide|omega) only[go_sem]
  cases ho;simp(disch:=first|decide|omega) only[go_sem]
 refine⟨_,dQ (by decide),aP av 1 (s1:=?s1n) ?hz2 (cY ?qn)⟩
 case hz2=>simp(disch:=decide) only[go_sem];all_goals rfl
 show bA _ _ _ _ _ _;refine ae (aZ (by simp(disch:=decide) only[go_sem]<;>with_reducible rfl) ?_);refine aH ?_;refine aD ?_;have hfind:(bn (fun _=>kV) sums 0).find? (fun e=>Nat.beq e.born j)=some ⟨kV kk,kV b,j⟩:=by have:=na (f:=fun _=>kV) (i:=0) hjb;rw[Nat.zero_add]at this;exact this
 have hgl:(mi y j hj hjn).js.getLast?=some j:=by show(y.js++[j]).getLast?=some j;simp
 obtain⟨y2,hy2⟩:∃y2,y2=mi y j hj hjn:=⟨_,rfl⟩;have hlt:=wf y hj hjn;have hjs2:y2.js=y.js++[j]:=by rw[hy2];rfl
 rw[<-hy2]at hgl hlt ⊢;refine ae (ac av (by simp(disch:=first|decide|omega) only[t6.eq_1,wA.eq_1,v8.eq_1,yb.eq_1,sZ,hgl,hfind,go_sem]<;>with_reducible rfl) ?_);by_cases hb0:b=0
 ·have hb1:(b !=((0:Nat):Int))=false:=li (by rw[hb0];rfl);refine ae (ac (e:=?e43) (s':=?s43) av ?h43 ?q43)
  case h43=>simp(disch:=decide) only[hb1,go_sem];all_goals rfl
  refine aO (by simp(disch:=decide) only[go_sem]<;>with_reducible rfl) ?_;refine aH ?_;refine⟨⟨y2,fun j' hj' k' b' h'=>?_⟩,hlt,?_⟩
  ·rw[hjs2]at hj';rcases List.mem_append.1 hj' with q|q
   ·exact hz j' q k' b' h'
   simp only[ZU,ZS,or_false]at q;subst q;rw[hjb]at h';cases h';exact hb0
  exact ak (by simp(disch:=decide) [ai,ab,aa,ag]) (by simp(disch:=decide) [ai,ab,aa,ag,sZ]) (by decide)
 have hb1:(b !=((0:Nat):Int))=true:=jK hb0;have hf:fP by_ x=24:=by unfold fP;rw[<-heq];unfold F3;rw[if_pos ⟨(kk,b),aaC hjb,hb0⟩]
 rw[hf];refine ae (ac (e:=?e45) (s':=?s45) av ?h45 ?q45)
 case h45=>simp(disch:=decide) only[hb1,go_sem];all_goals rfl
 refine aZ ?h46 ?q46
 case h46=>simp(disch:=decide) only[go_sem];all_goals rfl
 refine ae (ac (e:=?e47) (s':=?s47) av ?h47 ?q47)
 case h47=>simp(disch:=decide) only[go_sem];all_goals rfl
 refine bh ?_;refine⟨_,?e48,?W48,rfl,?h48,?q48⟩
 case h48=>simp(disch:=decide) only[Tryz.results64,go_sem];all_goals rfl
 refine⟨rfl,?_,fun o ho=>?_⟩
 ·simp(disch:=decide) only[go_sem]
 cases ho;simp(disch:=decide) only[go_sem]
open Classical in
noncomputable def mC:PP dD:=fun xs by_=>if h:∃x,xs=[dZ x]/\CX by_ x then some (.int .i64 (fP by_ (Classical.choose h)),by_,.rd)else none
theorem FO{by_:dD}{x:aC}(ha:CX by_ x):mC [dZ x] by_=some (.int .i64 (fP by_ x),by_,.rd):=by
 have hx:∃y,[dZ x]=[dZ y]/\CX by_ y:=⟨x,rfl,ha⟩;have e:mC [dZ x] by_=some (.int .i64 (fP by_ (Classical.choose hx)),by_,.rd):=dif_pos hx;have h2:=(ZQ hx).1;injection h2 with h2 _;rw[e,<-tL h2]
theorem vD{xs:List Value}{by_ a':dD}{v:Value}{md:Md}(h:mC xs by_=some (v,a',md)):∃x,xs=[dZ x]/\CX by_ x/\v=.int .i64 (fP by_ x)/\a'=by_/\md=.rd:=by
 unfold mC at h;split at h
 ·rename_i hx;cases h;exact⟨_,(ZQ hx).1,(ZQ hx).2,rfl,rfl,rfl⟩
 cases h
theorem MD:bD Tryz.prog 64 (ic sS mC):=uO (enters_of (by kernel_rfl)) (fun xs a v a' md h=>by
 obtain⟨x,rfl,_,rfl,_,_⟩:=vD h;exact⟨aw (rO x) aQ,aG 1 rfl⟩) (fun xs a v a' md h=>by
 obtain⟨x,rfl,ha,rfl,rfl,rfl⟩:=vD h;exact DZ _ x ha)
theorem KN{P:Program}{f:FuncId}{args:List Value}{W:XW}{S:cz->XW->Prop}{o1:Nat->bb}{o2:bb}(hargs:dt args)(hcall:aN P f args (wd [] 0 [] 0) S)
 (hout:∀e' W',S e' W'->∃a b,e'=.ret (.pointer (some ⟨a,0,none⟩))/\a≠b/\W'.get a=some (o1 b)/\W'.get b=some o2) (ho1:∀b n θ,θ b=some n->TO P (cM θ) (o1 b) (o1 n)) (ho2:fY P o2) :
 lH P f args W (.ret (.pointer (some ⟨W.next,0,none⟩))) ((W.push (o1 (W.next+1))).push o2):=
 mj (k:=0) (fun _=>0) (fun _=>none) rfl (fun m _ h=>by omega) (fun m h=>by omega) (fun n m h=>by cases h) (fun m oL h=>by rw[XW.get_ge (Z3 _)]at h;cases h) (hargs _ ah) hcall
  fun eL WL' hS=>by
   obtain⟨a,b,rfl,hab,ha,hb⟩:=hout _ _ hS;have ta:(fun m=>if m=a then some W.next else if m=b then some (W.next+1)else none) a=some W.next:=if_pos rfl;have tb:(fun m=>if m=a then some W.next else if m=b then some (W.next+1)else none) b=some (W.next+1):=by show(if b=a then some W.next else if b=b then some (W.next+1)else none)=_;rw[if_neg (fun e=>hab e.symm),if_pos rfl]
   have hnx:((W.push (o1 (W.next+1))).push o2).next=W.next+1+1:=rfl;refine⟨fun m=>if m=a then some W.next else if m=b then some (W.next+1)else none,fun m x h=>?_,fun m m' x h h'=>?_,fun x o' h=>?_,ay ta,by rw[hnx];omega⟩
   ·rw[hnx];by_cases hm:m=a
    ·rw[if_pos hm]at h;cases h;exact .inr ⟨Z3 _,Nat.le_refl _,by omega⟩
    rw[if_neg hm]at h;by_cases hm2:m=b
    ·rw[if_pos hm2]at h;cases h;exact .inr ⟨Z3 _,by omega,by omega⟩
    rw[if_neg hm2]at h;cases h
   ·by_cases hm:m=a
    ·rw[if_pos hm]at h;by_cases hm':m'=a
     ·omega
     rw[if_neg hm']at h';by_cases hm2:m'=b
     ·rw[if_pos hm2]at h';injection h with h;injection h' with h';omega
     rw[if_neg hm2]at h';cases h'
    rw[if_neg hm]at h;by_cases hmb:m=b
    ·rw[if_pos hmb]at h;by_cases hm':m'=a
     ·rw[if_pos hm']at h';injection h with h;injection h' with h';omega
     rw[if_neg hm']at h';by_cases hm2:m'=b
     ·omega
     rw[if_neg hm2]at h';cases h'
    rw[if_neg hmb]at h;cases h
   rcases XW.get_push h with⟨rfl,rfl⟩|⟨q1,q2⟩
   ·exact .inl ⟨b,_,tb,hb,ho2 _ ah⟩
   rcases XW.get_push q2 with⟨rfl,rfl⟩|⟨q3,q4⟩
   ·exact .inl ⟨a,_,ta,ha,ho1 _ _ _ tb⟩
   exact .inr ⟨q4,cw q4,fun m hm=>by omega⟩
open Classical in
noncomputable def Am:HF:=fun args W=>if h:∃c:CQ,args=lK c then some (.ret (.pointer (some ⟨W.next,0,none⟩)),(W.push (cn (W.next+1) (cU (ig (ao (dC (Classical.choose h).o)))))).push (cu (ig (ao (dC (Classical.choose h).o)))))else none
theorem Vb{o:Option (List aC)}{W:XW}(sm:small o)(hs:∀x∈ao o,small x.sides):Am [.agg #[al an o]] W=some (.ret (.pointer (some ⟨W.next,0,none⟩)),(W.push (cn (W.next+1) (cU (ig (ao (dC o)))))).push (cu (ig (ao (dC o))))):=by
 have hx:∃c:CQ,[jP o]=lK c:=⟨⟨o,sm,hs⟩,rfl⟩;have e:Am [jP o] W=some (.ret (.pointer (some ⟨W.next,0,none⟩)),(W.push (cn (W.next+1) (cU (ig (ao (dC (Classical.choose hx).o)))))).push (cu (ig (ao (dC (Classical.choose hx).o))))):=dif_pos hx;have h2:=ZQ hx;have h3:o=(Classical.choose hx).o:=by injection h2 with h2 _;exact uY h2
 show Am [jP o] W=_;rw[e,<-h3]
theorem XE:bD Tryz.prog 62 Am:=by
 refine⟨enters_of (by kernel_rfl),fun args W e W' h=>?_,fun args W e W' h=>?_⟩
 ·unfold Am at h;split at h
  ·cases h;exact(cK.push _ _).trans (cK.push _ _)
  cases h
 unfold Am at h;split at h
 ·rename_i hx;cases h;have hs:=ZQ hx;generalize Classical.choose hx=c at hs ⊢;subst hs;exact KN (o1:=fun b=>cn b (cU (ig (ao (dC c.o))))) (aw (fK (aw (aB aW _) aQ)) aQ) (OP c) (fun e' W' hS=>hS) (fun b n θ hb=>bJ (ax (cq hb) (ax (io (ge _) _ _ ah) aX))) (dj _)
 cases h
def kT(by_:dD):Int->List aC->Option (Int×Int)
 |_,[]=>none
 |last,x::l=>if x.id<=last then some (x.id,20)else if ez by_ x≠0 then some (x.id,ez by_ x)else kT by_ x.id l
noncomputable def vO(by_:dD):List aC->Int×Int
 |[]=>(0,0)
 |x::l=>if 1<x.dim/\fP by_ x≠0 then(x.id,fP by_ x)else vO by_ l
noncomputable def eh(o:Option (List aC)):Int×Int:=if 4000<(ao o).length then(0,2)else
 let l:=ao (dC o)
 (kT (ig l) 0 l).getD (vO (ig l) l)
theorem pq{by_:dD}:∀{l:List aC} {last:Int},kT by_ last l=none->∀x∈l,ez by_ x=0
 |[],_,_,x,hx=>by cases hx
 |y::l,last,h,x,hx=>by
  unfold kT at h;split at h
  ·cases h
  split at h
  ·cases h
  rename_i h2;rcases List.mem_cons.1 hx with rfl|hx
  ·exact Classical.byContradiction h2
  exact pq h x hx
theorem wx{by_:dD}{x:aC}(h:ez by_ x=0):(ao x.sides).length<=64:=by
 unfold ez at h;split at h
 ·contradiction
 rename_i h1;have h1:ld x=0:=Classical.byContradiction h1;unfold ld at h1;split at h1
 ·cases h1
 split at h1
 ·cases h1
 rename_i h2 h3;omega
theorem vR{k:Int}{y:aC}:∀{l:List aC} {by_:dD},(∀y,bz k by_=some y->(k,y)∈by_)->bz k (l.foldl p8 by_)=some y->y∈l\/(k,y)∈by_
 |[],by_,_,h=>.inr (iK h)
 |x::l,by_,h0,h=>by
  rw[aaR]at h;rcases vR (fun y h=>iK h) h with q|q
  ·exact .inl (aal _ q)
  unfold p8 at q;split at q
  ·exact .inr q
  rcases rj q with q|q
  ·cases q;exact .inl aaf
  exact .inr q
theorem FS{l:List aC}(h:kT (ig l) 0 l=none){x:aC}(hx:x∈l):CX (ig l) x where
 n:=wx (pq h x hx)
 y:=fun k=>by
  unfold FA;cases hg:bz k (ig l)with
  |none=>exact Z3 _
  |some y=>
   rcases vR (l:=l) (by_:=[]) (fun y h=>by cases h) hg with q|q
   ·exact wx (pq h y q)
   cases q
theorem JE{by_:dD}{p:PP dD}{xs:List Value}{W:XW}{w b:Nat}{v:Value}(h0:W.get w=some (cn b (cU by_)))(h1:W.get b=some (cu by_))(hwb:w≠b)(hp:p xs by_=some (v,by_,.rd)):ic sS p (.pointer (some ⟨w,0,none⟩)::xs) W=some (.ret v,W):=by
 have h:mu sS W w b by_:=⟨h0,fun o ho=>by cases ho;exact⟨h1,hwb⟩⟩;rw[qk h (by rw[hp];intro v a' e;cases e),hp];rfl
noncomputable def KE:List (FuncId×HF):=[(62,Am),(33,bu (cN lK fun c=>jP (dC c.o))),(63,ic sS rA),(64,ic sS mC)]
theorem dx:dv Tryz.prog (cE KE []):=⟨mixed,bU (.cons _ _ _ XE (.cons _ _ _ He (.cons _ _ _ RX (.cons _ _ _ MD .nil)))) .nil⟩
structure Zd(by_:dD)(l:List aC) where
 i:Nat
 last:Int
 h:i<=l.length
 eq:kT by_ last (l.drop i)=kT by_ 0 l
structure ZG(by_:dD)(l:List aC) where
 i:Nat
 h:i<=l.length
 eq:vO by_ (l.drop i)=vO by_ l
set_option maxHeartbeats 2000000 in
theorem Gg(c:CQ):aN Tryz.prog 32 (lK c) (wd [] 0 [] 0) fun e W'=>e=.ret (.tuple #[.int .i64 (eh c.o).1,.int .i64 (eh c.o).2]):=by
 have hoc:bk (al an c.o)=true:=bL c.o;have hg:∀W,bu (cN lK fun c=>jP (dC c.o)) [.agg #[al an c.o]] W=some (.ret (.agg #[al an (dC c.o)]),W):=fun W=>CO c.sm c.hs
 have hgo:∀W,Am [.agg #[al an c.o]] W=some (.ret (.pointer (some ⟨W.next,0,none⟩)),(W.push (cn (W.next+1) (cU (ig (ao (dC c.o)))))).push (cu (ig (ao (dC c.o))))):=fun W=>Vb c.sm c.hs
 obtain⟨l,hl⟩:∃l,l=dC c.o:=⟨_,rfl⟩;obtain⟨by_,hby⟩:∃b,b=ig (ao l):=⟨_,rfl⟩;rw[<-hl]at hg hgo;rw[<-hby]at hgo;have hlen:(ao l).length=(ao c.o).length:=by
  rw[hl];unfold dC ao l4;cases c.o with
  |none=>rfl
  |some k=>simp[cZ]
 have hol:bk (al an l)=true:=bL l;have hoi:bk (cU by_)=true:=qQ _;show aN _ _ [.agg #[al an c.o]] _ _;refine be dx Tryz.func32 rfl (Nat.le_of_ble_eq_true rfl) ?_;simp only[aY.eq_1,aY.eq_2,bf,Tryz.ntmps32,reduceAdd];refine ae (ac (e:=?e1) (s':=?s1) dx ?h1 ?q1)
 case h1=>simp(disch:=decide) only[hoc,go_sem];all_goals rfl
 refine ae ?_;by_cases hbig:4000<(ao c.o).length
 ·have hb1:decide (((ao c.o).length:Int)>4000)=true:=decide_eq_true (by omega);have hck:eh c.o=(0,2):=by unfold eh;rw[if_pos hbig]
  rw[hck];refine ae (ac (e:=?e2) (s':=?s2) dx ?h2 ?q2)
  case h2=>simp(disch:=decide) only[hoc,da,hb1,go_sem];all_goals rfl
  refine aZ (by simp(disch:=first|decide|omega) only[go_sem]<;>with_reducible rfl) ?_;refine ae (ac (e:=?e4) (s':=?s4) dx ?h4 ?q4)
  case h4=>simp(disch:=decide) only[go_sem];all_goals rfl
  refine bh ?_;refine⟨_,?e5,?W5,rfl,?h5,?q5⟩
  case h5=>simp(disch:=decide) only[Tryz.results32,go_sem];all_goals rfl
  rfl
 have hb1:decide (((ao c.o).length:Int)>4000)=false:=decide_eq_false (by omega);have hck:eh c.o=(kT by_ 0 (ao l)).getD (vO by_ (ao l)):=by unfold eh;rw[if_neg hbig,<-hl,hby]
 obtain⟨R1,hR1⟩:∃r,r=kT by_ 0 (ao l):=⟨_,rfl⟩;obtain⟨R2,hR2⟩:∃r,r=vO by_ (ao l):=⟨_,rfl⟩;rw[hck,<-hR1,<-hR2];refine ae (ac (e:=?e6) (s':=?s6) dx ?h6 ?q6)
 case h6=>simp(disch:=decide) only[hoc,da,hb1,go_sem];all_goals rfl
 refine aO (by simp(disch:=first|decide|omega) only[go_sem]<;>with_reducible rfl) ?_;refine aH ?_;show bA _ _ _ _ _ _;refine ae (ac (e:=?e8) (s':=?s8) dx ?h8 ?q8)
 case h8=>simp(disch:=decide) only[KE,hgo,hoc,go_sem];all_goals rfl
 refine ae (ac (e:=?e9) (s':=?s9) dx ?h9 ?q9)
 case h9=>simp(disch:=decide) only[KE,hg,hoc,hol,go_sem];all_goals rfl
 refine ae ?_;refine ae (ac (e:=?e10) (s':=?s10) dx ?h10 ?q10)
 case h10=>simp(disch:=decide) only[da,go_sem];all_goals rfl
 obtain⟨n,hn⟩:∃n,n=(ao l).length:=⟨_,rfl⟩;have hn4:n<=4000:=by omega
 rw[<-hn];refine aD ?_;refine aU (s':=⟨aI [(1,some (.pointer (some ⟨0,0,none⟩))),(4,some (.pointer (some ⟨1,0,none⟩))),(6,some (al an l)),(22,some (al an l)),(23,some (.int .i64 (n:Int))),(24,some (.int .i64 (((0:Nat):Int)))),(5,some (.int .i64 (((0:Nat):Int))))],wd [(0,some (.cells [al an c.o] 40 (0,0))),(1,some (cn 2 (cU by_))),(2,some (cu by_))] 3 [] 0,[]⟩) (ak (by simp(disch:=decide) [ai,ab,aa,ag]) (by simp(disch:=decide) [ai,ab,aa,ag]) (by decide)) ?_;refine bw (α:=Zd by_ (ao l)) (fun y=>⟨aI [(1,some (.pointer (some ⟨0,0,none⟩))),(4,some (.pointer (some ⟨1,0,none⟩))),(6,some (al an l)),(22,some (al an l)),(23,some (.int .i64 (n:Int))),(24,some (.int .i64 ((y.i:Int)))),(5,some (.int .i64 (y.last)))],wd [(0,some (.cells [al an c.o] 40 (0,0))),(1,some (cn 2 (cU by_))),(2,some (cu by_))] 3 [] 0,[]⟩) (fun y=>n-y.i) ?_ ⟨0,0,Z3 _,rfl⟩;intro ⟨i,last,hi,heq⟩;rw[<-hR1]at heq;simp only;rw[<-hn]at hi;by_cases hlt:i<n
 ·have hlt2:i<(ao l).length:=by omega
  obtain⟨x,hx⟩:∃x,x=(ao l)[i]:=⟨_,rfl⟩;have hix:∀j,dB Tryz.prog (some (.slice 58)) (some (al an l)) (some (.int j ((i:Nat):Int)))=some (.val (some (FP [.int .i64 x.id,.int .i64 x.dim,al az x.sides]))):=fun j=>by rw[hx];exact xx hlt2
  have hos:bk (al az x.sides)=true:=bL _;have hnxt:(ao l).drop i=x::(ao l).drop (i+1):=by rw[hx];exact aac hlt2
  rw[hnxt]at heq;unfold kT at heq;refine ae (ac (e:=?e11) (s':=?s11) dx ?h11 ?q11)
  case h11=>simp(disch:=decide) only[go_sem];all_goals rfl
  refine ae (aZ (by simp(disch:=first|decide|omega) only[go_sem]<;>with_reducible rfl) ?_);refine aH ?_;refine ae (aD ?_);refine ae (ac (e:=?e13) (s':=?s13) dx ?h13 ?q13)
  case h13=>simp(disch:=decide) only[hix,hos,fB,go_sem];all_goals rfl
  refine ae ?_;by_cases hle:x.id<=last
  ·rw[if_pos hle]at heq;have hb2:decide (x.id<=last)=true:=decide_eq_true hle;rw[<-heq];refine ae (ac (e:=?e14) (s':=?s14) dx ?h14 ?q14)
   case h14=>simp(disch:=decide) only[hb2,go_sem];all_goals rfl
   refine aZ ?h15 ?q15
   case h15=>simp(disch:=decide) only[go_sem];all_goals rfl
   refine ae (ac (e:=?e16) (s':=?s16) dx ?h16 ?q16)
   case h16=>simp(disch:=decide) only[go_sem];all_goals rfl
   refine bh ?_;refine⟨_,?e17,?W17,rfl,?h17,?q17⟩
   case h17=>simp(disch:=decide) only[Tryz.results32,go_sem];all_goals rfl
   rfl
  rw[if_neg hle]at heq;have hb2:decide (x.id<=last)=false:=decide_eq_false hle;refine ae (ac (e:=?e18) (s':=?s18) dx ?h18 ?q18)
  case h18=>simp(disch:=decide) only[hb2,go_sem];all_goals rfl
  refine aO ?h19 ?q19
  case h19=>simp(disch:=decide) only[go_sem];all_goals rfl
  refine aH ?_;show bA _ _ _ _ _ _;refine ae (ac (e:=?e20) (s':=?s20) dx ?h20 ?q20)
  case h20=>simp(disch:=decide) only[go_sem];all_goals rfl
  refine aU (s':=⟨aI [(1,some (.pointer (some ⟨0,0,none⟩))),(4,some (.pointer (some ⟨1,0,none⟩))),(6,some (al an l)),(22,some (al an l)),(23,some (.int .i64 (n:Int))),(24,some (.int .i64 (i:Int))),(5,some (.int .i64 x.id)),(8,some (.pointer (some ⟨3,0,none⟩)))],wd [(0,some (.cells [al an c.o] 40 (0,0))),(1,some (cn 2 (cU by_))),(2,some (cu by_)),(3,some (.cells [.int .i64 x.id,.int .i64 x.dim,al az x.sides] 58 (0,0)))] 4 [] 0,[]⟩) (ak (by simp(disch:=decide) [ai,ab,aa,ag]) (by simp(disch:=decide) [ai,ab,aa,ag]) (by decide)) ?_;have hgF:ic sS rA [.pointer (some ⟨1,0,none⟩),.agg #[.int .i64 x.id,.int .i64 x.dim,al az x.sides]] (wd [(0,some (.cells [al an c.o] 40 (0,0))),(1,some (cn 2 (cU by_))),(2,some (cu by_)),(3,some (.cells [.int .i64 x.id,.int .i64 x.dim,al az x.sides] 58 (0,0)))] 4 [] 0)=some (.ret (.int .i64 (ez by_ x)),wd [(0,some (.cells [al an c.o] 40 (0,0))),(1,some (cn 2 (cU by_))),(2,some (cu by_)),(3,some (.cells [.int .i64 x.id,.int .i64 x.dim,al az x.sides] 58 (0,0)))] 4 [] 0):=JE (b:=2) rfl rfl (by decide) Mm;refine ae (ac (e:=?e21) (s':=?s21) dx ?h21 ?q21)
  case h21=>simp(disch:=decide) only[KE,hgF,hos,go_sem];all_goals rfl
  by_cases hf0:ez by_ x=0
  ·have hb3:(ez by_ x !=((0:Nat):Int))=false:=li hf0;rw[if_neg (fun h=>h hf0)]at heq;refine ae (ac (e:=?e22) (s':=?s22) dx ?h22 ?q22)
   case h22=>simp(disch:=decide) only[hb3,go_sem];all_goals rfl
   refine aO (by simp(disch:=decide) only[go_sem]<;>with_reducible rfl) ?_;refine aH ?_;show bA _ _ _ _ _ _;refine ac dx (by simp(disch:=first|decide|omega) only[go_sem]<;>with_reducible rfl) ?_;refine⟨⟨i+1,x.id,by omega,by rw[heq,hR1]⟩,by simp only;omega,?_⟩;simp only;exact aV [(0,some 0),(1,some 1),(2,some 2)] [(0,some 0),(1,some 1),(2,some 2)] (by decide) (by decide) (by decide)
    (af (v:=.pointer (some ⟨0,0,none⟩)) (by decide) (by simp(disch:=first|decide|omega) only[ab,aa]) (ay (by simp(disch:=first|decide|omega) only[ab,aa])) (af (v:=.pointer (some ⟨1,0,none⟩)) (by decide) (by simp(disch:=first|decide|omega) only[ab,aa]) (ay (by simp(disch:=first|decide|omega) only[ab,aa])) (af (v:=al an l) (by decide) (by simp(disch:=first|decide|omega) only[ab,aa]) (aB aW l _ ah) (af (v:=al an l) (by decide) (by simp(disch:=first|decide|omega) only[ab,aa]) (aB aW l _ ah) (af (v:=.int .i64 ((n:Int))) (by decide) (by simp(disch:=first|decide|omega) only[ab,aa]) (ar 1 rfl) (af (v:=.int .i64 (((i+1:Nat):Int))) (by decide) (by simp(disch:=first|decide|omega) only[ab,aa]) (ar 1 rfl) (af (v:=.int .i64 (x.id)) (by decide) (by simp(disch:=first|decide|omega) only[ab,aa]) (ar 1 rfl) aR)))))))
    (aj 0 rfl (by decide) (by decide) rfl (aq ah (bc (aw (aB aW _) aQ))) (aj 1 rfl (by decide) (by decide) rfl (bJ (ax (cq rfl) (ax (io (ge by_) _ _ ah) aX))) (aj 2 rfl (by decide) (by decide) rfl (aq ah (dj _)) bj))) .nil
  have hb3:(ez by_ x !=((0:Nat):Int))=true:=jK hf0;rw[if_pos hf0]at heq;rw[<-heq];refine ae (ac (e:=?e25) (s':=?s25) dx ?h25 ?q25)
  case h25=>simp(disch:=decide) only[hb3,go_sem];all_goals rfl
  refine aZ ?h26 ?q26
  case h26=>simp(disch:=decide) only[go_sem];all_goals rfl
  refine ae (ac (e:=?e27) (s':=?s27) dx ?h27 ?q27)
  case h27=>simp(disch:=decide) only[go_sem];all_goals rfl
  refine bh ?_;refine⟨_,?e28,?W28,rfl,?h28,?q28⟩
  case h28=>simp(disch:=decide) only[Tryz.results32,go_sem];all_goals rfl
  rfl
 have ei:i=(ao l).length:=by omega
 rw[Z5 (by omega)]at heq;replace heq:none=R1:=heq;have hfew:∀x∈ao l,CX by_ x:=fun x hx=>by rw[hby];exact FS (by rw[<-hby,<-hR1,<-heq]) hx
 refine ae (ac (e:=?e29) (s':=?s29) dx ?h29 ?q29)
 case h29=>simp(disch:=decide) only[go_sem];all_goals rfl
 refine ae (aO (by simp(disch:=first|decide|omega) only[go_sem]<;>with_reducible rfl) ?_);refine bp ?_;show bA _ _ _ _ _ _;refine ae ?_;refine ae (ac (e:=?e31) (s':=?s31) dx ?h31 ?q31)
 case h31=>simp(disch:=decide) only[da,go_sem];all_goals rfl
 rw[<-hn,<-heq];refine aD ?_;refine aU (s':=⟨aI [(1,some (.pointer (some ⟨0,0,none⟩))),(4,some (.pointer (some ⟨1,0,none⟩))),(6,some (al an l)),(45,some (al an l)),(46,some (.int .i64 (n:Int))),(47,some (.int .i64 (((0:Nat):Int))))],wd [(0,some (.cells [al an c.o] 40 (0,0))),(1,some (cn 2 (cU by_))),(2,some (cu by_))] 3 [] 0,[]⟩) (ak (by simp(disch:=decide) [ai,ab,aa,ag]) (by simp(disch:=decide) [ai,ab,aa,ag]) (by decide)) ?_;refine bw (α:=ZG by_ (ao l)) (fun y=>⟨aI [(1,some (.pointer (some ⟨0,0,none⟩))),(4,some (.pointer (some ⟨1,0,none⟩))),(6,some (al an l)),(45,some (al an l)),(46,some (.int .i64 (n:Int))),(47,some (.int .i64 ((y.i:Int))))],wd [(0,some (.cells [al an c.o] 40 (0,0))),(1,some (cn 2 (cU by_))),(2,some (cu by_))] 3 [] 0,[]⟩) (fun y=>n-y.i) ?_ ⟨0,Z3 _,rfl⟩;intro ⟨i,hi,heq⟩;rw[<-hR2]at heq;simp only;rw[<-hn]at hi;by_cases hlt:i<n
 ·have hlt2:i<(ao l).length:=by omega
  obtain⟨x,hx⟩:∃x,x=(ao l)[i]:=⟨_,rfl⟩;have hix:∀j,dB Tryz.prog (some (.slice 58)) (some (al an l)) (some (.int j ((i:Nat):Int)))=some (.val (some (FP [.int .i64 x.id,.int .i64 x.dim,al az x.sides]))):=fun j=>by rw[hx];exact xx hlt2
  have hos:bk (al az x.sides)=true:=bL _;have hnxt:(ao l).drop i=x::(ao l).drop (i+1):=by rw[hx];exact aac hlt2
  have hxm:x∈ao l:=by rw[hx];exact aay hlt2
  rw[hnxt]at heq;unfold vO at heq;refine ae (ac (e:=?e32) (s':=?s32) dx ?h32 ?q32)
  case h32=>simp(disch:=decide) only[go_sem];all_goals rfl
  refine ae (aZ (by simp(disch:=first|decide|omega) only[go_sem]<;>with_reducible rfl) ?_);refine aH ?_;refine ae (aD ?_);refine ae (ac (e:=?e34) (s':=?s34) dx ?h34 ?q34)
  case h34=>simp(disch:=decide) only[hix,hos,fB,go_sem];all_goals rfl
  by_cases hd:1<x.dim
  ·have hb2:decide (x.dim>1)=true:=decide_eq_true hd;refine ae (ac (e:=?e35) (s':=?s35) dx ?h35 ?q35)
   case h35=>simp(disch:=decide) only[hb2,go_sem];all_goals rfl
   refine aZ (by simp(disch:=first|decide|omega) only[go_sem]<;>with_reducible rfl) ?_;refine aU (s':=⟨aI [(1,some (.pointer (some ⟨0,0,none⟩))),(4,some (.pointer (some ⟨1,0,none⟩))),(6,some (al an l)),(45,some (al an l)),(46,some (.int .i64 (n:Int))),(47,some (.int .i64 ((i:Int)))),(11,some (.pointer (some ⟨3,0,none⟩)))],wd [(0,some (.cells [al an c.o] 40 (0,0))),(1,some (cn 2 (cU by_))),(2,some (cu by_)),(3,some (.cells [.int .i64 x.id,.int .i64 x.dim,al az x.sides] 58 (0,0)))] 4 [] 0,[]⟩) (ak (by simp(disch:=decide) [ai,ab,aa,ag]) (by simp(disch:=decide) [ai,ab,aa,ag]) (by decide)) ?_;have hgA:ic sS mC [.pointer (some ⟨1,0,none⟩),.agg #[.int .i64 x.id,.int .i64 x.dim,al az x.sides]] (wd [(0,some (.cells [al an c.o] 40 (0,0))),(1,some (cn 2 (cU by_))),(2,some (cu by_)),(3,some (.cells [.int .i64 x.id,.int .i64 x.dim,al az x.sides] 58 (0,0)))] 4 [] 0)=some (.ret (.int .i64 (fP by_ x)),wd [(0,some (.cells [al an c.o] 40 (0,0))),(1,some (cn 2 (cU by_))),(2,some (cu by_)),(3,some (.cells [.int .i64 x.id,.int .i64 x.dim,al az x.sides] 58 (0,0)))] 4 [] 0):=JE (b:=2) rfl rfl (by decide) (FO (hfew x hxm));refine ae (ac (e:=?e37) (s':=?s37) dx ?h37 ?q37)
   case h37=>simp(disch:=decide) only[KE,hgA,hos,go_sem];all_goals rfl
   by_cases hf0:fP by_ x=0
   ·have hb3:(fP by_ x !=((0:Nat):Int))=false:=li hf0;rw[if_neg (fun h=>h.2 hf0)]at heq;refine ae (ac (e:=?e38) (s':=?s38) dx ?h38 ?q38)
    case h38=>simp(disch:=decide) only[hb3,go_sem];all_goals rfl
    refine aO (by simp(disch:=decide) only[go_sem]<;>with_reducible rfl) ?_;refine aH ?_;show bA _ _ _ _ _ _;refine ac dx (by simp(disch:=first|decide|omega) only[go_sem]<;>with_reducible rfl) ?_;refine⟨⟨i+1,by omega,by rw[heq,hR2]⟩,by simp only;omega,?_⟩;simp only;exact aV [(0,some 0),(1,some 1),(2,some 2)] [(0,some 0),(1,some 1),(2,some 2)] (by decide) (by decide) (by decide)
     (af (v:=.pointer (some ⟨0,0,none⟩)) (by decide) (by simp(disch:=first|decide|omega) only[ab,aa]) (ay (by simp(disch:=first|decide|omega) only[ab,aa])) (af (v:=.pointer (some ⟨1,0,none⟩)) (by decide) (by simp(disch:=first|decide|omega) only[ab,aa]) (ay (by simp(disch:=first|decide|omega) only[ab,aa])) (af (v:=al an l) (by decide) (by simp(disch:=first|decide|omega) only[ab,aa]) (aB aW l _ ah) (af (v:=al an l) (by decide) (by simp(disch:=first|decide|omega) only[ab,aa]) (aB aW l _ ah) (af (v:=.int .i64 ((n:Int))) (by decide) (by simp(disch:=first|decide|omega) only[ab,aa]) (ar 1 rfl) (af (v:=.int .i64 (((i+1:Nat):Int))) (by decide) (by simp(disch:=first|decide|omega) only[ab,aa]) (ar 1 rfl) aR))))))
     (aj 0 rfl (by decide) (by decide) rfl (aq ah (bc (aw (aB aW _) aQ))) (aj 1 rfl (by decide) (by decide) rfl (bJ (ax (cq rfl) (ax (io (ge by_) _ _ ah) aX))) (aj 2 rfl (by decide) (by decide) rfl (aq ah (dj _)) bj))) .nil
   have hb3:(fP by_ x !=((0:Nat):Int))=true:=jK hf0;rw[if_pos ⟨hd,hf0⟩]at heq;rw[<-heq];refine ae (ac (e:=?e41) (s':=?s41) dx ?h41 ?q41)
   case h41=>simp(disch:=decide) only[hb3,go_sem];all_goals rfl
   refine aZ ?h42 ?q42
   case h42=>simp(disch:=decide) only[go_sem];all_goals rfl
   refine ae (ac (e:=?e43) (s':=?s43) dx ?h43 ?q43)
   case h43=>simp(disch:=decide) only[go_sem];all_goals rfl
   refine bh ?_;refine⟨_,?e44,?W44,rfl,?h44,?q44⟩
   case h44=>simp(disch:=decide) only[Tryz.results32,go_sem];all_goals rfl
   rfl
  have hb2:decide (x.dim>1)=false:=decide_eq_false hd;rw[if_neg (fun h=>hd h.1)]at heq;refine ae (ac dx (by simp(disch:=decide) only[hb2,go_sem]<;>with_reducible rfl) ?_);refine aO (by simp(disch:=first|decide|omega) only[go_sem]<;>with_reducible rfl) ?_;refine aH ?_;show bA _ _ _ _ _ _;refine ac dx (by simp(disch:=first|decide|omega) only[go_sem]<;>with_reducible rfl) ?_;refine⟨⟨i+1,by omega,by rw[heq,hR2]⟩,by simp only;omega,?_⟩;simp only;exact aV [(0,some 0),(1,some 1),(2,some 2)] [(0,some 0),(1,some 1),(2,some 2)] (by decide) (by decide) (by decide)
   (af (v:=.pointer (some ⟨0,0,none⟩)) (by decide) (by simp(disch:=first|decide|omega) only[ab,aa]) (ay (by simp(disch:=first|decide|omega) only[ab,aa])) (af (v:=.pointer (some ⟨1,0,none⟩)) (by decide) (by simp(disch:=first|decide|omega) only[ab,aa]) (ay (by simp(disch:=first|decide|omega) only[ab,aa])) (af (v:=al an l) (by decide) (by simp(disch:=first|decide|omega) only[ab,aa]) (aB aW l _ ah) (af (v:=al an l) (by decide) (by simp(disch:=first|decide|omega) only[ab,aa]) (aB aW l _ ah) (af (v:=.int .i64 ((n:Int))) (by decide) (by simp(disch:=first|decide|omega) only[ab,aa]) (ar 1 rfl) (af (v:=.int .i64 (((i+1:Nat):Int))) (by decide) (by simp(disch:=first|decide|omega) only[ab,aa]) (ar 1 rfl) aR))))))
   (aj 0 rfl (by decide) (by decide) rfl (aq ah (bc (aw (aB aW _) aQ))) (aj 1 rfl (by decide) (by decide) rfl (bJ (ax (cq rfl) (ax (io (ge by_) _ _ ah) aX))) (aj 2 rfl (by decide) (by decide) rfl (aq ah (dj _)) bj))) .nil
 rw[Z5 (by omega)]at heq;have heq:(0,0)=R2:=heq;rw[<-heq];refine ae (ac (e:=?e48) (s':=?s48) dx ?h48 ?q48)
 case h48=>simp(disch:=decide) only[go_sem];all_goals rfl
 refine ae (aO (by simp(disch:=first|decide|omega) only[go_sem]<;>with_reducible rfl) ?_);refine bp ?_;show bA _ _ _ _ _ _;refine ae (ac (e:=?e50) (s':=?s50) dx ?h50 ?q50)
 case h50=>simp(disch:=decide) only[go_sem];all_goals rfl
 refine bh ?_;refine⟨_,?e51,?W51,rfl,?h51,?q51⟩
 case h51=>simp(disch:=decide) only[Tryz.results32,go_sem];all_goals rfl
 rfl
def Cv(o:Option (List aC))(f:Option (List aC)->Int×Int):Value:=.tuple #[.int .i64 (f o).1,.int .i64 (f o).2]
theorem Vv:bD Tryz.prog 32 (bu (cN lK fun c=>Cv c.o eh)):=fa (enters_of (by kernel_rfl)) (fun c=>aw (fK (aw (aB aW _) aQ)) aQ) (fun c=>fp (aw (aG 1 rfl) (aw (aG 1 rfl) aQ))) Gg
theorem Ry{o:Option (List aC)}{W:XW}(sm:small o)(hs:∀x∈ao o,small x.sides):bu (cN lK fun c=>Cv c.o eh) [.agg #[al an o]] W=some (.ret (Cv o eh),W):=eu (enc:=lK) (a:=⟨o,sm,hs⟩) fun b h=>by
 injection h with h _;rw[uY h]
end Go.Proofs.YthlkgmdkabelpaaGreat.X
