/-
  Packed by program (tools/pack.py) out of the texts UKC5 UKD5 UK2 UKC6 UKD6 UKC7 UKD7 UK3 UK4 UK5 UK6. No condition.
-/
import Derived.Test.YthlkgmdkabelpaaGreatNG
import Derived.Test.YthlkgmdkabelpaaGreatNF
set_option linter.all false
open Nat(reduceAdd reduceMul reduceSub)
namespace Go.Proofs.YthlkgmdkabelpaaGreat.X
open Go Go.RowKit Go.Proofs.YthlkgmdkabelpaaGreat.St
set_option maxHeartbeats 2000000 in
theorem XD{N:Nat}(ih:∀(l:List aC) (a m b cap:Nat),sV l a m b->b-a<N->aN Tryz.prog 140 (nr 0 (a,m,b,cap) l) (wd [(0,some (aS l))] 1 [] 0) fun e W'=>e=.ret u0/\W'.get 0=some (aS (bH bi l a b)))(l:List aC)(a m b cap:Nat)(hg:sV l a m b)(hN:b-a<N+1)(hm1:m≠a+1)(hm2:b≠m+1):aN Tryz.prog 140 (nr 0 (a,m,b,cap) l) (wd [(0,some (aS l))] 1 [] 0) fun e W'=>e=.ret u0/\W'.get 0=some (aS (bH bi l a b)):=by
 have hB:dv Tryz.prog (cE (sY N) []):=⟨mixed,bU (.cons _ _ _ xE (.cons _ _ _ G8 (.cons _ _ _ (M6 ih) .nil))) .nil⟩;obtain⟨n,hnl⟩:∃n,n=l.length:=⟨_,rfl⟩;obtain⟨am,mb,hb,hbig,s1,s2⟩:=hg;have hn:=hbig;unfold fE at hn;have hoc:bk bT=true:=rfl;show aN _ _ [.slice (some ⟨0,0,none⟩) l.length cap,.int .i64 (a:Int),.int .i64 (m:Int),.int .i64 (b:Int),bT] _ _;rw[<-hnl];refine be hB Tryz.func140 rfl (Nat.le_of_ble_eq_true rfl) ?_;simp only[aY.eq_1,aY.eq_2,bf,Tryz.ntmps140,reduceAdd];have q1:IntKind.i64.wrap ((m:Int)-(a:Int))=((m-a:Nat):Int):=by rw[wrap_i64 (by omega) (by omega)];omega
 have q2:IntKind.i64.wrap ((b:Int)-(m:Int))=((b-m:Nat):Int):=by rw[wrap_i64 (by omega) (by omega)];omega
 have hx1:(((m-a:Nat):Int)==((1:Nat):Int))=false:=by simp;omega
 have hx2:(((b-m:Nat):Int)==((1:Nat):Int))=false:=by simp;omega
 refine ae ?_;refine ae (ac (e:=?e1) (s':=?s1) hB ?h1 ?q1)
 case h1=>simp(disch:=decide) only[hoc,q1,hx1,go_sem];all_goals rfl
 refine aO ?h2 ?q2
 case h2=>simp(disch:=decide) only[go_sem];all_goals rfl
 refine aH ?_;refine ae ?_;refine ae (ac (e:=?e3) (s':=?s3) hB ?h3 ?q3)
 case h3=>simp(disch:=decide) only[hoc,q2,hx2,go_sem];all_goals rfl
 refine aO ?h4 ?q4
 case h4=>simp(disch:=decide) only[go_sem];all_goals rfl
 refine aH ?_;obtain⟨mid,hmid⟩:∃mid,mid=(a+b)/2:=⟨_,rfl⟩;obtain⟨lo,hlo⟩:∃lo,lo=if mid<m then mid+m-b else a:=⟨_,rfl⟩
 obtain⟨hi,hhi⟩:∃hi,hi=if mid<m then mid else m:=⟨_,rfl⟩
 have b1:a<=lo:=by split at hlo<;>omega
 have b2:lo<=hi:=by split at hlo<;>split at hhi<;>omega
 have b3:hi<=mid:=by split at hhi<;>omega
 have b4:hi<=m:=by split at hhi<;>omega
 have b5:mid+m<=b+lo:=by split at hlo<;>omega
 refine ae (ac hB (by simp(disch:=first|decide|omega) only[hoc,go_sem]<;>with_reducible rfl) ?_);refine aU (s':=⟨aI [(0,some (.slice (some ⟨0,0,none⟩) n cap)),(1,some (.int .i64 (a:Int))),(2,some (.int .i64 (m:Int))),(3,some (.int .i64 (b:Int))),(4,some bT),(18,some (.int .i64 (mid:Int)))],wd [(0,some (aS l))] 1 [] 0,[]⟩) (by rw[hmid];exact ak (by simp(disch:=decide) [ai,ab,aa,ag,bT]) (by simp(disch:=decide) [ai,ab,aa,ag,aS]) (by decide)) ?_;refine ae (ac (e:=?e6) (s':=?s6) hB ?h6 ?q6)
 case h6=>simp(disch:=decide) only[hoc,go_sem];all_goals rfl
 refine ae (ac (e:=?e7) (s':=?s7) hB ?h7 ?q7)
 case h7=>simp(disch:=decide) only[hoc,go_sem];all_goals rfl
 refine jy ⟨aI [(0,some (.slice (some ⟨0,0,none⟩) n cap)),(1,some (.int .i64 (a:Int))),(2,some (.int .i64 (m:Int))),(3,some (.int .i64 (b:Int))),(4,some bT),(18,some (.int .i64 (mid:Int))),(19,some (.int .i64 ((mid+m:Nat):Int))),(20,some (.int .i64 (lo:Int))),(21,some (.int .i64 (hi:Int)))],wd [(0,some (aS l))] 1 [] 0,[]⟩ ?hcA ?qcA
 case hcA=>
  by_cases hmm:mid<m
  ·have e1:lo=mid+m-b:=by rw[hlo,if_pos hmm]
   have e2:hi=mid:=by rw[hhi,if_pos hmm]
   have q4:IntKind.i64.wrap (((mid+m:Nat):Int)-(b:Int))=((mid+m-b:Nat):Int):=by rw[wrap_i64 (by omega) (by omega)];omega
   rw[e1,e2];refine ae (ac (e:=?e8) (s':=?s8) hB ?h8 ?q8)
   case h8=>simp(disch:=decide) only[hoc,go_sem];all_goals rfl
   refine aZ (by simp(disch:=first|decide|omega) only[go_sem]<;>with_reducible rfl) ?_;refine ae (ac hB (by simp(disch:=first|decide|omega) only[hoc,q4,go_sem]<;>with_reducible rfl) ?_);refine ac hB (by simp(disch:=first|decide|omega) only[hoc,go_sem]<;>with_reducible rfl) ?_;exact gQ (ak (by simp(disch:=decide) [ai,ab,aa,ag,bT]) (by simp(disch:=decide) [ai,ab,aa,ag,aS]) (by decide))
  have e1:lo=a:=by rw[hlo,if_neg hmm]
  have e2:hi=m:=by rw[hhi,if_neg hmm]
  rw[e1,e2];refine ae (ac (e:=?e12) (s':=?s12) hB ?h12 ?q12)
  case h12=>simp(disch:=decide) only[hoc,go_sem];all_goals rfl
  refine aO (by simp(disch:=first|decide|omega) only[go_sem]<;>with_reducible rfl) ?_;refine ae (ac (e:=?e14) (s':=?s14) hB ?h14 ?q14)
  case h14=>simp(disch:=decide) only[hoc,go_sem];all_goals rfl
  refine ac hB (by simp(disch:=first|decide|omega) only[hoc,go_sem]<;>with_reducible rfl) ?_;exact gQ (ak (by simp(disch:=decide) [ai,ab,aa,ag,bT]) (by simp(disch:=decide) [ai,ab,aa,ag,aS]) (by decide))
 have q5:IntKind.i64.wrap (((mid+m:Nat):Int)-((1:Nat):Int))=((mid+m-1:Nat):Int):=by rw[wrap_i64 (by omega) (by omega)];omega
 refine ae (ac (e:=?e16) (s':=?s16) hB ?h16 ?q16)
 case h16=>simp(disch:=decide) only[hoc,q5,go_sem];all_goals rfl
 refine ae ?_;refine aD ?_;refine aU (s':=⟨aI [(0,some (.slice (some ⟨0,0,none⟩) n cap)),(1,some (.int .i64 (a:Int))),(2,some (.int .i64 (m:Int))),(3,some (.int .i64 (b:Int))),(4,some bT),(18,some (.int .i64 (mid:Int))),(19,some (.int .i64 ((mid+m:Nat):Int))),(20,some (.int .i64 (lo:Int))),(21,some (.int .i64 (hi:Int))),(22,some (.int .i64 ((mid+m-1:Nat):Int)))],wd [(0,some (aS l))] 1 [] 0,[]⟩) (ak (by simp(disch:=decide) [ai,ab,aa,ag,bT]) (by simp(disch:=decide) [ai,ab,aa,ag,aS]) (by decide)) ?_;refine bw (α:=YW l (mid+m) lo hi) (fun y=>⟨aI [(0,some (.slice (some ⟨0,0,none⟩) n cap)),(1,some (.int .i64 (a:Int))),(2,some (.int .i64 (m:Int))),(3,some (.int .i64 (b:Int))),(4,some bT),(18,some (.int .i64 (mid:Int))),(19,some (.int .i64 ((mid+m:Nat):Int))),(20,some (.int .i64 (y.s:Int))),(21,some (.int .i64 (y.r:Int))),(22,some (.int .i64 ((mid+m-1:Nat):Int)))],wd [(0,some (aS l))] 1 [] 0,[]⟩) (fun y=>y.r-y.s) ?_ ⟨lo,hi,by omega,by omega,by omega,.inl rfl,.inl rfl⟩;intro ⟨s,r,h1,h2,h3,c1,c2⟩;simp only;by_cases hij:s<r
 ·obtain⟨c,hc⟩:∃c,c=(s+r)/2:=⟨_,rfl⟩;have q6:IntKind.i64.wrap (((mid+m-1:Nat):Int)-(c:Int))=((mid+m-1-c:Nat):Int):=by rw[wrap_i64 (by omega) (by omega)];omega
  refine ae ?_;refine ae (ac (e:=?e17) (s':=?s17) hB ?h17 ?q17)
  case h17=>simp(disch:=decide) only[hoc,go_sem];all_goals rfl
  refine aZ (by simp(disch:=first|decide|omega) only[go_sem]<;>with_reducible rfl) ?_;refine aH ?_;refine aD ?_;refine ae (ac hB (by simp(disch:=first|decide|omega) only[hoc,go_sem]<;>with_reducible rfl) ?_);refine aU (s':=⟨aI [(0,some (.slice (some ⟨0,0,none⟩) n cap)),(1,some (.int .i64 (a:Int))),(2,some (.int .i64 (m:Int))),(3,some (.int .i64 (b:Int))),(4,some bT),(18,some (.int .i64 (mid:Int))),(19,some (.int .i64 ((mid+m:Nat):Int))),(20,some (.int .i64 (s:Int))),(21,some (.int .i64 (r:Int))),(22,some (.int .i64 ((mid+m-1:Nat):Int))),(23,some (.int .i64 (c:Int)))],wd [(0,some (aS l))] 1 [] 0,[]⟩) (by rw[hc];exact ak (by simp(disch:=decide) [ai,ab,aa,ag,bT]) (by simp(disch:=decide) [ai,ab,aa,ag,aS]) (by decide)) ?_;by_cases hcc:dh bi l (mid+m-1-c)<dh bi l c
  ·have hk:=yW (by omega) (by omega) hcc;refine bl hB ⟨aI [(0,some (.slice (some ⟨0,0,none⟩) n cap)),(1,some (.int .i64 (a:Int))),(2,some (.int .i64 (m:Int))),(3,some (.int .i64 (b:Int))),(4,some bT),(18,some (.int .i64 (mid:Int))),(19,some (.int .i64 ((mid+m:Nat):Int))),(20,some (.int .i64 (s:Int))),(21,some (.int .i64 (r:Int))),(22,some (.int .i64 ((mid+m-1:Nat):Int))),(23,some (.int .i64 (c:Int))),(171,some (.bool false))],wd [(0,some (aS l))] 1 [] 0,[]⟩ ?hda ?qda
   case hda=>
    refine⟨?rsa,?sxa,?hxa,?kxa,?lxa⟩
    case hxa=>simp(disch:=first|decide|omega) only[aE.eq_1,aE.eq_2,cm.eq_1,bd.eq_1,bd.eq_2,hoc,aS,mf,nK,sY,bT,zz,q6,hk,go_sem]<;>with_reducible rfl
    case kxa=>kernel_rfl
    case lxa=>exact ak (by simp(disch:=decide) [ai,ab,aa,ag,bT]) (by simp(disch:=decide) [ai,ab,aa,ag,aS]) (by decide)
   refine aO ?h20 ?q20
   case h20=>simp(disch:=decide) only[go_sem];all_goals rfl
   refine ac hB (by simp(disch:=decide) only[hoc,go_sem]<;>with_reducible rfl) ?_;refine⟨⟨s,c,by omega,by omega,by omega,c1,.inr (by rw[show mid+m-c-1=mid+m-1-c by omega];exact hcc)⟩,by simp only;omega,?_⟩;exact ak (by simp(disch:=decide) [ai,ab,aa,ag,bT]) (by simp(disch:=decide) [ai,ab,aa,ag,aS]) (by decide)
  have hk:=yG (by omega) (by omega) hcc;refine bl hB ⟨aI [(0,some (.slice (some ⟨0,0,none⟩) n cap)),(1,some (.int .i64 (a:Int))),(2,some (.int .i64 (m:Int))),(3,some (.int .i64 (b:Int))),(4,some bT),(18,some (.int .i64 (mid:Int))),(19,some (.int .i64 ((mid+m:Nat):Int))),(20,some (.int .i64 (s:Int))),(21,some (.int .i64 (r:Int))),(22,some (.int .i64 ((mid+m-1:Nat):Int))),(23,some (.int .i64 (c:Int))),(171,some (.bool true))],wd [(0,some (aS l))] 1 [] 0,[]⟩ ?hdb ?qdb
  case hdb=>
   refine⟨?rsb,?sxb,?hxb,?kxb,?lxb⟩
   case hxb=>simp(disch:=first|decide|omega) only[aE.eq_1,aE.eq_2,cm.eq_1,bd.eq_1,bd.eq_2,hoc,aS,mf,nK,sY,bT,zz,q6,hk,go_sem]<;>with_reducible rfl
   case kxb=>kernel_rfl
   case lxb=>exact ak (by simp(disch:=decide) [ai,ab,aa,ag,bT]) (by simp(disch:=decide) [ai,ab,aa,ag,aS]) (by decide)
  refine aZ ?h22 ?q22
  case h22=>simp(disch:=decide) only[go_sem];all_goals rfl
  refine ac hB (by simp(disch:=first|decide|omega) only[hoc,go_sem]<;>with_reducible rfl) ?_;refine⟨⟨c+1,r,by omega,by omega,by omega,.inr (by rw[aaA,show mid+m-(c+1)=mid+m-1-c by omega];omega),c2⟩,by simp only;omega,?_⟩;exact ak (by simp(disch:=decide) [ai,ab,aa,ag,bT]) (by simp(disch:=decide) [ai,ab,aa,ag,aS]) (by decide)
 have e:s=r:=by omega
 subst e;refine ae ?_;refine ae (ac (e:=?e24) (s':=?s24) hB ?h24 ?q24)
 case h24=>simp(disch:=decide) only[hoc,go_sem];all_goals rfl
 refine aO (by simp(disch:=first|decide|omega) only[go_sem]<;>with_reducible rfl) ?_;refine bp ?_;show bA _ _ _ _ _ _;obtain⟨e,he⟩:∃e,e=mid+m-s:=⟨_,rfl⟩;obtain⟨g1,g2,g3,g4,g5,g6,t1,t2,t3,t4,teq⟩:=DK (key:=bi) (l:=l) (a:=a) (m:=m) (b:=b) (s:=s) ⟨lo,hi,hb,am,mb,by rw[hlo,hmid],by rw[hhi,hmid],h1,h3,by rw[<-hmid];exact c1,by rw[<-hmid];exact c2⟩ s1 s2 e (by rw[he,hmid]);rw[<-hmid]at g2 g6 t2 t3 teq;have hlr:(cy l s m e).length=l.length:=gj g3 g4 (by omega);have q7:IntKind.i64.wrap (((mid+m:Nat):Int)-(s:Int))=((e:Nat):Int):=by rw[wrap_i64 (by omega) (by omega)];omega
 refine ae (ac hB (by simp(disch:=decide) only[hoc,q7,go_sem]<;>with_reducible rfl) ?_);refine jy ⟨aI [(0,some (.slice (some ⟨0,0,none⟩) n cap)),(1,some (.int .i64 (a:Int))),(2,some (.int .i64 (m:Int))),(3,some (.int .i64 (b:Int))),(4,some bT),(18,some (.int .i64 (mid:Int))),(19,some (.int .i64 ((mid+m:Nat):Int))),(20,some (.int .i64 (s:Int))),(24,some (.int .i64 (e:Int)))],wd [(0,some (aS (cy l s m e)))] 1 [] 0,[]⟩ ?hcB ?qcB
 case hcB=>
  by_cases hgo:s<m/\m<e
  ·obtain⟨hg1,hg2⟩:=hgo;have hgo:dr lB ED [.slice (some ⟨0,0,none⟩) n cap,.int .i64 (s:Int),.int .i64 (m:Int),.int .i64 (e:Int),bT] (wd [(0,some (aS l))] 1 [] 0)=some (.ret u0,wd [(0,some (aS (cy l s m e))),(0,some (aS l))] 1 [0] 1):=(m8 (ik (by decide)) (Tm hg1 hg2 (by omega) hbig) hnl).trans (by simp only[di]);refine ae (ac hB (by simp(disch:=first|decide|omega) only[hoc,go_sem]<;>with_reducible rfl) ?_);refine aZ ?h28 ?q28
   case h28=>simp(disch:=decide) only[go_sem];all_goals rfl
   refine ac hB (by simp(disch:=decide) only[hoc,sY,hgo,go_sem]<;>with_reducible rfl) ?_;exact gQ (ak (by simp(disch:=decide) [ai,ab,aa,ag,bT]) (by simp(disch:=decide) [ai,ab,aa,ag,aS]) (by decide))
  have hsame:cy l s m e=l:=by
   by_cases e1:s=m
   ·subst e1;exact mL (by omega) (by omega)
   have e2:e=m:=by omega
   subst e2;exact pA (by omega) (by omega)
  rw[hsame];by_cases e1:s<m
  ·have e2:¬m<e:=fun h=>hgo ⟨e1,h⟩
   refine ae (ac hB (by simp(disch:=first|decide|omega) only[hoc,go_sem]<;>with_reducible rfl) ?_);refine aO (by simp(disch:=decide) only[go_sem]<;>with_reducible rfl) ?_;refine aH ?_;exact gQ (ak (by simp(disch:=decide) [ai,ab,aa,ag,bT]) (by simp(disch:=decide) [ai,ab,aa,ag,aS]) (by decide))
  refine ae (ac hB (by simp(disch:=first|decide|omega) only[hoc,go_sem]<;>with_reducible rfl) ?_);refine aO (by simp(disch:=decide) only[go_sem]<;>with_reducible rfl) ?_;refine aH ?_;exact gQ (ak (by simp(disch:=decide) [ai,ab,aa,ag,bT]) (by simp(disch:=decide) [ai,ab,aa,ag,aS]) (by decide))
 obtain⟨R,hR⟩:∃R,R=cy l s m e:=⟨_,rfl⟩;rw[<-hR]at t1 t2 t3 t4 teq hlr ⊢;have hl2:(bH bi R a mid).length=l.length:=by rw[ew (by omega) (by omega),hlr]
 have t3':dP bi (eU (bH bi R a mid) mid e):=by rw[ml (by omega) (by omega) (.inr (Nat.le_refl _))];exact t3
 have t4':dP bi (eU (bH bi R a mid) e b):=by rw[ml (by omega) (by omega) (.inr g6)];exact t4
 refine jy ⟨aI [(0,some (.slice (some ⟨0,0,none⟩) n cap)),(1,some (.int .i64 (a:Int))),(2,some (.int .i64 (m:Int))),(3,some (.int .i64 (b:Int))),(4,some bT),(18,some (.int .i64 (mid:Int))),(19,some (.int .i64 ((mid+m:Nat):Int))),(20,some (.int .i64 (s:Int))),(24,some (.int .i64 (e:Int)))],wd [(0,some (aS (bH bi R a mid)))] 1 [] 0,[]⟩ ?hcC ?qcC
 case hcC=>
  by_cases e1:a<s
  ·by_cases e2:s<mid
   ·have hgo:dr lB (Dz N) [.slice (some ⟨0,0,none⟩) n cap,.int .i64 (a:Int),.int .i64 (s:Int),.int .i64 (mid:Int),bT] (wd [(0,some (aS R))] 1 [] 0)=some (.ret u0,wd [(0,some (aS (bH bi R a mid))),(0,some (aS R))] 1 [0] 1):=(m8 (ik (by decide)) (Iz ⟨e1,e2,by omega,by omega,t1,t2⟩ (by omega)) (by omega)).trans (by simp only[di]);refine ae (ac hB (by simp(disch:=first|decide|omega) only[hoc,go_sem]<;>with_reducible rfl) ?_);refine aZ ?h35 ?q35
    case h35=>simp(disch:=decide) only[go_sem];all_goals rfl
    refine ac hB (by simp(disch:=decide) only[hoc,sY,hgo,go_sem]<;>with_reducible rfl) ?_;exact gQ (ak (by simp(disch:=decide) [ai,ab,aa,ag,bT]) (by simp(disch:=decide) [ai,ab,aa,ag,aS]) (by decide))
   have e3:s=mid:=by omega
   rw[is (by omega) (by omega) (by rw[<-e3];exact t1)];refine ae (ac hB (by simp(disch:=first|decide|omega) only[hoc,go_sem]<;>with_reducible rfl) ?_);refine aO (by simp(disch:=decide) only[go_sem]<;>with_reducible rfl) ?_;refine aH ?_;exact gQ (ak (by simp(disch:=decide) [ai,ab,aa,ag,bT]) (by simp(disch:=decide) [ai,ab,aa,ag,aS]) (by decide))
  have e3:s=a:=by omega
  rw[is (by omega) (by omega) (by rw[e3]at t2;exact t2)];refine ae (ac hB (by simp(disch:=first|decide|omega) only[hoc,go_sem]<;>with_reducible rfl) ?_);refine aO (by simp(disch:=decide) only[go_sem]<;>with_reducible rfl) ?_;refine aH ?_;exact gQ (ak (by simp(disch:=decide) [ai,ab,aa,ag,bT]) (by simp(disch:=decide) [ai,ab,aa,ag,aS]) (by decide))
 obtain⟨S,hS⟩:∃S,S=bH bi R a mid:=⟨_,rfl⟩;rw[<-hS]at t3' t4' teq hl2 ⊢;rw[<-teq];by_cases e1:mid<e
 ·by_cases e2:e<b
  ·have hgo:dr lB (Dz N) [.slice (some ⟨0,0,none⟩) n cap,.int .i64 (mid:Int),.int .i64 (e:Int),.int .i64 (b:Int),bT] (wd [(0,some (aS S))] 1 [] 0)=some (.ret u0,wd [(0,some (aS (bH bi S mid b))),(0,some (aS S))] 1 [0] 1):=(m8 (ik (by decide)) (Iz ⟨e1,e2,by omega,by omega,t3',t4'⟩ (by omega)) (by omega)).trans (by simp only[di]);refine ae (ac hB (by simp(disch:=first|decide|omega) only[hoc,go_sem]<;>with_reducible rfl) ?_);refine aZ ?h42 ?q42
   case h42=>simp(disch:=decide) only[go_sem];all_goals rfl
   refine ac (e:=?e43) (s':=?s43) hB ?h43 ?q43
   case h43=>simp(disch:=decide) only[hoc,sY,hgo,go_sem];all_goals rfl
   refine⟨_,?e44,?W44,rfl,?h44,?q44⟩
   case h44=>simp(disch:=decide) only[Tryz.results140,go_sem];all_goals rfl
   refine⟨rfl,?_⟩;simp(disch:=first|decide|omega) only[go_sem]
  have e3:e=b:=by omega
  rw[is (by omega) (by omega) (by rw[<-e3];exact t3')];refine ae (ac hB (by simp(disch:=first|decide|omega) only[hoc,go_sem]<;>with_reducible rfl) ?_);refine aO ?h46 ?q46
  case h46=>simp(disch:=decide) only[go_sem];all_goals rfl
  refine aH ?_;refine⟨_,?e47,?W47,rfl,?h47,?q47⟩
  case h47=>simp(disch:=decide) only[Tryz.results140,go_sem];all_goals rfl
  refine⟨rfl,?_⟩;simp(disch:=first|decide|omega) only[go_sem]
 have e3:e=mid:=by omega
 rw[is (by omega) (by omega) (by rw[e3]at t4';exact t4')];refine ae (ac hB (by simp(disch:=first|decide|omega) only[hoc,go_sem]<;>with_reducible rfl) ?_);refine aO ?h49 ?q49
 case h49=>simp(disch:=decide) only[go_sem];all_goals rfl
 refine aH ?_;refine⟨_,?e50,?W50,rfl,?h50,?q50⟩
 case h50=>simp(disch:=decide) only[Tryz.results140,go_sem];all_goals rfl
 refine⟨rfl,?_⟩;simp(disch:=decide) only[go_sem]
theorem Iu:∀(N:Nat) (l:List aC) (a m b cap:Nat),sV l a m b->b-a<N->aN Tryz.prog 140 (nr 0 (a,m,b,cap) l) (wd [(0,some (aS l))] 1 [] 0) fun e W'=>e=.ret u0/\W'.get 0=some (aS (bH bi l a b)):=by
 intro N
 induction N with
 |zero=>intro l a m b cap hg h;omega
 |succ N ih=>
  intro l a m b cap hg hN;by_cases h1:m=a+1
  ·exact Yq ih l a m b cap hg h1
  by_cases h2:b=m+1
  ·exact X6 ih l a m b cap hg h1 h2
  exact XD ih l a m b cap hg hN h1 h2
set_option maxHeartbeats 2000000 in
theorem X8{N:Nat}(ih:∀(l:List bC) (a m b cap:Nat),sL l a m b->b-a<N->aN Tryz.prog 142 (ny 0 (a,m,b,cap) l) (wd [(0,some (aT l))] 1 [] 0) fun e W'=>e=.ret u0/\W'.get 0=some (aT (bH bg l a b)))(l:List bC)(a m b cap:Nat)(hg:sL l a m b)(hN:b-a<N+1)(hm1:m≠a+1)(hm2:b≠m+1):aN Tryz.prog 142 (ny 0 (a,m,b,cap) l) (wd [(0,some (aT l))] 1 [] 0) fun e W'=>e=.ret u0/\W'.get 0=some (aT (bH bg l a b)):=by
 have hB:dv Tryz.prog (cE (sQ N) []):=⟨mixed,bU (.cons _ _ _ xH (.cons _ _ _ Hl (.cons _ _ _ (MV ih) .nil))) .nil⟩;obtain⟨n,hnl⟩:∃n,n=l.length:=⟨_,rfl⟩;obtain⟨am,mb,hb,hbig,s1,s2⟩:=hg;have hn:=hbig;unfold fE at hn;have hoc:bk bS=true:=rfl;show aN _ _ [.slice (some ⟨0,0,none⟩) l.length cap,.int .i64 (a:Int),.int .i64 (m:Int),.int .i64 (b:Int),bS] _ _;rw[<-hnl];refine be hB Tryz.func142 rfl (Nat.le_of_ble_eq_true rfl) ?_;simp only[aY.eq_1,aY.eq_2,bf,Tryz.ntmps142,reduceAdd];have q1:IntKind.i64.wrap ((m:Int)-(a:Int))=((m-a:Nat):Int):=by rw[wrap_i64 (by omega) (by omega)];omega
 have q2:IntKind.i64.wrap ((b:Int)-(m:Int))=((b-m:Nat):Int):=by rw[wrap_i64 (by omega) (by omega)];omega
 have hx1:(((m-a:Nat):Int)==((1:Nat):Int))=false:=by simp;omega
 have hx2:(((b-m:Nat):Int)==((1:Nat):Int))=false:=by simp;omega
 refine ae ?_;refine ae (ac (e:=?e1) (s':=?s1) hB ?h1 ?q1)
 case h1=>simp(disch:=decide) only[hoc,q1,hx1,go_sem];all_goals rfl
 refine aO ?h2 ?q2
 case h2=>simp(disch:=decide) only[go_sem];all_goals rfl
 refine aH ?_;refine ae ?_;refine ae (ac (e:=?e3) (s':=?s3) hB ?h3 ?q3)
 case h3=>simp(disch:=decide) only[hoc,q2,hx2,go_sem];all_goals rfl
 refine aO ?h4 ?q4
 case h4=>simp(disch:=decide) only[go_sem];all_goals rfl
 refine aH ?_;obtain⟨mid,hmid⟩:∃mid,mid=(a+b)/2:=⟨_,rfl⟩;obtain⟨lo,hlo⟩:∃lo,lo=if mid<m then mid+m-b else a:=⟨_,rfl⟩
 obtain⟨hi,hhi⟩:∃hi,hi=if mid<m then mid else m:=⟨_,rfl⟩
 have b1:a<=lo:=by split at hlo<;>omega
 have b2:lo<=hi:=by split at hlo<;>split at hhi<;>omega
 have b3:hi<=mid:=by split at hhi<;>omega
 have b4:hi<=m:=by split at hhi<;>omega
 have b5:mid+m<=b+lo:=by split at hlo<;>omega
 refine ae (ac hB (by simp(disch:=first|decide|omega) only[hoc,go_sem]<;>with_reducible rfl) ?_);refine aU (s':=⟨aI [(0,some (.slice (some ⟨0,0,none⟩) n cap)),(1,some (.int .i64 (a:Int))),(2,some (.int .i64 (m:Int))),(3,some (.int .i64 (b:Int))),(4,some bS),(18,some (.int .i64 (mid:Int)))],wd [(0,some (aT l))] 1 [] 0,[]⟩) (by rw[hmid];exact ak (by simp(disch:=decide) [ai,ab,aa,ag,bS]) (by simp(disch:=decide) [ai,ab,aa,ag,aT]) (by decide)) ?_;refine ae (ac (e:=?e6) (s':=?s6) hB ?h6 ?q6)
 case h6=>simp(disch:=decide) only[hoc,go_sem];all_goals rfl
 refine ae (ac (e:=?e7) (s':=?s7) hB ?h7 ?q7)
 case h7=>simp(disch:=decide) only[hoc,go_sem];all_goals rfl
 refine jy ⟨aI [(0,some (.slice (some ⟨0,0,none⟩) n cap)),(1,some (.int .i64 (a:Int))),(2,some (.int .i64 (m:Int))),(3,some (.int .i64 (b:Int))),(4,some bS),(18,some (.int .i64 (mid:Int))),(19,some (.int .i64 ((mid+m:Nat):Int))),(20,some (.int .i64 (lo:Int))),(21,some (.int .i64 (hi:Int)))],wd [(0,some (aT l))] 1 [] 0,[]⟩ ?hcA ?qcA
 case hcA=>
  by_cases hmm:mid<m
  ·have e1:lo=mid+m-b:=by rw[hlo,if_pos hmm]
   have e2:hi=mid:=by rw[hhi,if_pos hmm]
   have q4:IntKind.i64.wrap (((mid+m:Nat):Int)-(b:Int))=((mid+m-b:Nat):Int):=by rw[wrap_i64 (by omega) (by omega)];omega
   rw[e1,e2];refine ae (ac (e:=?e8) (s':=?s8) hB ?h8 ?q8)
   case h8=>simp(disch:=decide) only[hoc,go_sem];all_goals rfl
   refine aZ (by simp(disch:=first|decide|omega) only[go_sem]<;>with_reducible rfl) ?_;refine ae (ac hB (by simp(disch:=first|decide|omega) only[hoc,q4,go_sem]<;>with_reducible rfl) ?_);refine ac hB (by simp(disch:=first|decide|omega) only[hoc,go_sem]<;>with_reducible rfl) ?_;exact gQ (ak (by simp(disch:=decide) [ai,ab,aa,ag,bS]) (by simp(disch:=decide) [ai,ab,aa,ag,aT]) (by decide))
  have e1:lo=a:=by rw[hlo,if_neg hmm]
  have e2:hi=m:=by rw[hhi,if_neg hmm]
  rw[e1,e2];refine ae (ac (e:=?e12) (s':=?s12) hB ?h12 ?q12)
  case h12=>simp(disch:=decide) only[hoc,go_sem];all_goals rfl
  refine aO (by simp(disch:=first|decide|omega) only[go_sem]<;>with_reducible rfl) ?_;refine ae (ac (e:=?e14) (s':=?s14) hB ?h14 ?q14)
  case h14=>simp(disch:=decide) only[hoc,go_sem];all_goals rfl
  refine ac hB (by simp(disch:=first|decide|omega) only[hoc,go_sem]<;>with_reducible rfl) ?_;exact gQ (ak (by simp(disch:=decide) [ai,ab,aa,ag,bS]) (by simp(disch:=decide) [ai,ab,aa,ag,aT]) (by decide))
 have q5:IntKind.i64.wrap (((mid+m:Nat):Int)-((1:Nat):Int))=((mid+m-1:Nat):Int):=by rw[wrap_i64 (by omega) (by omega)];omega
 refine ae (ac (e:=?e16) (s':=?s16) hB ?h16 ?q16)
 case h16=>simp(disch:=decide) only[hoc,q5,go_sem];all_goals rfl
 refine ae ?_;refine aD ?_;refine aU (s':=⟨aI [(0,some (.slice (some ⟨0,0,none⟩) n cap)),(1,some (.int .i64 (a:Int))),(2,some (.int .i64 (m:Int))),(3,some (.int .i64 (b:Int))),(4,some bS),(18,some (.int .i64 (mid:Int))),(19,some (.int .i64 ((mid+m:Nat):Int))),(20,some (.int .i64 (lo:Int))),(21,some (.int .i64 (hi:Int))),(22,some (.int .i64 ((mid+m-1:Nat):Int)))],wd [(0,some (aT l))] 1 [] 0,[]⟩) (ak (by simp(disch:=decide) [ai,ab,aa,ag,bS]) (by simp(disch:=decide) [ai,ab,aa,ag,aT]) (by decide)) ?_;refine bw (α:=Zm l (mid+m) lo hi) (fun y=>⟨aI [(0,some (.slice (some ⟨0,0,none⟩) n cap)),(1,some (.int .i64 (a:Int))),(2,some (.int .i64 (m:Int))),(3,some (.int .i64 (b:Int))),(4,some bS),(18,some (.int .i64 (mid:Int))),(19,some (.int .i64 ((mid+m:Nat):Int))),(20,some (.int .i64 (y.s:Int))),(21,some (.int .i64 (y.r:Int))),(22,some (.int .i64 ((mid+m-1:Nat):Int)))],wd [(0,some (aT l))] 1 [] 0,[]⟩) (fun y=>y.r-y.s) ?_ ⟨lo,hi,by omega,by omega,by omega,.inl rfl,.inl rfl⟩;intro ⟨s,r,h1,h2,h3,c1,c2⟩;simp only;by_cases hij:s<r
 ·obtain⟨c,hc⟩:∃c,c=(s+r)/2:=⟨_,rfl⟩;have q6:IntKind.i64.wrap (((mid+m-1:Nat):Int)-(c:Int))=((mid+m-1-c:Nat):Int):=by rw[wrap_i64 (by omega) (by omega)];omega
  refine ae ?_;refine ae (ac (e:=?e17) (s':=?s17) hB ?h17 ?q17)
  case h17=>simp(disch:=decide) only[hoc,go_sem];all_goals rfl
  refine aZ (by simp(disch:=first|decide|omega) only[go_sem]<;>with_reducible rfl) ?_;refine aH ?_;refine aD ?_;refine ae (ac hB (by simp(disch:=first|decide|omega) only[hoc,go_sem]<;>with_reducible rfl) ?_);refine aU (s':=⟨aI [(0,some (.slice (some ⟨0,0,none⟩) n cap)),(1,some (.int .i64 (a:Int))),(2,some (.int .i64 (m:Int))),(3,some (.int .i64 (b:Int))),(4,some bS),(18,some (.int .i64 (mid:Int))),(19,some (.int .i64 ((mid+m:Nat):Int))),(20,some (.int .i64 (s:Int))),(21,some (.int .i64 (r:Int))),(22,some (.int .i64 ((mid+m-1:Nat):Int))),(23,some (.int .i64 (c:Int)))],wd [(0,some (aT l))] 1 [] 0,[]⟩) (by rw[hc];exact ak (by simp(disch:=decide) [ai,ab,aa,ag,bS]) (by simp(disch:=decide) [ai,ab,aa,ag,aT]) (by decide)) ?_;by_cases hcc:dh bg l (mid+m-1-c)<dh bg l c
  ·have hk:=yh (by omega) (by omega) hcc;refine bl hB ⟨aI [(0,some (.slice (some ⟨0,0,none⟩) n cap)),(1,some (.int .i64 (a:Int))),(2,some (.int .i64 (m:Int))),(3,some (.int .i64 (b:Int))),(4,some bS),(18,some (.int .i64 (mid:Int))),(19,some (.int .i64 ((mid+m:Nat):Int))),(20,some (.int .i64 (s:Int))),(21,some (.int .i64 (r:Int))),(22,some (.int .i64 ((mid+m-1:Nat):Int))),(23,some (.int .i64 (c:Int))),(171,some (.bool false))],wd [(0,some (aT l))] 1 [] 0,[]⟩ ?hda ?qda
   case hda=>
    refine⟨?rsa,?sxa,?hxa,?kxa,?lxa⟩
    case hxa=>simp(disch:=first|decide|omega) only[aE.eq_1,aE.eq_2,cm.eq_1,bd.eq_1,bd.eq_2,hoc,aT,nJ,nA,sQ,bS,Ai,q6,hk,go_sem]<;>with_reducible rfl
    case kxa=>kernel_rfl
    case lxa=>exact ak (by simp(disch:=decide) [ai,ab,aa,ag,bS]) (by simp(disch:=decide) [ai,ab,aa,ag,aT]) (by decide)
   refine aO ?h20 ?q20
   case h20=>simp(disch:=decide) only[go_sem];all_goals rfl
   refine ac hB (by simp(disch:=decide) only[hoc,go_sem]<;>with_reducible rfl) ?_;refine⟨⟨s,c,by omega,by omega,by omega,c1,.inr (by rw[show mid+m-c-1=mid+m-1-c by omega];exact hcc)⟩,by simp only;omega,?_⟩;exact ak (by simp(disch:=decide) [ai,ab,aa,ag,bS]) (by simp(disch:=decide) [ai,ab,aa,ag,aT]) (by decide)
  have hk:=x5 (by omega) (by omega) hcc;refine bl hB ⟨aI [(0,some (.slice (some ⟨0,0,none⟩) n cap)),(1,some (.int .i64 (a:Int))),(2,some (.int .i64 (m:Int))),(3,some (.int .i64 (b:Int))),(4,some bS),(18,some (.int .i64 (mid:Int))),(19,some (.int .i64 ((mid+m:Nat):Int))),(20,some (.int .i64 (s:Int))),(21,some (.int .i64 (r:Int))),(22,some (.int .i64 ((mid+m-1:Nat):Int))),(23,some (.int .i64 (c:Int))),(171,some (.bool true))],wd [(0,some (aT l))] 1 [] 0,[]⟩ ?hdb ?qdb
  case hdb=>
   refine⟨?rsb,?sxb,?hxb,?kxb,?lxb⟩
   case hxb=>simp(disch:=first|decide|omega) only[aE.eq_1,aE.eq_2,cm.eq_1,bd.eq_1,bd.eq_2,hoc,aT,nJ,nA,sQ,bS,Ai,q6,hk,go_sem]<;>with_reducible rfl
   case kxb=>kernel_rfl
   case lxb=>exact ak (by simp(disch:=decide) [ai,ab,aa,ag,bS]) (by simp(disch:=decide) [ai,ab,aa,ag,aT]) (by decide)
  refine aZ ?h22 ?q22
  case h22=>simp(disch:=decide) only[go_sem];all_goals rfl
  refine ac hB (by simp(disch:=first|decide|omega) only[hoc,go_sem]<;>with_reducible rfl) ?_;refine⟨⟨c+1,r,by omega,by omega,by omega,.inr (by rw[aaA,show mid+m-(c+1)=mid+m-1-c by omega];omega),c2⟩,by simp only;omega,?_⟩;exact ak (by simp(disch:=decide) [ai,ab,aa,ag,bS]) (by simp(disch:=decide) [ai,ab,aa,ag,aT]) (by decide)
 have e:s=r:=by omega
 subst e;refine ae ?_;refine ae (ac (e:=?e24) (s':=?s24) hB ?h24 ?q24)
 case h24=>simp(disch:=decide) only[hoc,go_sem];all_goals rfl
 refine aO (by simp(disch:=first|decide|omega) only[go_sem]<;>with_reducible rfl) ?_;refine bp ?_;show bA _ _ _ _ _ _;obtain⟨e,he⟩:∃e,e=mid+m-s:=⟨_,rfl⟩;obtain⟨g1,g2,g3,g4,g5,g6,t1,t2,t3,t4,teq⟩:=DK (key:=bg) (l:=l) (a:=a) (m:=m) (b:=b) (s:=s) ⟨lo,hi,hb,am,mb,by rw[hlo,hmid],by rw[hhi,hmid],h1,h3,by rw[<-hmid];exact c1,by rw[<-hmid];exact c2⟩ s1 s2 e (by rw[he,hmid]);rw[<-hmid]at g2 g6 t2 t3 teq;have hlr:(cy l s m e).length=l.length:=gj g3 g4 (by omega);have q7:IntKind.i64.wrap (((mid+m:Nat):Int)-(s:Int))=((e:Nat):Int):=by rw[wrap_i64 (by omega) (by omega)];omega
 refine ae (ac hB (by simp(disch:=decide) only[hoc,q7,go_sem]<;>with_reducible rfl) ?_);refine jy ⟨aI [(0,some (.slice (some ⟨0,0,none⟩) n cap)),(1,some (.int .i64 (a:Int))),(2,some (.int .i64 (m:Int))),(3,some (.int .i64 (b:Int))),(4,some bS),(18,some (.int .i64 (mid:Int))),(19,some (.int .i64 ((mid+m:Nat):Int))),(20,some (.int .i64 (s:Int))),(24,some (.int .i64 (e:Int)))],wd [(0,some (aT (cy l s m e)))] 1 [] 0,[]⟩ ?hcB ?qcB
 case hcB=>
  by_cases hgo:s<m/\m<e
  ·obtain⟨hg1,hg2⟩:=hgo;have hgo:dr lN Ew [.slice (some ⟨0,0,none⟩) n cap,.int .i64 (s:Int),.int .i64 (m:Int),.int .i64 (e:Int),bS] (wd [(0,some (aT l))] 1 [] 0)=some (.ret u0,wd [(0,some (aT (cy l s m e))),(0,some (aT l))] 1 [0] 1):=(m7 (ik (by decide)) (S9 hg1 hg2 (by omega) hbig) hnl).trans (by simp only[di]);refine ae (ac hB (by simp(disch:=first|decide|omega) only[hoc,go_sem]<;>with_reducible rfl) ?_);refine aZ ?h28 ?q28
   case h28=>simp(disch:=decide) only[go_sem];all_goals rfl
   refine ac hB (by simp(disch:=decide) only[hoc,sQ,hgo,go_sem]<;>with_reducible rfl) ?_;exact gQ (ak (by simp(disch:=decide) [ai,ab,aa,ag,bS]) (by simp(disch:=decide) [ai,ab,aa,ag,aT]) (by decide))
  have hsame:cy l s m e=l:=by
   by_cases e1:s=m
   ·subst e1;exact mL (by omega) (by omega)
   have e2:e=m:=by omega
   subst e2;exact pA (by omega) (by omega)
  rw[hsame];by_cases e1:s<m
  ·have e2:¬m<e:=fun h=>hgo ⟨e1,h⟩
   refine ae (ac hB (by simp(disch:=first|decide|omega) only[hoc,go_sem]<;>with_reducible rfl) ?_);refine aO (by simp(disch:=decide) only[go_sem]<;>with_reducible rfl) ?_;refine aH ?_;exact gQ (ak (by simp(disch:=decide) [ai,ab,aa,ag,bS]) (by simp(disch:=decide) [ai,ab,aa,ag,aT]) (by decide))
  refine ae (ac hB (by simp(disch:=first|decide|omega) only[hoc,go_sem]<;>with_reducible rfl) ?_);refine aO (by simp(disch:=decide) only[go_sem]<;>with_reducible rfl) ?_;refine aH ?_;exact gQ (ak (by simp(disch:=decide) [ai,ab,aa,ag,bS]) (by simp(disch:=decide) [ai,ab,aa,ag,aT]) (by decide))
 obtain⟨R,hR⟩:∃R,R=cy l s m e:=⟨_,rfl⟩;rw[<-hR]at t1 t2 t3 t4 teq hlr ⊢;have hl2:(bH bg R a mid).length=l.length:=by rw[ew (by omega) (by omega),hlr]
 have t3':dP bg (eU (bH bg R a mid) mid e):=by rw[ml (by omega) (by omega) (.inr (Nat.le_refl _))];exact t3
 have t4':dP bg (eU (bH bg R a mid) e b):=by rw[ml (by omega) (by omega) (.inr g6)];exact t4
 refine jy ⟨aI [(0,some (.slice (some ⟨0,0,none⟩) n cap)),(1,some (.int .i64 (a:Int))),(2,some (.int .i64 (m:Int))),(3,some (.int .i64 (b:Int))),(4,some bS),(18,some (.int .i64 (mid:Int))),(19,some (.int .i64 ((mid+m:Nat):Int))),(20,some (.int .i64 (s:Int))),(24,some (.int .i64 (e:Int)))],wd [(0,some (aT (bH bg R a mid)))] 1 [] 0,[]⟩ ?hcC ?qcC
 case hcC=>
  by_cases e1:a<s
  ·by_cases e2:s<mid
   ·have hgo:dr lN (CJ N) [.slice (some ⟨0,0,none⟩) n cap,.int .i64 (a:Int),.int .i64 (s:Int),.int .i64 (mid:Int),bS] (wd [(0,some (aT R))] 1 [] 0)=some (.ret u0,wd [(0,some (aT (bH bg R a mid))),(0,some (aT R))] 1 [0] 1):=(m7 (ik (by decide)) (Ks ⟨e1,e2,by omega,by omega,t1,t2⟩ (by omega)) (by omega)).trans (by simp only[di]);refine ae (ac hB (by simp(disch:=first|decide|omega) only[hoc,go_sem]<;>with_reducible rfl) ?_);refine aZ ?h35 ?q35
    case h35=>simp(disch:=decide) only[go_sem];all_goals rfl
    refine ac hB (by simp(disch:=decide) only[hoc,sQ,hgo,go_sem]<;>with_reducible rfl) ?_;exact gQ (ak (by simp(disch:=decide) [ai,ab,aa,ag,bS]) (by simp(disch:=decide) [ai,ab,aa,ag,aT]) (by decide))
   have e3:s=mid:=by omega
   rw[is (by omega) (by omega) (by rw[<-e3];exact t1)];refine ae (ac hB (by simp(disch:=first|decide|omega) only[hoc,go_sem]<;>with_reducible rfl) ?_);refine aO (by simp(disch:=decide) only[go_sem]<;>with_reducible rfl) ?_;refine aH ?_;exact gQ (ak (by simp(disch:=decide) [ai,ab,aa,ag,bS]) (by simp(disch:=decide) [ai,ab,aa,ag,aT]) (by decide))
  have e3:s=a:=by omega
  rw[is (by omega) (by omega) (by rw[e3]at t2;exact t2)];refine ae (ac hB (by simp(disch:=first|decide|omega) only[hoc,go_sem]<;>with_reducible rfl) ?_);refine aO (by simp(disch:=decide) only[go_sem]<;>with_reducible rfl) ?_;refine aH ?_;exact gQ (ak (by simp(disch:=decide) [ai,ab,aa,ag,bS]) (by simp(disch:=decide) [ai,ab,aa,ag,aT]) (by decide))
 obtain⟨S,hS⟩:∃S,S=bH bg R a mid:=⟨_,rfl⟩;rw[<-hS]at t3' t4' teq hl2 ⊢;rw[<-teq];by_cases e1:mid<e
 ·by_cases e2:e<b
  ·have hgo:dr lN (CJ N) [.slice (some ⟨0,0,none⟩) n cap,.int .i64 (mid:Int),.int .i64 (e:Int),.int .i64 (b:Int),bS] (wd [(0,some (aT S))] 1 [] 0)=some (.ret u0,wd [(0,some (aT (bH bg S mid b))),(0,some (aT S))] 1 [0] 1):=(m7 (ik (by decide)) (Ks ⟨e1,e2,by omega,by omega,t3',t4'⟩ (by omega)) (by omega)).trans (by simp only[di]);refine ae (ac hB (by simp(disch:=first|decide|omega) only[hoc,go_sem]<;>with_reducible rfl) ?_);refine aZ ?h42 ?q42
   case h42=>simp(disch:=decide) only[go_sem];all_goals rfl
   refine ac (e:=?e43) (s':=?s43) hB ?h43 ?q43
   case h43=>simp(disch:=decide) only[hoc,sQ,hgo,go_sem];all_goals rfl
   refine⟨_,?e44,?W44,rfl,?h44,?q44⟩
   case h44=>simp(disch:=decide) only[Tryz.results142,go_sem];all_goals rfl
   refine⟨rfl,?_⟩;simp(disch:=first|decide|omega) only[go_sem]
  have e3:e=b:=by omega
  rw[is (by omega) (by omega) (by rw[<-e3];exact t3')];refine ae (ac hB (by simp(disch:=first|decide|omega) only[hoc,go_sem]<;>with_reducible rfl) ?_);refine aO ?h46 ?q46
  case h46=>simp(disch:=decide) only[go_sem];all_goals rfl
  refine aH ?_;refine⟨_,?e47,?W47,rfl,?h47,?q47⟩
  case h47=>simp(disch:=decide) only[Tryz.results142,go_sem];all_goals rfl
  refine⟨rfl,?_⟩;simp(disch:=first|decide|omega) only[go_sem]
 have e3:e=mid:=by omega
 rw[is (by omega) (by omega) (by rw[e3]at t4';exact t4')];refine ae (ac hB (by simp(disch:=first|decide|omega) only[hoc,go_sem]<;>with_reducible rfl) ?_);refine aO ?h49 ?q49
 case h49=>simp(disch:=decide) only[go_sem];all_goals rfl
 refine aH ?_;refine⟨_,?e50,?W50,rfl,?h50,?q50⟩
 case h50=>simp(disch:=decide) only[Tryz.results142,go_sem];all_goals rfl
 refine⟨rfl,?_⟩;simp(disch:=decide) only[go_sem]
theorem KR:∀(N:Nat) (l:List bC) (a m b cap:Nat),sL l a m b->b-a<N->aN Tryz.prog 142 (ny 0 (a,m,b,cap) l) (wd [(0,some (aT l))] 1 [] 0) fun e W'=>e=.ret u0/\W'.get 0=some (aT (bH bg l a b)):=by
 intro N
 induction N with
 |zero=>intro l a m b cap hg h;omega
 |succ N ih=>
  intro l a m b cap hg hN;by_cases h1:m=a+1
  ·exact YN ih l a m b cap hg h1
  by_cases h2:b=m+1
  ·exact Ys ih l a m b cap hg h1 h2
  exact X8 ih l a m b cap hg hN h1 h2
theorem Nk{P:Program}{f:FuncId}{args:List Value}{W:XW}{S:cz->XW->Prop}{o:bb}{val:Nat->Value}(hargs:dt args)(hcall:aN P f args (wd [] 0 [] 0) S)
 (hout:∀e' W',S e' W'->∃b,e'=.ret (val b)/\W'.get b=some o) (ho:fY P o) (hv:∀b n θ,θ b=some n->TV (cM θ) (val b) (val n)):lH P f args W (.ret (val W.next)) (W.push o):=
 mj (k:=0) (fun _=>0) (fun _=>none) rfl (fun m _ h=>by omega) (fun m h=>by omega) (fun n m h=>by cases h) (fun m oL h=>by rw[XW.get_ge (Z3 _)]at h;cases h) (hargs _ ah) hcall
  fun eL WL' hS=>by
   obtain⟨b,rfl,hb⟩:=hout _ _ hS;refine⟨fun m=>if m=b then some W.next else none,fun m x h=>?_,fun m m' x h h'=>?_,fun x o' h=>?_,hv _ _ _ (if_pos rfl),aaX _⟩
   ·by_cases hm:m=b
    ·rw[if_pos hm]at h;cases h;exact .inr ⟨Z3 _,Nat.le_refl _,aan _⟩
    rw[if_neg hm]at h;cases h
   ·by_cases hm:m=b
    ·by_cases hm':m'=b
     ·omega
     rw[if_neg hm']at h';cases h'
    rw[if_neg hm]at h;cases h
   rcases XW.get_push h with⟨rfl,rfl⟩|⟨q1,q2⟩
   ·exact .inl ⟨b,_,if_pos rfl,hb,ho _ ah⟩
   exact .inr ⟨q2,cw q2,fun m hm=>by omega⟩
abbrev Aq:=(Nat->Value)×Option bb
def Ap(W:XW):Aq->cz×XW
 |(v,some o)=>(.ret (v W.next),W.push o)
 |(v,none)=>(.ret (v 0),W)
open Classical in
noncomputable def i8{α:Type}(enc:α->List Value)(f:α->Option Aq):HF:=fun args W=>if h:∃a,args=enc a then(f (Classical.choose h)).map (Ap W)else none
theorem Fc{α:Type}{enc:α->List Value}{f:α->Option Aq}{args:List Value}{W W':XW}{e:cz}(h:i8 enc f args W=some (e,W')):∃a r,args=enc a/\f a=some r/\Ap W r=(e,W'):=by
 unfold i8 at h;split at h
 ·rename_i hx;obtain⟨r,h1,h2⟩:=Option.map_eq_some_iff.1 h;exact⟨_,r,ZQ hx,h1,h2⟩
 cases h
theorem tz{α:Type}{enc:α->List Value}{f:α->Option Aq}{a:α}{r:Aq}{W:XW}(hi:∀b,enc b=enc a->f b=f a)(hf:f a=some r):i8 enc f (enc a) W=some (Ap W r):=by
 have hx:∃b,enc a=enc b:=⟨a,rfl⟩;have e:i8 enc f (enc a) W=(f (Classical.choose hx)).map (Ap W):=dif_pos hx;rw[e,hi _ (ZQ hx).symm,hf];rfl
theorem xP{P:Program}{fn:FuncId}{α:Type}{enc:α->List Value}{f:α->Option Aq}(he:fi P fn)(hx:∀a,dt (enc a))
 (h0:∀a v,f a=some (v,none)->dG (v 0)/\aN P fn (enc a) (wd [] 0 [] 0) fun e W'=>e=.ret (v 0))
 (h1:∀a v o,f a=some (v,some o)->fY P o/\(∀b n θ,θ b=some n->TV (cM θ) (v b) (v n))/\aN P fn (enc a) (wd [] 0 [] 0) fun e W'=>∃b,e=.ret (v b)/\W'.get b=some o):bD P fn (i8 enc f):=by
 refine⟨he,fun args W e W' h=>?_,fun args W e W' h=>?_⟩
 ·obtain⟨a,⟨v,o⟩,rfl,hf,hr⟩:=Fc h;cases o with
  |none=>cases hr;exact .refl _
  |some o=>cases hr;exact .push _ _
 obtain⟨a,⟨v,o⟩,rfl,hf,hr⟩:=Fc h;cases o with
 |none=>
  cases hr;obtain⟨k1,k2⟩:=h0 _ _ hf;exact zZ (hx a) k2 (fun e' W' hS=>hS) k1
 |some o=>
  cases hr;obtain⟨k1,k2,k3⟩:=h1 _ _ _ hf;exact Nk (hx a) k3 (fun e' W' hS=>hS) k1 k2
def ZF:Option (cz×XW)->Option (cz×XW)->Option (cz×XW)
 |some r,_=>some r
 |none,r=>r
def ju(h1 h2:HF):HF:=fun args W=>ZF (h1 args W) (h2 args W)
theorem o6{P:Program}{f:FuncId}{h1 h2:HF}(k1:bD P f h1)(k2:bD P f h2):bD P f (ju h1 h2):=by
 have key:∀args W r,ju h1 h2 args W=some r->h1 args W=some r\/h2 args W=some r:=fun args W r h=>by
  unfold ju at h;cases e:h1 args W with
  |none=>rw[e]at h;exact .inr h
  |some q=>rw[e]at h;exact .inl h
 exact⟨k1.enters,fun args W e W' h=>(key _ _ _ h).elim (k1.ext _ _ _ _) (k2.ext _ _ _ _),fun args W e W' h=>(key _ _ _ h).elim (k1.sim _ _ _ _) (k2.sim _ _ _ _)⟩
theorem iH{h1 h2:HF}{args:List Value}{W:XW}{r:cz×XW}(h:h1 args W=some r):ju h1 h2 args W=some r:=by
 unfold ju;rw[h];rfl
theorem pj{h1 h2:HF}{args:List Value}{W:XW}{r:cz×XW}(h0:h1 args W=none)(h:h2 args W=some r):ju h1 h2 args W=some r:=by
 unfold ju;rw[h0,h];rfl
theorem xV{P:Program}{H:dX}(hB:dv P H)(n:Nat){f:FuncId}{args:List Value}{W W':XW}{e:cz}(h:eP P H n (.call f args W)=some (.fin e W')):aN P f args W fun e2 W2=>e2=e/\W2=W':=by
 intro ρ args' w m hfr hH hA;obtain⟨hC,hF,_⟩:=lv hB.mixed hB.sim (lF hB.mixed) n;obtain⟨_,k⟩:=hF f args W e W' h;exact CallsIn.mono (k ρ args' w m (fun n h1 h2=>hfr n h1) hH hA) fun en w' hq=>⟨e,W',⟨rfl,rfl⟩,hq⟩
def Gk(v:cz->Bool):Option XO->Bool
 |some (.fin e _)=>v e
 |_=>false
theorem ER{v:cz->Bool}{r:Option XO}(h:Gk v r=true):∃e W',r=some (.fin e W')/\v e=true:=by
 unfold Gk at h;split at h
 ·exact⟨_,_,rfl,h⟩
 cases h
def Hb:cz->Bool
 |.ret (.tuple cs)=>cs.isEmpty
 |_=>false
theorem E3{e:cz}(h:Hb e=true):e=.ret (.tuple #[]):=by
 unfold Hb at h;split at h
 ·rename_i cs;have:cs=#[]:=by simpa using h
  rw[this]
 cases h
open Classical in
noncomputable def BP(x:Nat×Nat×Nat×Nat)(l:List aC):Option (Value×List aC):=if sV l x.1 x.2.1 x.2.2.1 then some (u0,bH bi l x.1 x.2.2.1)else none
theorem JS{a m b cap:Nat}{l:List aC}(h:sV l a m b):BP (a,m,b,cap) l=some (u0,bH bi l a b):=if_pos h
theorem XU:bD Tryz.prog 140 (dr lB BP):=jS (enters_of (by kernel_rfl)) GS gL (fun a b v b' h=>by
 unfold BP at h;split at h
 ·cases h;exact aG 8 rfl
 ·cases h) (fun a l v b' h=>by
 unfold BP at h;split at h
 ·rename_i hc;cases h;exact Iu (a.2.2.1-a.1+1) l a.1 a.2.1 a.2.2.1 a.2.2.2 hc (by omega)
 cases h)
noncomputable def JK:List (FuncId×HF):=[(139,dr Ag Db),(140,dr lB BP)]
theorem fb:dv Tryz.prog (cE JK []):=⟨mixed,bU (.cons _ _ _ YE (.cons _ _ _ XU .nil)) .nil⟩
def Lg(n:Nat)(cap:Nat)(l:List aC):List Value:=[.slice (some ⟨n,0,none⟩) l.length cap,.int .i64 (l.length:Int),bT]
def Er:nw Nat (List aC) where
 args:=Lg
 row:=aS
 inj n a b n' a' b' h:=by unfold Lg at h;injection h with h1 h;injection h1 with h1 _ hc;injection h1 with h1;injection h1 with h1;exact⟨h1,hc⟩
 rinj:=rR
structure Y9(l0:List aC) where
 a:Nat
 l:List aC
 hl:l.length=l0.length
 ha:a<=l0.length
 h:Nonempty (yy bi 20 l0 l a)
structure ZA(l0:List aC) where
 bs:Nat
 l:List aC
 hl:l.length=l0.length
 hp:0<bs
 hb:bs=20\/bs<=2*l0.length
 hc:gY bi bs l
 hf:∀k,fk bi k l=fk bi k l0
structure Zg(l0:List aC)(bs:Nat) where
 a:Nat
 l:List aC
 hl:l.length=l0.length
 ha:a<=l0.length
 h:Nonempty (C4 bi (2*bs) bs l0 l a)
set_option maxHeartbeats 2000000 in
theorem Ik(l0:List aC)(cap:Nat)(hn:l0.length<=fE) :
 aN Tryz.prog 117 (Lg 0 cap l0) (wd [(0,some (aS l0))] 1 [] 0) fun e W'=>e=.ret u0/\W'.get 0=some (aS (cg bi l0)):=by
 obtain⟨n,hnl⟩:∃n,n=l0.length:=⟨_,rfl⟩;have hbig:=hn;unfold fE at hn;have hoc:bk bT=true:=rfl;show aN _ _ [.slice (some ⟨0,0,none⟩) l0.length cap,.int .i64 (l0.length:Int),bT] _ _;rw[<-hnl];refine be fb Tryz.func117 rfl (Nat.le_of_ble_eq_true rfl) ?_;simp only[aY.eq_1,aY.eq_2,bf,Tryz.ntmps117,reduceAdd];refine ae (ac (e:=?e1) (s':=?s1) fb ?h1 ?q1)
 case h1=>simp(disch:=decide) only[hoc,go_sem];all_goals rfl
 refine ae (ac (e:=?e2) (s':=?s2) fb ?h2 ?q2)
 case h2=>simp(disch:=decide) only[hoc,go_sem];all_goals rfl
 refine ae ?_;refine aD ?_;refine aU (s':=⟨aI [(0,some (.slice (some ⟨0,0,none⟩) n cap)),(1,some (.int .i64 (n:Int))),(2,some bT),(6,some (.int .i64 ((20:Nat):Int))),(7,some (.int .i64 ((0:Nat):Int))),(8,some (.int .i64 ((0+20:Nat):Int)))],wd [(0,some (aS l0))] 1 [] 0,[]⟩) (ak (by simp(disch:=decide) [ai,ab,aa,ag,bT]) (by simp(disch:=decide) [ai,ab,aa,ag,aS]) (by decide)) ?_;refine bw (α:=Y9 l0) (fun y=>⟨aI [(0,some (.slice (some ⟨0,0,none⟩) n cap)),(1,some (.int .i64 (n:Int))),(2,some bT),(6,some (.int .i64 ((20:Nat):Int))),(7,some (.int .i64 (y.a:Int))),(8,some (.int .i64 ((y.a+20:Nat):Int)))],wd [(0,some (aS y.l))] 1 [] 0,[]⟩) (fun y=>n-y.a) ?_ ⟨0,l0,rfl,Z3 _,xL l0⟩;intro ⟨a,l,hl,ha,h⟩;simp only;by_cases hgo:a+20<=n
 ·have hg:dr Ag Db [.slice (some ⟨0,0,none⟩) n cap,.int .i64 (a:Int),.int .i64 ((a+20:Nat):Int),bT] (wd [(0,some (aS l))] 1 [] 0)=some (.ret u0,wd [(0,some (aS (bH bi l a (a+20)))),(0,some (aS l))] 1 [0] 1):=(JQ (ik (by decide)) (JB (by omega) (by omega) (by omega)) (by omega)).trans (by simp only[di]);refine ae ?_;refine ae (ac (e:=?e3) (s':=?s3) fb ?h3 ?q3)
  case h3=>simp(disch:=decide) only[hoc,go_sem];all_goals rfl
  refine aZ (by simp(disch:=first|decide|omega) only[go_sem]<;>with_reducible rfl) ?_;refine aH ?_;refine aD ?_;refine ae (ac (e:=?e5) (s':=?s5) fb ?h5 ?q5)
  case h5=>simp(disch:=decide) only[hoc,JK,hg,go_sem];all_goals rfl
  refine ae (ac (e:=?e6) (s':=?s6) fb ?h6 ?q6)
  case h6=>simp(disch:=decide) only[hoc,go_sem];all_goals rfl
  refine ac fb (by simp(disch:=first|decide|omega) only[hoc,go_sem]<;>with_reducible rfl) ?_;refine⟨⟨a+20,bH bi l a (a+20),by rw[ew (by omega) (by omega),hl],by omega,h.elim fun h=>zX h (by omega)⟩,by simp only;omega,?_⟩;exact ak (by simp(disch:=decide) [ai,ab,aa,ag,bT]) (by simp(disch:=decide) [ai,ab,aa,ag,aS]) (by decide)
 refine ae ?_;refine ae (ac (e:=?e8) (s':=?s8) fb ?h8 ?q8)
 case h8=>simp(disch:=decide) only[hoc,go_sem];all_goals rfl
 refine aO (by simp(disch:=first|decide|omega) only[go_sem]<;>with_reducible rfl) ?_;refine bp ?_;show bA _ _ _ _ _ _;have hg:dr Ag Db [.slice (some ⟨0,0,none⟩) n cap,.int .i64 (a:Int),.int .i64 (n:Int),bT] (wd [(0,some (aS l))] 1 [] 0)=some (.ret u0,wd [(0,some (aS (bH bi l a n))),(0,some (aS l))] 1 [0] 1):=(JQ (ik (by decide)) (JB (by omega) (by omega) (by omega)) (by omega)).trans (by simp only[di]);have hch:gY bi 20 (bH bi l a n)/\∀k,fk bi k (bH bi l a n)=fk bi k l0:=h.elim fun h=>by
  rw[show n=l.length by omega];exact C9 h (by omega)
 have hsl:(bH bi l a n).length=l0.length:=by rw[ew (by omega) (by omega),hl]
 obtain⟨R,hR⟩:∃R,R=bH bi l a n:=⟨_,rfl⟩;rw[<-hR]at hg hch hsl;refine ae (ac (e:=?e10) (s':=?s10) fb ?h10 ?q10)
 case h10=>simp(disch:=decide) only[hoc,JK,hg,go_sem];all_goals rfl
 refine aD ?_;refine aU (s':=⟨aI [(0,some (.slice (some ⟨0,0,none⟩) n cap)),(1,some (.int .i64 (n:Int))),(2,some bT),(6,some (.int .i64 ((20:Nat):Int)))],wd [(0,some (aS R))] 1 [] 0,[]⟩) (ak (by simp(disch:=decide) [ai,ab,aa,ag,bT]) (by simp(disch:=decide) [ai,ab,aa,ag,aS]) (by decide)) ?_;refine bw (α:=ZA l0) (fun y=>⟨aI [(0,some (.slice (some ⟨0,0,none⟩) n cap)),(1,some (.int .i64 (n:Int))),(2,some bT),(6,some (.int .i64 (y.bs:Int)))],wd [(0,some (aS y.l))] 1 [] 0,[]⟩) (fun y=>n-y.bs) ?_ ⟨20,R,hsl,by decide,.inl rfl,hch.1,hch.2⟩;clear hg hch hsl hR h hl ha hgo;intro ⟨bs,l,hl,hp,hb,hc,hf⟩;simp only;by_cases hgo:bs<n
 ·refine ae ?_;refine ae (ac (e:=?e11) (s':=?s11) fb ?h11 ?q11)
  case h11=>simp(disch:=decide) only[hoc,go_sem];all_goals rfl
  refine aZ (by simp(disch:=first|decide|omega) only[go_sem]<;>with_reducible rfl) ?_;refine aH ?_;refine aD ?_;refine ae (ac fb (by simp(disch:=first|decide|omega) only[hoc,go_sem]<;>with_reducible rfl) ?_);refine ae ?_;refine aD ?_;refine aU (s':=⟨aI [(0,some (.slice (some ⟨0,0,none⟩) n cap)),(1,some (.int .i64 (n:Int))),(2,some bT),(6,some (.int .i64 (bs:Int))),(7,some (.int .i64 ((0:Nat):Int))),(8,some (.int .i64 ((0+2*bs:Nat):Int)))],wd [(0,some (aS l))] 1 [] 0,[]⟩) (by rw[Nat.zero_add];exact ak (by simp(disch:=decide) [ai,ab,aa,ag,bT]) (by simp(disch:=decide) [ai,ab,aa,ag,aS]) (by decide)) ?_;refine bw (α:=Zg l0 bs) (fun y=>⟨aI [(0,some (.slice (some ⟨0,0,none⟩) n cap)),(1,some (.int .i64 (n:Int))),(2,some bT),(6,some (.int .i64 (bs:Int))),(7,some (.int .i64 (y.a:Int))),(8,some (.int .i64 ((y.a+2*bs:Nat):Int)))],wd [(0,some (aS y.l))] 1 [] 0,[]⟩) (fun y=>n-y.a) ?_ ⟨0,l,hl,Z3 _,zY (2*bs) hc hf⟩;clear hc hf hl;intro ⟨a,r,hl,ha,h⟩;simp only;by_cases hgo2:a+2*bs<=n
  ·obtain⟨s1,s2,h'⟩:=h.elim fun h=>Cg h hp (by omega)
   have hg:dr lB BP [.slice (some ⟨0,0,none⟩) n cap,.int .i64 (a:Int),.int .i64 ((a+bs:Nat):Int),.int .i64 ((a+2*bs:Nat):Int),bT] (wd [(0,some (aS r))] 1 [] 0)=some (.ret u0,wd [(0,some (aS (bH bi r a (a+2*bs)))),(0,some (aS r))] 1 [0] 1):=(m8 (ik (by decide)) (JS ⟨by omega,by omega,by omega,by omega,s1,s2⟩) (by omega)).trans (by simp only[di]);refine ae ?_;refine ae (ac (e:=?e14) (s':=?s14) fb ?h14 ?q14)
   case h14=>simp(disch:=decide) only[hoc,go_sem];all_goals rfl
   refine aZ (by simp(disch:=first|decide|omega) only[go_sem]<;>with_reducible rfl) ?_;refine aH ?_;refine aD ?_;refine ae (ac fb (by simp(disch:=first|decide|omega) only[hoc,JK,hg,go_sem]<;>with_reducible rfl) ?_);refine ae (ac fb (by simp(disch:=decide) only[hoc,go_sem]<;>with_reducible rfl) ?_);refine ac fb (by simp(disch:=first|decide|omega) only[hoc,go_sem]<;>with_reducible rfl) ?_;refine⟨⟨a+2*bs,bH bi r a (a+2*bs),by rw[ew (by omega) (by omega),hl],by omega,h'⟩,by simp only;omega,?_⟩;exact ak (by simp(disch:=decide) [ai,ab,aa,ag,bT]) (by simp(disch:=decide) [ai,ab,aa,ag,aS]) (by decide)
  refine ae ?_;refine ae (ac (e:=?e19) (s':=?s19) fb ?h19 ?q19)
  case h19=>simp(disch:=decide) only[hoc,go_sem];all_goals rfl
  refine aO (by simp(disch:=first|decide|omega) only[go_sem]<;>with_reducible rfl) ?_;refine bp ?_;show bA _ _ _ _ _ _;refine ae ?_;refine ae (ac (e:=?e21) (s':=?s21) fb ?h21 ?q21)
  case h21=>simp(disch:=decide) only[hoc,go_sem];all_goals rfl
  obtain⟨R,hRl,hRc,hRf,hRe⟩:∃R,R.length=l0.length/\gY bi (2*bs) R/\(∀k,fk bi k R=fk bi k l0)/\(a+bs<n->dP bi (eU r a (a+bs))/\dP bi (eU r (a+bs) n)/\R=bH bi r a n)/\(n<=a+bs->R=r):=by
   rcases aaa (a+bs) n with q|q
   ·obtain⟨t1,t2,t3,t4⟩:=h.elim fun h=>BI h (by omega) (by omega)
    rw[show r.length=n by omega]at t2 t3 t4;exact⟨_,by rw[ew (by omega) (by omega),hl],t3,t4,fun _=>⟨t1,t2,rfl⟩,fun w=>by omega⟩
   obtain⟨t3,t4⟩:=h.elim fun h=>EX h (by omega)
   exact⟨r,hl,t3,t4,fun w=>by omega,fun _=>rfl⟩
  refine ae (ac (e:=?e22) (s':=?s22) fb ?h22 ?q22)
  case h22=>simp(disch:=decide) only[hoc,go_sem];all_goals rfl
  refine jb (Q:=xO Tryz.prog 1 ⟨aI [(0,some (.slice (some ⟨0,0,none⟩) n cap)),(1,some (.int .i64 (n:Int))),(2,some bT),(6,some (.int .i64 (bs:Int)))],wd [(0,some (aS R))] 1 [] 0,[]⟩) (fun e s' ⟨he,hq⟩=>?_) ?_
  ·subst he;refine aU hq ?_;refine ac fb (by simp(disch:=first|decide|omega) only[hoc,go_sem]<;>with_reducible rfl) ?_;refine⟨⟨bs*2,R,hRl,by omega,.inr (by omega),by rw[Nat.mul_comm];exact hRc,hRf⟩,by simp only;omega,?_⟩;exact ak (by simp(disch:=decide) [ai,ab,aa,ag,bT]) (by simp(disch:=decide) [ai,ab,aa,ag,aS]) (by decide)
  by_cases q:a+bs<n
  ·obtain⟨t1,t2,rfl⟩:=hRe.1 q;have hg:dr lB BP [.slice (some ⟨0,0,none⟩) n cap,.int .i64 (a:Int),.int .i64 ((a+bs:Nat):Int),.int .i64 (n:Int),bT] (wd [(0,some (aS r))] 1 [] 0)=some (.ret u0,wd [(0,some (aS (bH bi r a n))),(0,some (aS r))] 1 [0] 1):=(m8 (ik (by decide)) (JS ⟨by omega,by omega,by omega,by omega,t1,t2⟩) (by omega)).trans (by simp only[di]);refine aZ (by simp(disch:=first|decide|omega) only[go_sem]<;>with_reducible rfl) ?_;refine ac fb (by simp(disch:=first|decide|omega) only[hoc,JK,hg,go_sem]<;>with_reducible rfl) ?_;exact gQ (ak (by simp(disch:=decide) [ai,ab,aa,ag,bT]) (by simp(disch:=decide) [ai,ab,aa,ag,aS]) (by decide))
  obtain rfl:=hRe.2 (by omega);refine aO (by simp(disch:=first|decide|omega) only[go_sem]<;>with_reducible rfl) ?_;refine aH ?_;exact gQ (ak (by simp(disch:=decide) [ai,ab,aa,ag,bT]) (by simp(disch:=decide) [ai,ab,aa,ag,aS]) (by decide))
 refine ae ?_;refine ae (ac (e:=?e27) (s':=?s27) fb ?h27 ?q27)
 case h27=>simp(disch:=decide) only[hoc,go_sem];all_goals rfl
 refine aO (by simp(disch:=first|decide|omega) only[go_sem]<;>with_reducible rfl) ?_;refine bp ?_;refine⟨_,?e29,?W29,rfl,?h29,?q29⟩
 case h29=>simp(disch:=decide) only[Tryz.results117,go_sem];all_goals rfl
 refine⟨rfl,?_⟩;rw[<-Dk hc hf (by omega)];simp(disch:=decide) only[go_sem]
def nM(cap:Nat)(l:List aC):Option (Value×List aC):=if l.length<=fE then some (u0,cg bi l)else none
theorem YP(n:Nat)(a:Nat)(l:List aC):iP (cM (only n)) (Er.args n a l) (Er.args 0 a l):=
 ax (bI ip) (ax (ar 1 rfl) (ax (mN _ ah) aX))
theorem YA:bD Tryz.prog 117 (dr Er nM):=jS (enters_of (by kernel_rfl)) YP gL (fun a b v b' h=>by
 unfold nM at h;split at h
 ·cases h;exact aG 8 rfl
 ·cases h) (fun a l v b' h=>by
 unfold nM at h;split at h
 ·rename_i hc;cases h;exact Ik l a hc
 cases h)
noncomputable def Xl:List (FuncId×HF):=[(117,dr Er nM)]
theorem KH:dv Tryz.prog (cE Xl []):=⟨mixed,bU (.cons _ _ _ YA .nil) .nil⟩
def DE(n:Nat)(cap:Nat)(l:List aC):List Value:=[.slice (some ⟨n,0,none⟩) l.length cap,bT]
def vK:nw Nat (List aC) where
 args:=DE
 row:=aS
 inj n a b n' a' b' h:=by unfold DE at h;injection h with h1 h;injection h1 with h1 _ hc;injection h1 with h1;injection h1 with h1;exact⟨h1,hc⟩
 rinj:=rR
theorem KQ(l:List aC)(cap:Nat)(hn:l.length<=fE) :
 aN Tryz.prog 101 (DE 0 cap l) (wd [(0,some (aS l))] 1 [] 0) fun e W'=>e=.ret u0/\W'.get 0=some (aS (cg bi l)):=by
 have hoc:bk bT=true:=rfl;have hg:dr Er nM [.slice (some ⟨0,0,none⟩) l.length cap,.int .i64 (l.length:Int),bT] (wd [(0,some (aS l))] 1 [] 0)=some (.ret u0,wd [(0,some (aS (cg bi l))),(0,some (aS l))] 1 [0] 1):=(ng (E:=Er) (a:=cap) (ik (by decide)) (show nM cap l=_ from if_pos hn)).trans (by simp only[di];rfl);show aN _ _ [.slice (some ⟨0,0,none⟩) l.length cap,bT] _ _;refine be KH Tryz.func101 rfl (Nat.le_of_ble_eq_true rfl) ?_;simp only[aY.eq_1,aY.eq_2,bf,Tryz.ntmps101,reduceAdd];refine ac (e:=?e30) (s':=?s30) KH ?h30 ?q30
 case h30=>simp(disch:=decide) only[hoc,Xl,hg,go_sem];all_goals rfl
 refine⟨_,?e31,?W31,rfl,?h31,?q31⟩
 case h31=>simp(disch:=decide) only[Tryz.results101,go_sem];all_goals rfl
 refine⟨rfl,?_⟩;simp(disch:=decide) only[go_sem]
theorem XY(n:Nat)(a:Nat)(l:List aC):iP (cM (only n)) (vK.args n a l) (vK.args 0 a l):=
 ax (bI ip) (ax (mN _ ah) aX)
theorem XC:bD Tryz.prog 101 (dr vK nM):=jS (enters_of (by kernel_rfl)) XY gL (fun a b v b' h=>by
 unfold nM at h;split at h
 ·cases h;exact aG 8 rfl
 ·cases h) (fun a l v b' h=>by
 unfold nM at h;split at h
 ·rename_i hc;cases h;exact KQ l a hc
 cases h)
open Classical in
noncomputable def A6(x:Nat×Nat×Nat×Nat)(l:List bC):Option (Value×List bC):=if sL l x.1 x.2.1 x.2.2.1 then some (u0,bH bg l x.1 x.2.2.1)else none
theorem IF{a m b cap:Nat}{l:List bC}(h:sL l a m b):A6 (a,m,b,cap) l=some (u0,bH bg l a b):=if_pos h
theorem Yb:bD Tryz.prog 142 (dr lN A6):=jS (enters_of (by kernel_rfl)) Hs iq (fun a b v b' h=>by
 unfold A6 at h;split at h
 ·cases h;exact aG 8 rfl
 ·cases h) (fun a l v b' h=>by
 unfold A6 at h;split at h
 ·rename_i hc;cases h;exact KR (a.2.2.1-a.1+1) l a.1 a.2.1 a.2.2.1 a.2.2.2 hc (by omega)
 cases h)
noncomputable def Kd:List (FuncId×HF):=[(141,dr zK Bc),(142,dr lN A6)]
theorem fh:dv Tryz.prog (cE Kd []):=⟨mixed,bU (.cons _ _ _ Yn (.cons _ _ _ Yb .nil)) .nil⟩
def LM(n:Nat)(cap:Nat)(l:List bC):List Value:=[.slice (some ⟨n,0,none⟩) l.length cap,.int .i64 (l.length:Int),bS]
def EB:nw Nat (List bC) where
 args:=LM
 row:=aT
 inj n a b n' a' b' h:=by unfold LM at h;injection h with h1 h;injection h1 with h1 _ hc;injection h1 with h1;injection h1 with h1;exact⟨h1,hc⟩
 rinj:=qU
structure Zx(l0:List bC) where
 a:Nat
 l:List bC
 hl:l.length=l0.length
 ha:a<=l0.length
 h:Nonempty (yy bg 20 l0 l a)
structure Zo(l0:List bC) where
 bs:Nat
 l:List bC
 hl:l.length=l0.length
 hp:0<bs
 hb:bs=20\/bs<=2*l0.length
 hc:gY bg bs l
 hf:∀k,fk bg k l=fk bg k l0
structure Y0(l0:List bC)(bs:Nat) where
 a:Nat
 l:List bC
 hl:l.length=l0.length
 ha:a<=l0.length
 h:Nonempty (C4 bg (2*bs) bs l0 l a)
set_option maxHeartbeats 2000000 in
theorem Kf(l0:List bC)(cap:Nat)(hn:l0.length<=fE) :
 aN Tryz.prog 119 (LM 0 cap l0) (wd [(0,some (aT l0))] 1 [] 0) fun e W'=>e=.ret u0/\W'.get 0=some (aT (cg bg l0)):=by
 obtain⟨n,hnl⟩:∃n,n=l0.length:=⟨_,rfl⟩;have hbig:=hn;unfold fE at hn;have hoc:bk bS=true:=rfl;show aN _ _ [.slice (some ⟨0,0,none⟩) l0.length cap,.int .i64 (l0.length:Int),bS] _ _;rw[<-hnl];refine be fh Tryz.func119 rfl (Nat.le_of_ble_eq_true rfl) ?_;simp only[aY.eq_1,aY.eq_2,bf,Tryz.ntmps119,reduceAdd];refine ae (ac (e:=?e1) (s':=?s1) fh ?h1 ?q1)
 case h1=>simp(disch:=decide) only[hoc,go_sem];all_goals rfl
 refine ae (ac (e:=?e2) (s':=?s2) fh ?h2 ?q2)
 case h2=>simp(disch:=decide) only[hoc,go_sem];all_goals rfl
 refine ae ?_;refine aD ?_;refine aU (s':=⟨aI [(0,some (.slice (some ⟨0,0,none⟩) n cap)),(1,some (.int .i64 (n:Int))),(2,some bS),(6,some (.int .i64 ((20:Nat):Int))),(7,some (.int .i64 ((0:Nat):Int))),(8,some (.int .i64 ((0+20:Nat):Int)))],wd [(0,some (aT l0))] 1 [] 0,[]⟩) (ak (by simp(disch:=decide) [ai,ab,aa,ag,bS]) (by simp(disch:=decide) [ai,ab,aa,ag,aT]) (by decide)) ?_;refine bw (α:=Zx l0) (fun y=>⟨aI [(0,some (.slice (some ⟨0,0,none⟩) n cap)),(1,some (.int .i64 (n:Int))),(2,some bS),(6,some (.int .i64 ((20:Nat):Int))),(7,some (.int .i64 (y.a:Int))),(8,some (.int .i64 ((y.a+20:Nat):Int)))],wd [(0,some (aT y.l))] 1 [] 0,[]⟩) (fun y=>n-y.a) ?_ ⟨0,l0,rfl,Z3 _,xL l0⟩;intro ⟨a,l,hl,ha,h⟩;simp only;by_cases hgo:a+20<=n
 ·have hg:dr zK Bc [.slice (some ⟨0,0,none⟩) n cap,.int .i64 (a:Int),.int .i64 ((a+20:Nat):Int),bS] (wd [(0,some (aT l))] 1 [] 0)=some (.ret u0,wd [(0,some (aT (bH bg l a (a+20)))),(0,some (aT l))] 1 [0] 1):=(Ii (ik (by decide)) (Ip (by omega) (by omega) (by omega)) (by omega)).trans (by simp only[di]);refine ae ?_;refine ae (ac (e:=?e3) (s':=?s3) fh ?h3 ?q3)
  case h3=>simp(disch:=decide) only[hoc,go_sem];all_goals rfl
  refine aZ (by simp(disch:=first|decide|omega) only[go_sem]<;>with_reducible rfl) ?_;refine aH ?_;refine aD ?_;refine ae (ac (e:=?e5) (s':=?s5) fh ?h5 ?q5)
  case h5=>simp(disch:=decide) only[hoc,Kd,hg,go_sem];all_goals rfl
  refine ae (ac (e:=?e6) (s':=?s6) fh ?h6 ?q6)
  case h6=>simp(disch:=decide) only[hoc,go_sem];all_goals rfl
  refine ac fh (by simp(disch:=first|decide|omega) only[hoc,go_sem]<;>with_reducible rfl) ?_;refine⟨⟨a+20,bH bg l a (a+20),by rw[ew (by omega) (by omega),hl],by omega,h.elim fun h=>zX h (by omega)⟩,by simp only;omega,?_⟩;exact ak (by simp(disch:=decide) [ai,ab,aa,ag,bS]) (by simp(disch:=decide) [ai,ab,aa,ag,aT]) (by decide)
 refine ae ?_;refine ae (ac (e:=?e8) (s':=?s8) fh ?h8 ?q8)
 case h8=>simp(disch:=decide) only[hoc,go_sem];all_goals rfl
 refine aO (by simp(disch:=first|decide|omega) only[go_sem]<;>with_reducible rfl) ?_;refine bp ?_;show bA _ _ _ _ _ _;have hg:dr zK Bc [.slice (some ⟨0,0,none⟩) n cap,.int .i64 (a:Int),.int .i64 (n:Int),bS] (wd [(0,some (aT l))] 1 [] 0)=some (.ret u0,wd [(0,some (aT (bH bg l a n))),(0,some (aT l))] 1 [0] 1):=(Ii (ik (by decide)) (Ip (by omega) (by omega) (by omega)) (by omega)).trans (by simp only[di]);have hch:gY bg 20 (bH bg l a n)/\∀k,fk bg k (bH bg l a n)=fk bg k l0:=h.elim fun h=>by
  rw[show n=l.length by omega];exact C9 h (by omega)
 have hsl:(bH bg l a n).length=l0.length:=by rw[ew (by omega) (by omega),hl]
 obtain⟨R,hR⟩:∃R,R=bH bg l a n:=⟨_,rfl⟩;rw[<-hR]at hg hch hsl;refine ae (ac (e:=?e10) (s':=?s10) fh ?h10 ?q10)
 case h10=>simp(disch:=decide) only[hoc,Kd,hg,go_sem];all_goals rfl
 refine aD ?_;refine aU (s':=⟨aI [(0,some (.slice (some ⟨0,0,none⟩) n cap)),(1,some (.int .i64 (n:Int))),(2,some bS),(6,some (.int .i64 ((20:Nat):Int)))],wd [(0,some (aT R))] 1 [] 0,[]⟩) (ak (by simp(disch:=decide) [ai,ab,aa,ag,bS]) (by simp(disch:=decide) [ai,ab,aa,ag,aT]) (by decide)) ?_;refine bw (α:=Zo l0) (fun y=>⟨aI [(0,some (.slice (some ⟨0,0,none⟩) n cap)),(1,some (.int .i64 (n:Int))),(2,some bS),(6,some (.int .i64 (y.bs:Int)))],wd [(0,some (aT y.l))] 1 [] 0,[]⟩) (fun y=>n-y.bs) ?_ ⟨20,R,hsl,by decide,.inl rfl,hch.1,hch.2⟩;clear hg hch hsl hR h hl ha hgo;intro ⟨bs,l,hl,hp,hb,hc,hf⟩;simp only;by_cases hgo:bs<n
 ·refine ae ?_;refine ae (ac (e:=?e11) (s':=?s11) fh ?h11 ?q11)
  case h11=>simp(disch:=decide) only[hoc,go_sem];all_goals rfl
  refine aZ (by simp(disch:=first|decide|omega) only[go_sem]<;>with_reducible rfl) ?_;refine aH ?_;refine aD ?_;refine ae (ac fh (by simp(disch:=first|decide|omega) only[hoc,go_sem]<;>with_reducible rfl) ?_);refine ae ?_;refine aD ?_;refine aU (s':=⟨aI [(0,some (.slice (some ⟨0,0,none⟩) n cap)),(1,some (.int .i64 (n:Int))),(2,some bS),(6,some (.int .i64 (bs:Int))),(7,some (.int .i64 ((0:Nat):Int))),(8,some (.int .i64 ((0+2*bs:Nat):Int)))],wd [(0,some (aT l))] 1 [] 0,[]⟩) (by rw[Nat.zero_add];exact ak (by simp(disch:=decide) [ai,ab,aa,ag,bS]) (by simp(disch:=decide) [ai,ab,aa,ag,aT]) (by decide)) ?_;refine bw (α:=Y0 l0 bs) (fun y=>⟨aI [(0,some (.slice (some ⟨0,0,none⟩) n cap)),(1,some (.int .i64 (n:Int))),(2,some bS),(6,some (.int .i64 (bs:Int))),(7,some (.int .i64 (y.a:Int))),(8,some (.int .i64 ((y.a+2*bs:Nat):Int)))],wd [(0,some (aT y.l))] 1 [] 0,[]⟩) (fun y=>n-y.a) ?_ ⟨0,l,hl,Z3 _,zY (2*bs) hc hf⟩;clear hc hf hl;intro ⟨a,r,hl,ha,h⟩;simp only;by_cases hgo2:a+2*bs<=n
  ·obtain⟨s1,s2,h'⟩:=h.elim fun h=>Cg h hp (by omega)
   have hg:dr lN A6 [.slice (some ⟨0,0,none⟩) n cap,.int .i64 (a:Int),.int .i64 ((a+bs:Nat):Int),.int .i64 ((a+2*bs:Nat):Int),bS] (wd [(0,some (aT r))] 1 [] 0)=some (.ret u0,wd [(0,some (aT (bH bg r a (a+2*bs)))),(0,some (aT r))] 1 [0] 1):=(m7 (ik (by decide)) (IF ⟨by omega,by omega,by omega,by omega,s1,s2⟩) (by omega)).trans (by simp only[di]);refine ae ?_;refine ae (ac (e:=?e14) (s':=?s14) fh ?h14 ?q14)
   case h14=>simp(disch:=decide) only[hoc,go_sem];all_goals rfl
   refine aZ (by simp(disch:=first|decide|omega) only[go_sem]<;>with_reducible rfl) ?_;refine aH ?_;refine aD ?_;refine ae (ac fh (by simp(disch:=first|decide|omega) only[hoc,Kd,hg,go_sem]<;>with_reducible rfl) ?_);refine ae (ac fh (by simp(disch:=decide) only[hoc,go_sem]<;>with_reducible rfl) ?_);refine ac fh (by simp(disch:=first|decide|omega) only[hoc,go_sem]<;>with_reducible rfl) ?_;refine⟨⟨a+2*bs,bH bg r a (a+2*bs),by rw[ew (by omega) (by omega),hl],by omega,h'⟩,by simp only;omega,?_⟩;exact ak (by simp(disch:=decide) [ai,ab,aa,ag,bS]) (by simp(disch:=decide) [ai,ab,aa,ag,aT]) (by decide)
  refine ae ?_;refine ae (ac (e:=?e19) (s':=?s19) fh ?h19 ?q19)
  case h19=>simp(disch:=decide) only[hoc,go_sem];all_goals rfl
  refine aO (by simp(disch:=first|decide|omega) only[go_sem]<;>with_reducible rfl) ?_;refine bp ?_;show bA _ _ _ _ _ _;refine ae ?_;refine ae (ac (e:=?e21) (s':=?s21) fh ?h21 ?q21)
  case h21=>simp(disch:=decide) only[hoc,go_sem];all_goals rfl
  obtain⟨R,hRl,hRc,hRf,hRe⟩:∃R,R.length=l0.length/\gY bg (2*bs) R/\(∀k,fk bg k R=fk bg k l0)/\(a+bs<n->dP bg (eU r a (a+bs))/\dP bg (eU r (a+bs) n)/\R=bH bg r a n)/\(n<=a+bs->R=r):=by
   rcases aaa (a+bs) n with q|q
   ·obtain⟨t1,t2,t3,t4⟩:=h.elim fun h=>BI h (by omega) (by omega)
    rw[show r.length=n by omega]at t2 t3 t4;exact⟨_,by rw[ew (by omega) (by omega),hl],t3,t4,fun _=>⟨t1,t2,rfl⟩,fun w=>by omega⟩
   obtain⟨t3,t4⟩:=h.elim fun h=>EX h (by omega)
   exact⟨r,hl,t3,t4,fun w=>by omega,fun _=>rfl⟩
  refine ae (ac (e:=?e22) (s':=?s22) fh ?h22 ?q22)
  case h22=>simp(disch:=decide) only[hoc,go_sem];all_goals rfl
  refine jb (Q:=xO Tryz.prog 1 ⟨aI [(0,some (.slice (some ⟨0,0,none⟩) n cap)),(1,some (.int .i64 (n:Int))),(2,some bS),(6,some (.int .i64 (bs:Int)))],wd [(0,some (aT R))] 1 [] 0,[]⟩) (fun e s' ⟨he,hq⟩=>?_) ?_
  ·subst he;refine aU hq ?_;refine ac fh (by simp(disch:=first|decide|omega) only[hoc,go_sem]<;>with_reducible rfl) ?_;refine⟨⟨bs*2,R,hRl,by omega,.inr (by omega),by rw[Nat.mul_comm];exact hRc,hRf⟩,by simp only;omega,?_⟩;exact ak (by simp(disch:=decide) [ai,ab,aa,ag,bS]) (by simp(disch:=decide) [ai,ab,aa,ag,aT]) (by decide)
  by_cases q:a+bs<n
  ·obtain⟨t1,t2,rfl⟩:=hRe.1 q;have hg:dr lN A6 [.slice (some ⟨0,0,none⟩) n cap,.int .i64 (a:Int),.int .i64 ((a+bs:Nat):Int),.int .i64 (n:Int),bS] (wd [(0,some (aT r))] 1 [] 0)=some (.ret u0,wd [(0,some (aT (bH bg r a n))),(0,some (aT r))] 1 [0] 1):=(m7 (ik (by decide)) (IF ⟨by omega,by omega,by omega,by omega,t1,t2⟩) (by omega)).trans (by simp only[di]);refine aZ (by simp(disch:=first|decide|omega) only[go_sem]<;>with_reducible rfl) ?_;refine ac fh (by simp(disch:=first|decide|omega) only[hoc,Kd,hg,go_sem]<;>with_reducible rfl) ?_;exact gQ (ak (by simp(disch:=decide) [ai,ab,aa,ag,bS]) (by simp(disch:=decide) [ai,ab,aa,ag,aT]) (by decide))
  obtain rfl:=hRe.2 (by omega);refine aO (by simp(disch:=first|decide|omega) only[go_sem]<;>with_reducible rfl) ?_;refine aH ?_;exact gQ (ak (by simp(disch:=decide) [ai,ab,aa,ag,bS]) (by simp(disch:=decide) [ai,ab,aa,ag,aT]) (by decide))
 refine ae ?_;refine ae (ac (e:=?e27) (s':=?s27) fh ?h27 ?q27)
 case h27=>simp(disch:=decide) only[hoc,go_sem];all_goals rfl
 refine aO (by simp(disch:=first|decide|omega) only[go_sem]<;>with_reducible rfl) ?_;refine bp ?_;refine⟨_,?e29,?W29,rfl,?h29,?q29⟩
 case h29=>simp(disch:=decide) only[Tryz.results119,go_sem];all_goals rfl
 refine⟨rfl,?_⟩;rw[<-Dk hc hf (by omega)];simp(disch:=decide) only[go_sem]
def nQ(cap:Nat)(l:List bC):Option (Value×List bC):=if l.length<=fE then some (u0,cg bg l)else none
theorem Ym(n:Nat)(a:Nat)(l:List bC):iP (cM (only n)) (EB.args n a l) (EB.args 0 a l):=
 ax (bI ip) (ax (ar 1 rfl) (ax (mF _ ah) aX))
theorem Ye:bD Tryz.prog 119 (dr EB nQ):=jS (enters_of (by kernel_rfl)) Ym iq (fun a b v b' h=>by
 unfold nQ at h;split at h
 ·cases h;exact aG 8 rfl
 ·cases h) (fun a l v b' h=>by
 unfold nQ at h;split at h
 ·rename_i hc;cases h;exact Kf l a hc
 cases h)
noncomputable def Xo:List (FuncId×HF):=[(119,dr EB nQ)]
theorem Ki:dv Tryz.prog (cE Xo []):=⟨mixed,bU (.cons _ _ _ Ye .nil) .nil⟩
def C5(n:Nat)(cap:Nat)(l:List bC):List Value:=[.slice (some ⟨n,0,none⟩) l.length cap,bS]
def vd:nw Nat (List bC) where
 args:=C5
 row:=aT
 inj n a b n' a' b' h:=by unfold C5 at h;injection h with h1 h;injection h1 with h1 _ hc;injection h1 with h1;injection h1 with h1;exact⟨h1,hc⟩
 rinj:=qU
theorem J8(l:List bC)(cap:Nat)(hn:l.length<=fE) :
 aN Tryz.prog 105 (C5 0 cap l) (wd [(0,some (aT l))] 1 [] 0) fun e W'=>e=.ret u0/\W'.get 0=some (aT (cg bg l)):=by
 have hoc:bk bS=true:=rfl;have hg:dr EB nQ [.slice (some ⟨0,0,none⟩) l.length cap,.int .i64 (l.length:Int),bS] (wd [(0,some (aT l))] 1 [] 0)=some (.ret u0,wd [(0,some (aT (cg bg l))),(0,some (aT l))] 1 [0] 1):=(ng (E:=EB) (a:=cap) (ik (by decide)) (show nQ cap l=_ from if_pos hn)).trans (by simp only[di];rfl);show aN _ _ [.slice (some ⟨0,0,none⟩) l.length cap,bS] _ _;refine be Ki Tryz.func105 rfl (Nat.le_of_ble_eq_true rfl) ?_;simp only[aY.eq_1,aY.eq_2,bf,Tryz.ntmps105,reduceAdd];refine ac (e:=?e30) (s':=?s30) Ki ?h30 ?q30
 case h30=>simp(disch:=decide) only[hoc,Xo,hg,go_sem];all_goals rfl
 refine⟨_,?e31,?W31,rfl,?h31,?q31⟩
 case h31=>simp(disch:=decide) only[Tryz.results105,go_sem];all_goals rfl
 refine⟨rfl,?_⟩;simp(disch:=decide) only[go_sem]
theorem X7(n:Nat)(a:Nat)(l:List bC):iP (cM (only n)) (vd.args n a l) (vd.args 0 a l):=
 ax (bI ip) (ax (mF _ ah) aX)
theorem YD:bD Tryz.prog 105 (dr vd nQ):=jS (enters_of (by kernel_rfl)) X7 iq (fun a b v b' h=>by
 unfold nQ at h;split at h
 ·cases h;exact aG 8 rfl
 ·cases h) (fun a l v b' h=>by
 unfold nQ at h;split at h
 ·rename_i hc;cases h;exact J8 l a hc
 cases h)
def jg{α:Type}:List α->Nat
 |[]=>0
 |_::_=>aM
def ql:Nat:=17179869184
theorem Di{P:Program}{t e:TypeId}{x y:Operand}{c:List Value}{n:Nat}(hu:P.underlying t=some (.slice e)):eJ P .eql t x y (some (FZ c n)) (some (.slice none 0 0))=some (.val (some (.bool false))):=by
 show Be .eql (sU P t (FZ c n) (.slice none 0 0))=_;unfold sU;rw[hu];rfl
theorem uX{c:List Value}{n:Nat}:lm (FZ c n)=some n:=rfl
theorem zc{W:XW}{s n:Nat}{c:List Value}(h:c.length=n*s):fg W s n (FZ c n)=some c:=by
 show(bif Nat.beq (c.take (n*s)).length (n*s)then some (c.take (n*s))else none)=_;rw[List.take_of_length_le (by rw[h];exact Nat.le_refl _),h,ZY];rfl
def nD(f:List aC->List aC)(o:Option (List aC)):Aq:=match o with
 |none=>(fun _=>.slice none 0 0,none)
 |some l=>(fun n=>.slice (some ⟨n,0,none⟩) l.length (jg l),some (aS (f l)))
def qe(o:Option (List aC)):List Value:=[al an o]
def small{α:Type}(o:Option (List α)):Prop:=(ao o).length<=ql
instance {α:Type}(o:Option (List α)):Decidable (small o):=Nat.decLe _ _
theorem LY(l:List aC):(l.flatMap an).length=l.length*3:=dF cD l
theorem zQ(o:Option (List aC))(hs:small o):aN Tryz.prog 100 (qe o) (wd [] 0 [] 0) fun e W'=>match o with
 |none=>e=.ret (.slice none 0 0)
 |some l=>∃b,e=.ret (.slice (some ⟨b,0,none⟩) l.length (jg l))/\W'.get b=some (aS l):=by
 cases o with
 |none=>
  show aN _ _ [.slice none 0 0] _ _;refine be av Tryz.func100 rfl (Nat.le_of_ble_eq_true rfl) ?_;simp only[aY.eq_1,aY.eq_2,bf,Tryz.ntmps100,reduceAdd];refine ae (ac (e:=?e1) (s':=?s1) av ?h1 ?q1)
  case h1=>simp(disch:=decide) only[go_sem];all_goals rfl
  refine ae ?_;have hq:∀(x y:Operand),eJ Tryz.prog .eql 38 x y (some (.slice none 0 0)) (some (.slice none 0 0))=some (.val (some (.bool true))):=fun x y=>by kernel_rfl
  refine ae (ac (e:=?e2) (s':=?s2) av ?h2 ?q2)
  case h2=>simp(disch:=decide) only[hq,go_sem];all_goals rfl
  refine aZ ?h3 ?q3
  case h3=>simp(disch:=decide) only[go_sem];all_goals rfl
  refine ae (ac (e:=?e4) (s':=?s4) av ?h4 ?q4)
  case h4=>simp(disch:=decide) only[go_sem];all_goals rfl
  refine bh ?_;refine⟨_,?e5,?W5,rfl,?h5,?q5⟩
  case h5=>simp(disch:=decide) only[Tryz.results100,go_sem];all_goals rfl
  rfl
 |some l=>
  have hs:l.length<=ql:=hs;unfold ql at hs;show aN _ _ [FZ (l.flatMap an) l.length] _ _;refine be av Tryz.func100 rfl (Nat.le_of_ble_eq_true rfl) ?_;simp only[aY.eq_1,aY.eq_2,bf,Tryz.ntmps100,reduceAdd];refine ae (ac (e:=?e6) (s':=?s6) av ?h6 ?q6)
  case h6=>simp(disch:=decide) only[go_sem];all_goals rfl
  refine ae ?_;refine ae (ac (e:=?e7) (s':=?s7) av ?h7 ?q7)
  case h7=>simp(disch:=decide) only[Di Tryz.underlying38,go_sem];all_goals rfl
  refine aO ?h8 ?q8
  case h8=>simp(disch:=decide) only[go_sem];all_goals rfl
  refine aH ?_;cases l with
  |nil=>
   have hsrc:∀W:XW,fg W 3 0 (FZ [] 0)=some []:=fun W=>rfl
   refine ae (ac (e:=?e9) (s':=?s9) av ?h9 ?q9)
   case h9=>simp(disch:=decide) only[uX,hsrc,abd,go_sem];all_goals rfl
   refine bh ?_;refine⟨_,?e10,?W10,rfl,?h10,?q10⟩
   case h10=>simp(disch:=decide) only[Tryz.results100,go_sem];all_goals rfl
   refine⟨0,rfl,?_⟩;simp(disch:=first|decide|omega) only[aS,abd,go_sem]
  |cons x l=>
   obtain⟨k,hk⟩:∃k,k=l.length+1:=⟨_,rfl⟩;obtain⟨c,hc⟩:∃c,c=(x::l).flatMap an:=⟨_,rfl⟩;have hall:c.all bk=true:=by rw[hc];exact mG gh _
   have hlen:c.length=k*3:=by rw[hc,hk];exact LY _
   have hsrc:∀W:XW,fg W 3 k (FZ c k)=some c:=fun W=>zc hlen
   have hkl:(x::l).length=k:=by rw[hk];rfl
   have hk0:0<k:=by omega
   rw[<-hc,hkl];have hs:k<=17179869184:=by rw[<-hkl];exact hs
   refine ae (ac av (by simp(disch:=first|decide|omega) only[uX,hsrc,hall,hlen,show bm 0=false from rfl,go_sem]<;>with_reducible rfl) ?_);refine bh ?_;refine⟨_,?e12,?W12,rfl,?h12,?q12⟩
   case h12=>simp(disch:=decide) only[Tryz.results100,go_sem];all_goals rfl
   refine⟨1,rfl,?_⟩;unfold aS;rw[<-hc];simp(disch:=decide) only[go_sem]
theorem WH:bD Tryz.prog 100 (i8 qe fun o=>if small o then some (nD id o)else none):=xP (enters_of (by kernel_rfl)) (fun o=>aw (aB aW o) aQ)
 (fun o v h=>by
  split at h
  ·rename_i hs;cases o with
   |none=>cases h;exact⟨aG 1 rfl,zQ none hs⟩
   |some l=>cases h
  cases h)
 (fun o v ob h=>by
  split at h
  ·rename_i hs;cases o with
   |none=>cases h
   |some l=>cases h;exact⟨gL _,fun b n θ q=>bI q,zQ (some l) hs⟩
  cases h)
theorem Ll{o o':Option (List aC)}(h:qe o=qe o'):o=o':=by
 unfold qe at h;injection h with h _;exact fQ cD gP (by decide) h
theorem OD{o:Option (List aC)}{W:XW}(hs:small o):i8 qe (fun o=>if small o then some (nD id o)else none) [al an o] W=some (Ap W (nD id o)):=tz (enc:=qe) (fun b h=>by rw[Ll h]) (by simp only[if_pos hs])
def vQ(_:Unit):List Value:=[.slice none 0 0,bT]
set_option maxRecDepth 100000 in
theorem MK:Gk Hb (eP Tryz.prog (cE [] []) 400 (.call 101 [.slice none 0 0,bT] (wd [] 0 [] 0)))=true:=by kernel_rfl
theorem I8(u:Unit):aN Tryz.prog 101 (vQ u) (wd [] 0 [] 0) fun e W'=>e=.ret u0:=by
 obtain⟨e,W',h1,h2⟩:=ER MK;exact aN.mono (xV av 400 h1) fun e2 W2 ⟨q1,q2⟩=>by rw[q1,E3 h2]
theorem XJ:bD Tryz.prog 101 (ju (dr vK nM) (bu (cN vQ fun _=>u0))):=
 o6 XC (fa (enters_of (by kernel_rfl)) (fun _=>aw (aG 1 rfl) (aw mN aQ)) (fun _=>aG 8 rfl) I8)
theorem Pf{W:XW}{k n cap:Nat}{l:List aC}(hW:W.get k=some (aS l))(hl:l.length<=fE)(hn:n=l.length):ju (dr vK nM) (bu (cN vQ fun _=>u0)) [.slice (some ⟨k,0,none⟩) n cap,bT] W=some (.ret u0,W.put k (some (aS (cg bi l)))):=by
 subst hn;exact iH (ng (E:=vK) (a:=cap) hW (show nM cap l=_ from if_pos hl))
theorem MS{W:XW}:ju (dr vK nM) (bu (cN vQ fun _=>u0)) [.slice none 0 0,bT] W=some (.ret u0,W):=by
 refine pj ?_ (eu (enc:=vQ) (a:=()) fun b h=>rfl);cases e:dr vK nM [.slice none 0 0,bT] W with
 |none=>rfl
 |some r=>
  obtain⟨e',W'⟩:=r;obtain⟨n,a,b,v,b',h1,_⟩:=u3 e;have h1:[Value.slice none 0 0,bT]=DE n a b:=h1;unfold DE at h1;injection h1 with h1 _;cases h1
noncomputable def JN:List (FuncId×HF):=[(100,i8 qe fun o=>if small o then some (nD id o)else none),(101,ju (dr vK nM) (bu (cN vQ fun _=>u0)))]
theorem jj:dv Tryz.prog (cE JN []):=⟨mixed,bU (.cons _ _ _ WH (.cons _ _ _ XJ .nil)) .nil⟩
theorem N6:TV (fl 0 [nN]) (.func (.func 102) #[] #[.pointer (some ⟨0,0,none⟩)]) bT:=
 lJ (xs:=[]) (xs':=[]) (cs:=[.pointer (some ⟨0,0,none⟩)]) (cs':=[FP [nN]]) aX (ax (wF (o:=0) (q:=1) (c:=[nN])) aX)
theorem eb{P:Program}{n:Nat}{c:List Value}{o:bb}:TO P (fl n c) o o:=fun ρ ρ' i ob ht ho=>ho.mono ⟨ht.2.1,ht.1⟩
theorem Oh{L:List (Nat×Option bb)}{a:bb}(hL:lk L 1=some a)(m:Nat)(o':bb)(h:lk ((0,none)::[(1,some a)]) m=some o'):lk L m=some o':=by
 by_cases e1:m=1
 ·subst e1;rw[aa (by decide),ab]at h;cases h;exact hL
 by_cases e0:m=0
 ·subst e0;rw[ab]at h;cases h
 rw[aa (by omega),aa (by omega)]at h;cases h
theorem J6{L:List (Nat×Option bb)}{P:Program}{n:Nat}{c:List Value}(m:Nat)(o':bb)(h:lk ((0,none)::[]) m=some o'):m<n->∃o,lk L m=some o/\TO P (fl 0 c) o o':=by
 rcases Nat.eq_zero_or_pos m with rfl|hm
 ·rw[ab]at h;cases h
 rw[aa (by omega)]at h;cases h
def pL(o:Option (List aC)):List Value:=[al an o,nN]
theorem zA(o:Option (List aC))(hs:small o):aN Tryz.prog 65 (pL o) (wd [] 0 [] 0) fun e W'=>match o with
 |none=>e=.ret (.slice none 0 0)
 |some l=>∃b,e=.ret (.slice (some ⟨b,0,none⟩) l.length (jg l))/\W'.get b=some (aS (cg bi l)):=by
 have hoc:bk (al an o)=true:=bL o;have hok:bk nN=true:=rfl;have hfk:cb 8 nN=true:=rfl;have hc:=fun W=>OD (W:=W) hs
 show aN _ _ [al an o,nN] _ _;refine be jj Tryz.func65 rfl (Nat.le_of_ble_eq_true rfl) ?_;simp only[aY.eq_1,aY.eq_2,bf,Tryz.ntmps65,reduceAdd];refine ae (ac (e:=?e13) (s':=?s13) jj ?h13 ?q13)
 case h13=>simp(disch:=decide) only[hoc,hok,go_sem];all_goals rfl
 cases o with
 |none=>
  have hc':∀W,i8 qe (fun o=>if small o then some (nD id o)else none) [.slice none 0 0] W=some (.ret (.slice none 0 0),W):=hc;have h0:al an (none:Option (List aC))=.slice none 0 0:=rfl;refine ae (ac (e:=?e14) (s':=?s14) jj ?h14 ?q14)
  case h14=>simp(disch:=decide) only[JN,hc',h0,go_sem];all_goals rfl
  refine ae (cI ?_);refine aP jj 1 (s1:=?sA) ?hA ?qA
  case hA=>simp(disch:=decide) only[go_sem];all_goals rfl
  refine aP jj 1 (s1:=?sB) ?hB ?qB
  case hB=>simp(disch:=decide) only[go_sem];all_goals rfl
  refine ec (s':=⟨aI [(5,some (.slice none 0 0)),(8,some (.slice none 0 0)),(9,some bT)],wd [(0,none)] 1 [] 0,[]⟩) ?hfA ?_
  case hfA=>exact dH (x:=0) (c:=[nN]) rfl (by decide) (by decide) (af (by decide) rfl bP (af (by decide) rfl bP (af (by decide) rfl N6 aR))) [] (fun m o' h=>J6 m o' h) .nil
  refine aP jj 1 (s1:=?sC) ?hC (cY ?qC)
  case hC=>simp(disch:=decide) only[JN,MS,go_sem];all_goals rfl
  refine ae (ac (e:=?e15) (s':=?s15) jj ?h15 ?q15)
  case h15=>simp(disch:=decide) only[go_sem];all_goals rfl
  refine bh ?_;refine⟨_,?e16,?W16,rfl,?h16,?q16⟩
  case h16=>simp(disch:=decide) only[Tryz.results65,go_sem];all_goals rfl
  rfl
 |some l=>
  have hl:l.length<=fE:=Nat.le_trans (show l.length<=ql from hs) (by decide);have hc':∀W,i8 qe (fun o=>if small o then some (nD id o)else none) [al an (some l)] W=some (.ret (.slice (some ⟨W.next,0,none⟩) l.length (jg l)),W.push (aS l)):=hc;have hg:ju (dr vK nM) (bu (cN vQ fun _=>u0)) [.slice (some ⟨1,0,none⟩) l.length (jg l),bT] (wd [(0,none),(1,some (aS l))] 2 [] 0)=some (.ret u0,wd [(1,some (aS (cg bi l))),(0,none),(1,some (aS l))] 2 [1] 1):=(Pf (by rw[bO (by decide) (by decide)];simp(disch:=decide) only[ab,aa]) hl rfl).trans (by simp only[di]);refine ae (ac (e:=?e17) (s':=?s17) jj ?h17 ?q17)
  case h17=>simp(disch:=decide) only[JN,hc',go_sem];all_goals rfl
  refine ae (cI ?_);refine aP jj 1 (s1:=?sD) ?hD ?qD
  case hD=>simp(disch:=decide) only[go_sem];all_goals rfl
  refine aP jj 1 (s1:=?sE) ?hE ?qE
  case hE=>simp(disch:=decide) only[go_sem];all_goals rfl
  refine ec (s':=⟨aI [(5,some (.slice (some ⟨1,0,none⟩) l.length (jg l))),(8,some (.slice (some ⟨1,0,none⟩) l.length (jg l))),(9,some bT)],wd [(0,none),(1,some (aS l))] 2 [] 0,[]⟩) ?hfB ?_
  case hfB=>exact dH (x:=0) (c:=[nN]) rfl (by decide) (by decide) (af (by decide) rfl bP (af (by decide) rfl bP (af (by decide) rfl N6 aR))) [(1,some (aS l))] (fun m o' h hm=>⟨o',Oh rfl m o' h,eb⟩) .nil
  refine aP jj 1 (s1:=?sF) ?hF (cY ?qF)
  case hF=>simp(disch:=decide) only[JN,hg,go_sem];all_goals rfl
  refine ae (ac (e:=?e18) (s':=?s18) jj ?h18 ?q18)
  case h18=>simp(disch:=decide) only[go_sem];all_goals rfl
  refine bh ?_;refine⟨_,?e19,?W19,rfl,?h19,?q19⟩
  case h19=>simp(disch:=decide) only[Tryz.results65,go_sem];all_goals rfl
  refine⟨1,rfl,?_⟩;simp(disch:=decide) only[go_sem]
theorem Xd:bD Tryz.prog 65 (i8 pL fun o=>if small o then some (nD (cg bi) o)else none):=xP (enters_of (by kernel_rfl)) (fun o=>aw (aB aW o) (aw (aG 8 rfl) aQ))
 (fun o v h=>by
  split at h
  ·rename_i hs;cases o with
   |none=>cases h;exact⟨aG 1 rfl,zA none hs⟩
   |some l=>cases h
  cases h)
 (fun o v ob h=>by
  split at h
  ·rename_i hs;cases o with
   |none=>cases h
   |some l=>cases h;exact⟨gL _,fun b n θ q=>bI q,zA (some l) hs⟩
  cases h)
theorem RK{o:Option (List aC)}{W:XW}(hs:small o):i8 pL (fun o=>if small o then some (nD (cg bi) o)else none) [al an o,nN] W=some (Ap W (nD (cg bi) o)):=tz (enc:=pL) (fun b h=>by
 unfold pL at h;injection h with h _;rw[fQ cD gP (by decide) h]) (by simp only[if_pos hs])
def nE(f:List bC->List bC)(o:Option (List bC)):Aq:=match o with
 |none=>(fun _=>.slice none 0 0,none)
 |some l=>(fun n=>.slice (some ⟨n,0,none⟩) l.length (jg l),some (aT (f l)))
def pR(o:Option (List bC)):List Value:=[al az o]
theorem Lh(l:List bC):(l.flatMap az).length=l.length*2:=dF cW l
theorem Ao(o:Option (List bC))(hs:small o):aN Tryz.prog 104 (pR o) (wd [] 0 [] 0) fun e W'=>match o with
 |none=>e=.ret (.slice none 0 0)
 |some l=>∃b,e=.ret (.slice (some ⟨b,0,none⟩) l.length (jg l))/\W'.get b=some (aT l):=by
 cases o with
 |none=>
  show aN _ _ [.slice none 0 0] _ _;refine be av Tryz.func104 rfl (Nat.le_of_ble_eq_true rfl) ?_;simp only[aY.eq_1,aY.eq_2,bf,Tryz.ntmps104,reduceAdd];refine ae (ac (e:=?e1) (s':=?s1) av ?h1 ?q1)
  case h1=>simp(disch:=decide) only[go_sem];all_goals rfl
  refine ae ?_;have hq:∀(x y:Operand),eJ Tryz.prog .eql 56 x y (some (.slice none 0 0)) (some (.slice none 0 0))=some (.val (some (.bool true))):=fun x y=>by kernel_rfl
  refine ae (ac (e:=?e2) (s':=?s2) av ?h2 ?q2)
  case h2=>simp(disch:=decide) only[hq,go_sem];all_goals rfl
  refine aZ ?h3 ?q3
  case h3=>simp(disch:=decide) only[go_sem];all_goals rfl
  refine ae (ac (e:=?e4) (s':=?s4) av ?h4 ?q4)
  case h4=>simp(disch:=decide) only[go_sem];all_goals rfl
  refine bh ?_;refine⟨_,?e5,?W5,rfl,?h5,?q5⟩
  case h5=>simp(disch:=decide) only[Tryz.results104,go_sem];all_goals rfl
  rfl
 |some l=>
  have hs:l.length<=ql:=hs;unfold ql at hs;show aN _ _ [FZ (l.flatMap az) l.length] _ _;refine be av Tryz.func104 rfl (Nat.le_of_ble_eq_true rfl) ?_;simp only[aY.eq_1,aY.eq_2,bf,Tryz.ntmps104,reduceAdd];refine ae (ac (e:=?e6) (s':=?s6) av ?h6 ?q6)
  case h6=>simp(disch:=decide) only[go_sem];all_goals rfl
  refine ae ?_;refine ae (ac (e:=?e7) (s':=?s7) av ?h7 ?q7)
  case h7=>simp(disch:=decide) only[Di Tryz.underlying56,go_sem];all_goals rfl
  refine aO ?h8 ?q8
  case h8=>simp(disch:=decide) only[go_sem];all_goals rfl
  refine aH ?_;cases l with
  |nil=>
   have hsrc:∀W:XW,fg W 2 0 (FZ [] 0)=some []:=fun W=>rfl
   refine ae (ac (e:=?e9) (s':=?s9) av ?h9 ?q9)
   case h9=>simp(disch:=decide) only[uX,hsrc,abd,go_sem];all_goals rfl
   refine bh ?_;refine⟨_,?e10,?W10,rfl,?h10,?q10⟩
   case h10=>simp(disch:=decide) only[Tryz.results104,go_sem];all_goals rfl
   refine⟨0,rfl,?_⟩;simp(disch:=first|decide|omega) only[aT,abd,go_sem]
  |cons x l=>
   obtain⟨k,hk⟩:∃k,k=l.length+1:=⟨_,rfl⟩;obtain⟨c,hc⟩:∃c,c=(x::l).flatMap az:=⟨_,rfl⟩;have hall:c.all bk=true:=by rw[hc];exact mG iD _
   have hlen:c.length=k*2:=by rw[hc,hk];exact Lh _
   have hsrc:∀W:XW,fg W 2 k (FZ c k)=some c:=fun W=>zc hlen
   have hkl:(x::l).length=k:=by rw[hk];rfl
   have hk0:0<k:=by omega
   rw[<-hc,hkl];have hs:k<=17179869184:=by rw[<-hkl];exact hs
   refine ae (ac av (by simp(disch:=first|decide|omega) only[uX,hsrc,hall,hlen,show bm 0=false from rfl,go_sem]<;>with_reducible rfl) ?_);refine bh ?_;refine⟨_,?e12,?W12,rfl,?h12,?q12⟩
   case h12=>simp(disch:=decide) only[Tryz.results104,go_sem];all_goals rfl
   refine⟨1,rfl,?_⟩;unfold aT;rw[<-hc];simp(disch:=decide) only[go_sem]
theorem Wa:bD Tryz.prog 104 (i8 pR fun o=>if small o then some (nE id o)else none):=xP (enters_of (by kernel_rfl)) (fun o=>aw (aB bB o) aQ)
 (fun o v h=>by
  split at h
  ·rename_i hs;cases o with
   |none=>cases h;exact⟨aG 1 rfl,Ao none hs⟩
   |some l=>cases h
  cases h)
 (fun o v ob h=>by
  split at h
  ·rename_i hs;cases o with
   |none=>cases h
   |some l=>cases h;exact⟨iq _,fun b n θ q=>bI q,Ao (some l) hs⟩
  cases h)
theorem Ln{o o':Option (List bC)}(h:pR o=pR o'):o=o':=by
 unfold pR at h;injection h with h _;exact fQ cW lE (by decide) h
theorem Pi{o:Option (List bC)}{W:XW}(hs:small o):i8 pR (fun o=>if small o then some (nE id o)else none) [al az o] W=some (Ap W (nE id o)):=tz (enc:=pR) (fun b h=>by rw[Ln h]) (by simp only[if_pos hs])
def wy(_:Unit):List Value:=[.slice none 0 0,bS]
set_option maxRecDepth 100000 in
theorem Mg:Gk Hb (eP Tryz.prog (cE [] []) 400 (.call 105 [.slice none 0 0,bS] (wd [] 0 [] 0)))=true:=by kernel_rfl
theorem Jk(u:Unit):aN Tryz.prog 105 (wy u) (wd [] 0 [] 0) fun e W'=>e=.ret u0:=by
 obtain⟨e,W',h1,h2⟩:=ER Mg;exact aN.mono (xV av 400 h1) fun e2 W2 ⟨q1,q2⟩=>by rw[q1,E3 h2]
theorem YO:bD Tryz.prog 105 (ju (dr vd nQ) (bu (cN wy fun _=>u0))):=
 o6 YD (fa (enters_of (by kernel_rfl)) (fun _=>aw (aG 1 rfl) (aw mF aQ)) (fun _=>aG 8 rfl) Jk)
theorem Pv{W:XW}{k n cap:Nat}{l:List bC}(hW:W.get k=some (aT l))(hl:l.length<=fE)(hn:n=l.length):ju (dr vd nQ) (bu (cN wy fun _=>u0)) [.slice (some ⟨k,0,none⟩) n cap,bS] W=some (.ret u0,W.put k (some (aT (cg bg l)))):=by
 subst hn;exact iH (ng (E:=vd) (a:=cap) hW (show nQ cap l=_ from if_pos hl))
theorem Mp{W:XW}:ju (dr vd nQ) (bu (cN wy fun _=>u0)) [.slice none 0 0,bS] W=some (.ret u0,W):=by
 refine pj ?_ (eu (enc:=wy) (a:=()) fun b h=>rfl);cases e:dr vd nQ [.slice none 0 0,bS] W with
 |none=>rfl
 |some r=>
  obtain⟨e',W'⟩:=r;obtain⟨n,a,b,v,b',h1,_⟩:=u3 e;have h1:[Value.slice none 0 0,bS]=C5 n a b:=h1;unfold C5 at h1;injection h1 with h1 _;cases h1
noncomputable def Ja:List (FuncId×HF):=[(104,i8 pR fun o=>if small o then some (nE id o)else none),(105,ju (dr vd nQ) (bu (cN wy fun _=>u0)))]
theorem jt:dv Tryz.prog (cE Ja []):=⟨mixed,bU (.cons _ _ _ Wa (.cons _ _ _ YO .nil)) .nil⟩
theorem N0:TV (fl 0 [nS]) (.func (.func 106) #[] #[.pointer (some ⟨0,0,none⟩)]) bS:=
 lJ (xs:=[]) (xs':=[]) (cs:=[.pointer (some ⟨0,0,none⟩)]) (cs':=[FP [nS]]) aX (ax (wF (o:=0) (q:=1) (c:=[nS])) aX)
def pk(o:Option (List bC)):List Value:=[al az o,nS]
theorem zJ(o:Option (List bC))(hs:small o):aN Tryz.prog 67 (pk o) (wd [] 0 [] 0) fun e W'=>match o with
 |none=>e=.ret (.slice none 0 0)
 |some l=>∃b,e=.ret (.slice (some ⟨b,0,none⟩) l.length (jg l))/\W'.get b=some (aT (cg bg l)):=by
 have hoc:bk (al az o)=true:=bL o;have hok:bk nS=true:=rfl;have hfk:cb 8 nS=true:=rfl;have hc:=fun W=>Pi (W:=W) hs
 show aN _ _ [al az o,nS] _ _;refine be jt Tryz.func67 rfl (Nat.le_of_ble_eq_true rfl) ?_;simp only[aY.eq_1,aY.eq_2,bf,Tryz.ntmps67,reduceAdd];refine ae (ac (e:=?e13) (s':=?s13) jt ?h13 ?q13)
 case h13=>simp(disch:=decide) only[hoc,hok,go_sem];all_goals rfl
 cases o with
 |none=>
  have hc':∀W,i8 pR (fun o=>if small o then some (nE id o)else none) [.slice none 0 0] W=some (.ret (.slice none 0 0),W):=hc;have h0:al az (none:Option (List bC))=.slice none 0 0:=rfl;refine ae (ac (e:=?e14) (s':=?s14) jt ?h14 ?q14)
  case h14=>simp(disch:=decide) only[Ja,hc',h0,go_sem];all_goals rfl
  refine ae (cI ?_);refine aP jt 1 (s1:=?sA) ?hA ?qA
  case hA=>simp(disch:=decide) only[go_sem];all_goals rfl
  refine aP jt 1 (s1:=?sB) ?hB ?qB
  case hB=>simp(disch:=decide) only[go_sem];all_goals rfl
  refine ec (s':=⟨aI [(5,some (.slice none 0 0)),(8,some (.slice none 0 0)),(9,some bS)],wd [(0,none)] 1 [] 0,[]⟩) ?hfA ?_
  case hfA=>exact dH (x:=0) (c:=[nS]) rfl (by decide) (by decide) (af (by decide) rfl bP (af (by decide) rfl bP (af (by decide) rfl N0 aR))) [] (fun m o' h=>J6 m o' h) .nil
  refine aP jt 1 (s1:=?sC) ?hC (cY ?qC)
  case hC=>simp(disch:=decide) only[Ja,Mp,go_sem];all_goals rfl
  refine ae (ac (e:=?e15) (s':=?s15) jt ?h15 ?q15)
  case h15=>simp(disch:=decide) only[go_sem];all_goals rfl
  refine bh ?_;refine⟨_,?e16,?W16,rfl,?h16,?q16⟩
  case h16=>simp(disch:=decide) only[Tryz.results67,go_sem];all_goals rfl
  rfl
 |some l=>
  have hl:l.length<=fE:=Nat.le_trans (show l.length<=ql from hs) (by decide);have hc':∀W,i8 pR (fun o=>if small o then some (nE id o)else none) [al az (some l)] W=some (.ret (.slice (some ⟨W.next,0,none⟩) l.length (jg l)),W.push (aT l)):=hc;have hg:ju (dr vd nQ) (bu (cN wy fun _=>u0)) [.slice (some ⟨1,0,none⟩) l.length (jg l),bS] (wd [(0,none),(1,some (aT l))] 2 [] 0)=some (.ret u0,wd [(1,some (aT (cg bg l))),(0,none),(1,some (aT l))] 2 [1] 1):=(Pv (by rw[bO (by decide) (by decide)];simp(disch:=decide) only[ab,aa]) hl rfl).trans (by simp only[di]);refine ae (ac (e:=?e17) (s':=?s17) jt ?h17 ?q17)
  case h17=>simp(disch:=decide) only[Ja,hc',go_sem];all_goals rfl
  refine ae (cI ?_);refine aP jt 1 (s1:=?sD) ?hD ?qD
  case hD=>simp(disch:=decide) only[go_sem];all_goals rfl
  refine aP jt 1 (s1:=?sE) ?hE ?qE
  case hE=>simp(disch:=decide) only[go_sem];all_goals rfl
  refine ec (s':=⟨aI [(5,some (.slice (some ⟨1,0,none⟩) l.length (jg l))),(8,some (.slice (some ⟨1,0,none⟩) l.length (jg l))),(9,some bS)],wd [(0,none),(1,some (aT l))] 2 [] 0,[]⟩) ?hfB ?_
  case hfB=>exact dH (x:=0) (c:=[nS]) rfl (by decide) (by decide) (af (by decide) rfl bP (af (by decide) rfl bP (af (by decide) rfl N0 aR))) [(1,some (aT l))] (fun m o' h hm=>⟨o',Oh rfl m o' h,eb⟩) .nil
  refine aP jt 1 (s1:=?sF) ?hF (cY ?qF)
  case hF=>simp(disch:=decide) only[Ja,hg,go_sem];all_goals rfl
  refine ae (ac (e:=?e18) (s':=?s18) jt ?h18 ?q18)
  case h18=>simp(disch:=decide) only[go_sem];all_goals rfl
  refine bh ?_;refine⟨_,?e19,?W19,rfl,?h19,?q19⟩
  case h19=>simp(disch:=decide) only[Tryz.results67,go_sem];all_goals rfl
  refine⟨1,rfl,?_⟩;simp(disch:=decide) only[go_sem]
theorem WK:bD Tryz.prog 67 (i8 pk fun o=>if small o then some (nE (cg bg) o)else none):=xP (enters_of (by kernel_rfl)) (fun o=>aw (aB bB o) (aw (aG 8 rfl) aQ))
 (fun o v h=>by
  split at h
  ·rename_i hs;cases o with
   |none=>cases h;exact⟨aG 1 rfl,zJ none hs⟩
   |some l=>cases h
  cases h)
 (fun o v ob h=>by
  split at h
  ·rename_i hs;cases o with
   |none=>cases h
   |some l=>cases h;exact⟨iq _,fun b n θ q=>bI q,zJ (some l) hs⟩
  cases h)
theorem Rd{o:Option (List bC)}{W:XW}(hs:small o):i8 pk (fun o=>if small o then some (nE (cg bg) o)else none) [al az o,nS] W=some (Ap W (nE (cg bg) o)):=tz (enc:=pk) (fun b h=>by
 unfold pk at h;injection h with h _;rw[fQ cW lE (by decide) h]) (by simp only[if_pos hs])
section
variable {P:Program} {α:Type} {g:α->List Value} {m:Nat}
theorem Do(hl:∀x,(g x).length=m):∀(l:List α) (k:Nat),(l.flatMap g).drop (k*m)=(l.drop k).flatMap g
 |[],k=>by simp
 |a::l,0=>by simp
 |a::l,k+1=>by rw[Z8,aaO,aau,<-List.drop_drop,aaS (hl a),List.drop_succ_cons,Do hl l k]
theorem Bm(hl:∀x,(g x).length=m):∀(l:List α) (k:Nat),(l.flatMap g).take (k*m)=(l.take k).flatMap g
 |[],k=>by simp
 |a::l,0=>by simp
 |a::l,k+1=>by
  rw[Z8,aaO,aau,List.take_append,hl,aaM,List.take_of_length_le (by rw[hl];omega),List.take_succ_cons,Z8,Bm hl l k]
def pc(o:Option (List α))(a b:Nat):Option (List α):=o.map fun l=>(l.take b).drop a
theorem H5(o:Option (List α))(a b:Nat):ao (pc o a b)=((ao o).take b).drop a:=by cases o<;>simp[pc,ao]
def sR(g:α->List Value)(o:Option (List α)):Option Nat->Option Nat->Option XR
 |some a,some b=>bif Nat.ble a b&&Nat.ble b (ao o).length then val (al g (pc o a b))else none
 |_,_=>none
theorem BA{fr:XF}{W:XW}{lo hi:Option Operand}{e:TypeId}(hs:sz P e=some m)(hl:∀x,(g x).length=m)(o:Option (List α)):fy P fr W (al g o) lo hi none (some (.slice e))=sR g o (cG fr 0 lo) (cG fr (ao o).length hi):=by
 cases o with
 |none=>
  show E2 (jM W 0 e none) none 0 0 (sz P e) (cG fr 0 lo) (cG fr 0 hi)=sR g none (cG fr 0 lo) (cG fr 0 hi);rw[hs];cases cG fr 0 lo with
  |none=>rfl
  |some a=>
   cases cG fr 0 hi with
   |none=>rfl
   |some b=>
    show(bif true&&Nat.ble a b&&Nat.ble b 0&&(bm 0||Nat.ble 0 0)&&(Nat.beq 0 0||Nat.blt 0 m)then val (.slice (bif !bm 0&&Nat.beq 0 a then none else xQ none (a*m)) (b-a) (bif bm 0 then 0 else 0-a))else none)=(bif Nat.ble a b&&Nat.ble b 0 then val (.slice none 0 0)else none);cases h1:Nat.ble a b with
    |false=>rfl
    |true=>
     cases h2:Nat.ble b 0 with
     |false=>rfl
     |true=>
      have h1:=Nat.le_of_ble_eq_true h1;have h2:=Nat.le_of_ble_eq_true h2;have:b=0:=by omega
      subst this;have:a=0:=by omega
      subst this;rfl
 |some l=>
  show JH (l.flatMap g) l.length (sz P e) (cG fr 0 lo) (cG fr l.length hi) none=sR g (some l) (cG fr 0 lo) (cG fr l.length hi);rw[hs];cases cG fr 0 lo with
  |none=>rfl
  |some a=>
   cases cG fr l.length hi with
   |none=>rfl
   |some b=>
    show(bif Nat.ble a b&&Nat.ble b l.length then val (FZ (((l.flatMap g).drop (a*m)).take ((b-a)*m)) (b-a))else none)=(bif Nat.ble a b&&Nat.ble b l.length then val (FZ (((l.take b).drop a).flatMap g) ((l.take b).drop a).length)else none);cases h1:Nat.ble a b with
    |false=>rfl
    |true=>
     cases h2:Nat.ble b l.length with
     |false=>rfl
     |true=>
      have h1:=Nat.le_of_ble_eq_true h1;have h2:=Nat.le_of_ble_eq_true h2;rw[Do hl,Bm hl,ZV,ZR,aai h2,List.drop_take]
theorem oU(o:Option (List α)):lm (al g o)=some (ao o).length:=by cases o<;>rfl
theorem oY{W:XW}(hl:∀x,(g x).length=m)(o:Option (List α)):fg W m (ao o).length (al g o)=some ((ao o).flatMap g):=by
 cases o with
 |none=>rfl
 |some l=>exact zc (dF hl l)
theorem TM(hl:∀x,(g x).length=m){l:List α}{i:Nat}(h:i<l.length):((l.flatMap g).drop (i*m)).take m=g l[i]:=wP (fun x _=>hl x) h
theorem LW{e:TypeId}(hs:sz P e=some m)(hl:∀x,(g x).length=m){l:List α}{i n:Nat}(h:i<l.length)(hn:n=l.length):mD (l.flatMap g) i n (sz P e)=some (.val (some (FP (g l[i])))):=by
 subst hn;rw[hs];show(bif Nat.blt i l.length then val (FP (((l.flatMap g).drop (i*m)).take m))else none)=_;rw[jQ h,TM hl h];rfl
theorem AT{e:TypeId}{j:IntKind}(hs:sz P e=some m)(hl:∀x,(g x).length=m){o:Option (List α)}{i:Nat}(h:i<(ao o).length):dB P (some (.slice e)) (some (al g o)) (some (.int j ((i:Nat):Int)))=some (.val (some (FP (g (ao o)[i])))):=by
 rw[Qd h,LW hs hl h rfl]
theorem PX{t:TypeId}{c:List Value}(ha:cS P t=some true)(hs:sz P t=some c.length):mw P t c 0=some (.agg c.toArray):=by
 unfold mw;rw[ha,hs];simp only;rw[List.drop_zero,List.take_length,ZY,cond_true]
theorem y9{t:TypeId}{v:Value}(ha:cS P t=some false):mw P t [v] 0=some v:=by
 unfold mw;rw[ha];cases sz P t<;>rfl
end
theorem dA(a:Int):(au a).length=1:=rfl
theorem LZ(a:Int):(au a).all bk=true:=rfl
theorem ba(a:Int):dt (au a):=aw (aG 1 rfl) aQ
theorem mB(a b:Int)(h:au a=au b):a=b:=by
 unfold au at h;injection h with h _;injection h
def bq(o:Option (List Int)):List Value:=[al au o]
theorem iL(a:Option (List Int)):(bq a).length=1:=rfl
theorem M7(a:Option (List Int)):(bq a).all bk=true:=by
 show(bk (al au a)&&true)=true;rw[bL];rfl
theorem bV(a:Option (List Int)):dt (bq a):=aw (aB ba _) aQ
theorem Ma(a b:Option (List Int))(h:bq a=bq b):a=b:=by
 unfold bq at h;injection h with h _;exact fQ dA mB (by decide) h
theorem S4{fr:XF}{W:XW}{lo hi:Option Operand}(o:Option (List (Int))):fy Tryz.prog fr W (al au o) lo hi none (some (.slice 3))=sR au o (cG fr 0 lo) (cG fr (ao o).length hi):=BA SA dA o
theorem kC{j:IntKind}{o:Option (List (Int))}{i:Nat}(h:i<(ao o).length):dB Tryz.prog (some (.slice 3)) (some (al au o)) (some (.int j ((i:Nat):Int)))=some (.val (some (FP (au (ao o)[i])))):=AT SA dA h
theorem Je(l:List (Int)):(l.flatMap au).length=l.length*1:=dF dA l
theorem nH(l:List (Int)):(l.flatMap au).all bk=true:=mG LZ l
theorem xF{W:XW}(x:Int):fo Tryz.prog W 3 (FP (au x))=some (.int .i64 x):=(fB (c:=au x)).trans (y9 Mk)
theorem Yd{fr:XF}{W:XW}{lo hi:Option Operand}(o:Option (List (Option (List Int)))):fy Tryz.prog fr W (al bq o) lo hi none (some (.slice 35))=sR bq o (cG fr 0 lo) (cG fr (ao o).length hi):=BA Mh iL o
theorem GY{j:IntKind}{o:Option (List (Option (List Int)))}{i:Nat}(h:i<(ao o).length):dB Tryz.prog (some (.slice 35)) (some (al bq o)) (some (.int j ((i:Nat):Int)))=some (.val (some (FP (bq (ao o)[i])))):=AT Mh iL h
theorem Gf(l:List (Option (List Int))):(l.flatMap bq).all bk=true:=mG M7 l
theorem Xg{W:XW}(x:Option (List Int)):fo Tryz.prog W 35 (FP (bq x))=some (al au x):=(fB (c:=bq x)).trans (y9 N8)
theorem Yr{fr:XF}{W:XW}{lo hi:Option Operand}(o:Option (List (bC))):fy Tryz.prog fr W (al az o) lo hi none (some (.slice 60))=sR az o (cG fr 0 lo) (cG fr (ao o).length hi):=BA yY cW o
theorem pC{j:IntKind}{o:Option (List (bC))}{i:Nat}(h:i<(ao o).length):dB Tryz.prog (some (.slice 60)) (some (al az o)) (some (.int j ((i:Nat):Int)))=some (.val (some (FP (az (ao o)[i])))):=AT yY cW h
theorem ZH(l:List (bC)):(l.flatMap az).length=l.length*2:=dF cW l
theorem Hg(l:List (bC)):(l.flatMap az).all bk=true:=mG iD l
theorem xx{j:IntKind}{o:Option (List (aC))}{i:Nat}(h:i<(ao o).length):dB Tryz.prog (some (.slice 58)) (some (al an o)) (some (.int j ((i:Nat):Int)))=some (.val (some (FP (an (ao o)[i])))):=AT Gd cD h
theorem Om(l:List (aC)):(l.flatMap an).length=l.length*3:=dF cD l
theorem Ss(l:List (aC)):(l.flatMap an).all bk=true:=mG gh l
theorem Ih:∀{l:List aC} {i:Nat} (h:i<l.length),(l.flatMap an)[i*3+2]?=some (al az l[i].sides)
 |[],i,h=>absurd h (aaN i)
 |a::l,0,h=>rfl
 |a::l,i+1,h=>by
  rw[Z8,aax,if_neg (by rw[cD];omega),cD,show(i+1)*3+2-3=i*3+2 by omega];exact Ih (l:=l) (i:=i) (by rw[List.length_cons]at h;omega)
theorem UC{l:List aC}{i:Nat}(h:i<l.length):Nat.ble (i*3+2+1) (l.flatMap an).length=true:=by
 rw[Om];exact wR (by omega)
theorem Jj:∀{l:List aC} {i:Nat} (h:i<l.length) (s:Option (List bC)),(l.flatMap an).set (i*3+2) (al az s)=(l.set i { l[i]with sides:=s }).flatMap an
 |[],i,h,s=>absurd h (aaN i)
 |a::l,0,h,s=>rfl
 |a::l,i+1,h,s=>by
  rw[Z8,List.set_append,if_neg (by rw[cD];omega),cD,show(i+1)*3+2-3=i*3+2 by omega,Jj (l:=l) (i:=i) (by rw[List.length_cons]at h;omega) s,List.set_cons_succ,Z8];rfl
theorem Uo{c:List Value}{o:Nat}{v:Value}(h:o<c.length):wr c o [v]=c.set o v:=by
 unfold wr;rw[List.set_eq_take_append_cons_drop,if_pos h];rfl
theorem Wb{l:List aC}{i:Nat}{v:Value}(h:i<l.length):wr (l.flatMap an) (i*3+2) [v]=(l.flatMap an).set (i*3+2) v:=Uo (by rw[Om];omega)
def EQ(x:aC):aC:={ x with sides:=x.sides.map (cg bg) }
def l4(l:List aC):List aC:=(cg bi l).map EQ
def dC(o:Option (List aC)):Option (List aC):=o.map l4
def kX(S:List aC)(i:Nat):List aC:=(S.take i).map EQ++S.drop i
theorem yD{S:List aC}{i:Nat}:(kX S i).length=S.length:=by
 unfold kX;rw[ZM,aaq,ZR,ZV];omega
theorem QS{S:List aC}{i:Nat}(h:i<S.length):(kX S i)[i]'(by rw[yD];exact h)=S[i]:=by
 have:(kX S i)[i]?=S[i]?:=by unfold kX;rw[aax,aaq,ZR,aai (by omega),if_neg (by omega),aas,Nat.sub_self,Nat.add_zero]
 rw[ZP (by rw[yD];exact h),ZP h]at this;exact Option.some.inj this
theorem OU{S:List aC}{i:Nat}(h:i<S.length):(kX S i).set i (EQ S[i])=kX S (i+1):=by
 unfold kX;rw[List.set_append,aaq,ZR,aai (by omega),if_neg (by omega),Nat.sub_self,aac h,aa6,aaP h,aaI,Z7];rfl
structure CQ where
 o:Option (List aC)
 sm:small o
 hs:∀x∈ao o,small x.sides
def lK(c:CQ):List Value:=[jP c.o]
noncomputable def H7:List (FuncId×HF):=[(65,i8 pL fun o=>if small o then some (nD (cg bi) o)else none),(67,i8 pk fun o=>if small o then some (nE (cg bg) o)else none)]
theorem gF:dv Tryz.prog (cE H7 []):=⟨mixed,bU (.cons _ _ _ Xd (.cons _ _ _ WK .nil)) .nil⟩
structure Zl(n:Nat) where
 i:Nat
 h:i<=n
theorem LN(c:CQ):aN Tryz.prog 33 (lK c) (wd [] 0 [] 0) fun e W'=>e=.ret (jP (dC c.o)):=by
 obtain⟨o,sm,hs⟩:=c;have hoc:bk (al an o)=true:=bL o;have hk1:nN=.func (.func 66) #[] #[]:=rfl;have hk2:nS=.func (.func 68) #[] #[]:=rfl;have hc:=fun W=>RK (W:=W) sm
 rw[hk1]at hc;show aN _ _ [.agg #[al an o]] _ _;refine be gF Tryz.func33 rfl (Nat.le_of_ble_eq_true rfl) ?_;simp only[aY.eq_1,aY.eq_2,bf,Tryz.ntmps33,reduceAdd];refine ae (ac (e:=?e1) (s':=?s1) gF ?h1 ?q1)
 case h1=>simp(disch:=decide) only[hoc,go_sem];all_goals rfl
 cases o with
 |none=>
  have hc':∀W,i8 pL (fun o=>if small o then some (nD (cg bi) o)else none) [al an none,.func (.func 66) #[] #[]] W=some (.ret (.slice none 0 0),W):=hc;refine ae (ac (e:=?e2) (s':=?s2) gF ?h2 ?q2)
  case h2=>simp(disch:=decide) only[H7,hc',hoc,go_sem];all_goals rfl
  refine ae ?_;refine ae (ac (e:=?e3) (s':=?s3) gF ?h3 ?q3)
  case h3=>simp(disch:=decide) only[go_sem];all_goals rfl
  refine aD ?_;refine aU (s':=⟨aI [(2,some (.pointer (some ⟨1,0,none⟩))),(3,some (.slice none 0 0)),(9,some (.int .i64 ((0:Nat):Int))),(10,some (.int .i64 ((0:Nat):Int)))],wd [(1,some (.cells [.slice none 0 0] 40 (0,0)))] 2 [] 0,[]⟩) (ak (by simp(disch:=decide) [ai,ab,aa,ag]) (by simp(disch:=decide) [ai,ab,aa,ag]) (by decide)) ?_;refine bw (α:=Unit) (fun _=>⟨aI [(2,some (.pointer (some ⟨1,0,none⟩))),(3,some (.slice none 0 0)),(9,some (.int .i64 ((0:Nat):Int))),(10,some (.int .i64 ((0:Nat):Int)))],wd [(1,some (.cells [.slice none 0 0] 40 (0,0)))] 2 [] 0,[]⟩) (fun _=>0) ?_ ();intro _;refine ae (ac (e:=?e4) (s':=?s4) gF ?h4 ?q4)
  case h4=>simp(disch:=decide) only[go_sem];all_goals rfl
  refine ae (aO ?h5 ?q5)
  case h5=>simp(disch:=decide) only[go_sem];all_goals rfl
  refine bp ?_;show bA _ _ _ _ _ _;refine ae (ac (e:=?e6) (s':=?s6) gF ?h6 ?q6)
  case h6=>simp(disch:=decide) only[go_sem];all_goals rfl
  refine bh ?_;refine⟨_,?e7,?W7,rfl,?h7,?q7⟩
  case h7=>simp(disch:=decide) only[Tryz.results33,go_sem];all_goals rfl
  rfl
 |some l=>
  have hc':∀W,i8 pL (fun o=>if small o then some (nD (cg bi) o)else none) [al an (some l),.func (.func 66) #[] #[]] W=some (.ret (.slice (some ⟨W.next,0,none⟩) l.length (jg l)),W.push (aS (cg bi l))):=hc;have hlen:(cg bi l).length=l.length:=cZ;have hlim:l.length<=ql:=sm;have hsm:∀x∈cg bi l,small x.sides:=fun x hx=>hs x (ud.1 hx)
  unfold ql at hlim;have hcan:l4 l=(cg bi l).map EQ:=rfl;obtain⟨n,hn⟩:∃n,n=l.length:=⟨_,rfl⟩;obtain⟨cp,hcp⟩:∃cp,cp=jg l:=⟨_,rfl⟩;have hcl:n<=cp:=by
   rw[hn,hcp];cases l with
   |nil=>exact Nat.le_refl _
   |cons x l=>exact Nat.le_trans hlim (show 17179869184<=aM by decide)
  rw[<-hn]at hlen hc';rw[<-hcp]at hc';refine ae (ac (e:=?e8) (s':=?s8) gF ?h8 ?q8)
  case h8=>simp(disch:=decide) only[H7,hc',hoc,go_sem];all_goals rfl
  obtain⟨S,hS⟩:∃S,S=cg bi l:=⟨_,rfl⟩;rw[<-hS]at hlen hsm hcan ⊢;refine ae ?_;refine ae (ac (e:=?e9) (s':=?s9) gF ?h9 ?q9)
  case h9=>simp(disch:=decide) only[go_sem];all_goals rfl
  refine aD ?_;refine aU (s':=⟨aI [(2,some (.pointer (some ⟨1,0,none⟩))),(3,some (.slice (some ⟨2,0,none⟩) n cp)),(9,some (.int .i64 (n:Int))),(10,some (.int .i64 ((0:Nat):Int)))],wd [(1,some (.cells [.slice none 0 0] 40 (0,0))),(2,some (aS (kX S 0)))] 3 [] 0,[]⟩) (by rw[show kX S 0=S from rfl];exact ak (by simp(disch:=decide) [ai,ab,aa,ag]) (by simp(disch:=decide) [ai,ab,aa,ag]) (by decide)) ?_;refine bw (α:=Zl n) (fun y=>⟨aI [(2,some (.pointer (some ⟨1,0,none⟩))),(3,some (.slice (some ⟨2,0,none⟩) n cp)),(9,some (.int .i64 (n:Int))),(10,some (.int .i64 (y.i:Int)))],wd [(1,some (.cells [.slice none 0 0] 40 (0,0))),(2,some (aS (kX S y.i)))] 3 [] 0,[]⟩) (fun y=>n-y.i) ?_ ⟨0,Z3 _⟩;intro ⟨i,hi⟩;simp only;by_cases hlt:i<n
  ·have hR:(kX S i).length=n:=by rw[yD,hlen]
   have hg:=QS (S:=S) (i:=i) (by omega);have hset:=OU (S:=S) (i:=i) (by omega);have hsi:=hsm S[i] (aay _);have h2:=Ih (l:=kX S i) (i:=i) (by omega);have h2f:=UC (l:=kX S i) (i:=i) (by omega);have h2w:=fun v=>Wb (l:=kX S i) (i:=i) (v:=v) (by omega)
   have h2s:=Jj (l:=kX S i) (i:=i) (by omega) (S[i].sides.map (cg bg));rw[hg]at h2 h2s;rw[show({ S[i]with sides:=S[i].sides.map (cg bg) }:aC)=EQ S[i]from rfl,hset]at h2s;obtain⟨R,hRe⟩:∃R,R=kX S i:=⟨_,rfl⟩;rw[<-hRe]at hR h2 h2f h2w h2s ⊢;obtain⟨sd,hsd⟩:∃sd,sd=S[i].sides:=⟨_,rfl⟩;rw[<-hsd]at hsi h2 h2s;have hq:=fun W=>Rd (W:=W) hsi
   rw[hk2]at hq;have hos:bk (al az sd)=true:=bL sd;refine ae (ac (e:=?e10) (s':=?s10) gF ?h10 ?q10)
   case h10=>simp(disch:=decide) only[go_sem];all_goals rfl
   refine ae (aZ (by simp(disch:=first|decide|omega) only[go_sem]<;>with_reducible rfl) ?_);refine aH ?_;refine ae (aD ?_);refine ae (ac gF (by simp(disch:=decide) only[go_sem]<;>with_reducible rfl) ?_);cases sd with
   |none=>
    have hq':∀W,i8 pk (fun o=>if small o then some (nE (cg bg) o)else none) [al az none,.func (.func 68) #[] #[]] W=some (.ret (.slice none 0 0),W):=hq;have h2s':(R.flatMap an).set (i*3+2) (.slice none 0 0)=(kX S (i+1)).flatMap an:=h2s;refine ac gF (by simp(disch:=first|decide|omega) only[H7,aS,mf,h2,h2f,h2w,mW,hos,hq',h2s',go_sem]<;>with_reducible rfl) ?_;show bA _ _ _ _ _ _;refine ac gF (by simp(disch:=first|decide|omega) only[go_sem]<;>with_reducible rfl) ?_;refine⟨⟨i+1,by omega⟩,by simp only;omega,?_⟩;exact ak (by simp(disch:=decide) [ai,ab,aa,ag]) (by simp(disch:=decide) [ai,ab,aa,ag,aS]) (by decide)
   |some sl=>
    have hq':∀W,i8 pk (fun o=>if small o then some (nE (cg bg) o)else none) [al az (some sl),.func (.func 68) #[] #[]] W=some (.ret (.slice (some ⟨W.next,0,none⟩) sl.length (jg sl)),W.push (aT (cg bg sl))):=hq;have h2s':(R.flatMap an).set (i*3+2) (FZ ((cg bg sl).flatMap az) (cg bg sl).length)=(kX S (i+1)).flatMap an:=h2s;rw[cZ]at h2s';have hci:i*3+2<(R.flatMap an).length:=by rw[Om];omega
    have hcs:sl.length<=jg sl:=by
     have:sl.length<=ql:=hsi;cases sl with
     |nil=>exact Nat.le_refl _
     |cons x l=>exact Nat.le_trans this (show ql<=aM by decide)
    refine ac gF (by simp(disch:=first|decide|omega) only[H7,aS,mf,h2,h2f,h2w,mW,hos,hq',go_sem]<;>with_reducible rfl) ?_;show bA _ _ _ _ _ _;refine aU (db.trans (ak (F':=[(2,some (.pointer (some ⟨1,0,none⟩))),(3,some (.slice (some ⟨2,0,none⟩) n cp)),(9,some (.int .i64 (n:Int))),(10,some (.int .i64 (i:Int)))]) (L':=[(1,some (.cells [.slice none 0 0] 40 (0,0))),(2,some (.cells ((R.flatMap an).set (i*3+2) (.slice (some ⟨3,0,none⟩) sl.length (jg sl))) 58 (0,0))),(3,some (aT (cg bg sl)))]) (n':=4) (lg':=[]) (nl':=0) (by simp(disch:=decide) [ai,ab,aa,ag]) (by simp(disch:=decide) [ai,ab,aa,ag]) (by decide))
     (nX (x:=3) (m:=2) (i:=i*3+2) (c:=(cg bg sl).flatMap az) (e:=60) (e2:=58) (fr:=(0,0)) (fr2:=(0,0)) (q:=((cg bg sl).flatMap az).length) rfl rfl (List.getElem?_set_self hci) (by decide) (by decide) (by decide) hcs (fun h0=>by rw[ZH,cZ,h0]) .nil)) ?_
    rw[List.take_length,List.set_set,h2s'];refine ac gF (by simp(disch:=first|decide|omega) only[go_sem]<;>with_reducible rfl) ?_;refine⟨⟨i+1,by omega⟩,by simp only;omega,?_⟩;exact aV [(1,some 1),(2,some 2)] [(1,some 1),(2,some 2)] (by decide) (by decide) (by decide)
     (af (v:=.pointer (some ⟨1,0,none⟩)) (by decide) (by simp(disch:=first|decide|omega) only[ab,aa]) (ay (by simp(disch:=first|decide|omega) only[ab,aa])) (af (v:=.slice (some ⟨2,0,none⟩) n cp) (by decide) (by simp(disch:=first|decide|omega) only[ab,aa]) (bI (by simp(disch:=first|decide|omega) only[ab,aa])) (af (v:=.int .i64 (n:Int)) (by decide) (by simp(disch:=first|decide|omega) only[ab,aa]) (ar 1 rfl) (af (v:=.int .i64 ((i+1:Nat):Int)) (by decide) (by simp(disch:=first|decide|omega) only[ab,aa]) (ar 1 rfl) aR))))
     (aj 1 rfl (by decide) (by decide) rfl (aq ah (bc (aw (aG 1 rfl) aQ))) (aj 2 rfl (by decide) (by decide) rfl (aq ah (gL _)) bj)) .nil
  have e:i=n:=by omega
  subst e;have hdone:kX S i=l4 l:=by unfold kX;rw[hcan,List.take_of_length_le (by omega),Z5 (by omega),List.append_nil]
  rw[hdone];refine ae (ac (e:=?e17) (s':=?s17) gF ?h17 ?q17)
  case h17=>simp(disch:=decide) only[go_sem];all_goals rfl
  refine ae (aO (by simp(disch:=first|decide|omega) only[go_sem]<;>with_reducible rfl) ?_);refine bp ?_;show bA _ _ _ _ _ _;refine ae (ac (e:=?e19) (s':=?s19) gF ?h19 ?q19)
  case h19=>simp(disch:=decide) only[go_sem];all_goals rfl
  have hcl2:(l4 l).length=i:=by rw[hcan,aaq,hlen]
  refine aU (db.trans (ak (F':=[(2,some (.pointer (some ⟨1,0,none⟩)))]) (L':=[(1,some (.cells [.slice (some ⟨2,0,none⟩) i cp] 40 (0,0))),(2,some (aS (l4 l)))]) (n':=3) (lg':=[]) (nl':=0) (by simp(disch:=decide) [ai,ab,aa,ag]) (by simp(disch:=decide) [ai,ab,aa,ag]) (by decide))
   (nX (x:=2) (m:=1) (i:=0) (d:=[.slice (some ⟨2,0,none⟩) i cp]) (c:=(l4 l).flatMap an) (e:=58) (e2:=40) (fr:=(0,0)) (fr2:=(0,0)) (q:=((l4 l).flatMap an).length) rfl rfl rfl (by decide) (by decide) (by decide) hcl (fun h0=>by rw[Om,hcl2,h0]) .nil)) ?_
  rw[List.take_length,aa6];refine bh ?_;refine⟨_,?e20,?W20,rfl,?h20,?q20⟩
  case h20=>simp(disch:=decide) only[Tryz.results33,go_sem];all_goals rfl
  show cz.ret (Value.agg #[FZ ((l4 l).flatMap an) i])=cz.ret (Value.agg #[FZ ((l4 l).flatMap an) (l4 l).length]);rw[hcl2]
theorem He:bD Tryz.prog 33 (bu (cN lK fun c=>jP (dC c.o))):=fa (enters_of (by kernel_rfl)) (fun c=>aw (fK (aw (aB aW _) aQ)) aQ) (fun c=>fK (aw (aB aW _) aQ)) LN
theorem uY{o o':Option (List aC)}(h:jP o=jP o'):o=o':=by
 unfold jP at h;injection h with h;have:=congrArg Array.toList h;simp only[List.cons.injEq,and_true]at this;exact fQ cD gP (by decide) this
theorem CO{o:Option (List aC)}{W:XW}(sm:small o)(hs:∀x∈ao o,small x.sides):bu (cN lK fun c=>jP (dC c.o)) [.agg #[al an o]] W=some (.ret (.agg #[al an (dC o)]),W):=eu (enc:=lK) (a:=⟨o,sm,hs⟩) fun b h=>by
 unfold lK at h;injection h with h _;rw[uY h]
abbrev kV(k:Int):Value:=.int .i64 k
section
variable {P:Program} {T:TypeId} {γ:Type}
def bn(f:Nat->γ->Value):List (Int×γ)->Nat->List MapEntry
 |[],_=>[]
 |x::l,i=>{ key:=kV x.1,val:=f i x.2,born:=i }::bn f l (i+1)
def fq(k:Int):List (Int×γ)->Nat->Option (Nat×γ)
 |[],_=>none
 |x::l,i=>if k=x.1 then some (i,x.2)else fq k l (i+1)
def bz(k:Int):List (Int×γ)->Option γ
 |[]=>none
 |x::l=>if k=x.1 then some x.2 else bz k l
def cJ(k:Int)(b:γ):List (Int×γ)->List (Int×γ)
 |[]=>[(k,b)]
 |x::l=>if k=x.1 then(k,b)::l else x::cJ k b l
theorem iJ(k:Int):∀(l:List (Int×γ)) (i:Nat),(fq k l i).map (·.2)=bz k l
 |[],_=>rfl
 |x::l,i=>by
  unfold fq bz;split
  ·rfl
  exact iJ k l (i+1)
theorem iu{k:Int}{l:List (Int×γ)}{i:Nat}:fq k l i=none↔bz k l=none:=by
 rw[<-iJ k l i];cases fq k l i<;>simp
theorem uK(hu:P.underlying T=some (.int .i64))(k:Int)(em:Bool):ia P T (kV k) em=true:=by
 have h:bQ P (Instr.checkKey em 10000 T (kV k))=some ():=by rw[show(10000:Nat)=9999+1 from rfl,Instr.checkKey,ci,gm hu];rfl
 unfold ia;rw[h];rfl
theorem Ah{f:Nat->γ->Value}:∀(l:List (Int×γ)) (j:Nat),(bn f l j).all (fun e=>dw e.key)=true
 |[],_=>rfl
 |x::l,j=>by
  unfold bn;rw[List.all_cons,Ah l (j+1)];rfl
theorem zU{f:Nat->γ->Value}(k:Int):∀(l:List (Int×γ)) (j:Nat),Instr.findNow (.int .i64) (kV k) (bn f l j) j=some ((fq k l j).map fun x=>(x.1,f x.1 x.2))
 |[],_=>rfl
 |x::l,j=>by
  show(match(some (k==x.1):Option Bool)with|some true=>some (some (j,f j x.2))|some false=>Instr.findNow (.int .i64) (kV k) (bn f l (j+1)) (j+1)|none=>none)=_;unfold fq;by_cases h:k=x.1
  ·rw[if_pos h,AL h];rfl
  rw[if_neg h,AR h];exact zU k l (j+1)
theorem uV(hu:P.underlying T=some (.int .i64)){f:Nat->γ->Value}(k:Int)(l:List (Int×γ)):gH P T (kV k) (bn f l 0)=some ((fq k l 0).map fun x=>(x.1,f x.1 x.2)):=by
 unfold gH;rw[Ah,cond_true];unfold Instr.findKey;rw[ci,gm hu];simp only[Option.bind_some];rw[zU];rfl
theorem gO{f:Nat->γ->Value}:∀(l:List (Int×γ)) (j:Nat),(bn f l j).length=l.length
 |[],_=>rfl
 |x::l,j=>by unfold bn;rw[List.length_cons,gO l,List.length_cons]
theorem tW{f:Nat->γ->Value}(k:Int)(b:γ):∀(l:List (Int×γ)) (j:Nat),bn f l j++[⟨kV k,f (j+l.length) b,j+l.length⟩]=bn f (l++[(k,b)]) j
 |[],j=>rfl
 |x::l,j=>by
  show _::(bn f l (j+1)++_)=_::bn f (l++[(k,b)]) (j+1);rw[<-tW k b l (j+1),List.length_cons,aa5 j 1,aau 1]
theorem lQ{k:Int}{b:γ}:∀{l:List (Int×γ)},bz k l=none->cJ k b l=l++[(k,b)]
 |[],_=>rfl
 |x::l,h=>by
  unfold bz at h;split at h
  ·cases h
  rename_i hk;unfold cJ;rw[if_neg hk,lQ h];rfl
theorem lu{k k':Int}{b:γ}:∀{l:List (Int×γ)},bz k' (cJ k b l)=if k'=k then some b else bz k' l
 |[]=>by
  show(if k'=k then some b else none)=_;rfl
 |x::l=>by
  unfold cJ;by_cases h:k=x.1
  ·rw[if_pos h];show(if k'=k then some b else bz k' l)=if k'=k then some b else(if k'=x.1 then some x.2 else bz k' l)
   by_cases h2:k'=k
   ·rw[if_pos h2,if_pos h2]
   rw[if_neg h2,if_neg h2,if_neg (by rw[<-h];exact h2)]
  rw[if_neg h];show(if k'=x.1 then some x.2 else bz k' (cJ k b l))=if k'=k then some b else(if k'=x.1 then some x.2 else bz k' l)
  rw[lu];by_cases h2:k'=x.1
  ·rw[if_pos h2,if_pos h2,if_neg (by rw[h2];exact fun e=>h e.symm)]
  rw[if_neg h2,if_neg h2]
theorem eY{k:Int}:∀{l:List (Int×γ)} {j i:Nat} {b:γ},fq k l j=some (i,b)->j<=i/\i<j+l.length/\l[i-j]?=some (k,b)
 |[],_,_,_,h=>by cases h
 |x::l,j,i,b,h=>by
  unfold fq at h;split at h
  ·rename_i hk;cases h;refine⟨Nat.le_refl _,by rw[List.length_cons];omega,?_⟩;rw[Nat.sub_self];show some x=_;rw[hk]
  obtain⟨h1,h2,h3⟩:=eY h;refine⟨by omega,by rw[List.length_cons];omega,?_⟩;rw[show i-j=(i-(j+1))+1 by omega];exact h3
theorem oN{f:Nat->γ->Value}:∀{l:List (Int×γ)} {j i:Nat} {k:Int} {b:γ},l[i]?=some (k,b)->(bn f l j)[i]?=some ⟨kV k,f (j+i) b,j+i⟩
 |[],_,_,_,_,h=>by simp at h
 |x::l,j,0,k,b,h=>by
  simp at h;subst h;rfl
 |x::l,j,i+1,k,b,h=>by
  show(bn f l (j+1))[i]?=_;rw[oN (l:=l) (j:=j+1) (i:=i) (by simpa using h)];rw[show j+1+i=j+(i+1) by omega]
theorem Br{f:Nat->γ->Value}{k:Int}{b:γ}:∀{l:List (Int×γ)} {j i:Nat} {b0:γ},fq k l j=some (i,b0)->(bn f l j).set (i-j) ⟨kV k,f i b,i⟩=bn f (cJ k b l) j
 |[],_,_,_,h=>by cases h
 |x::l,j,i,b0,h=>by
  have hs:=eY h;unfold fq at h;unfold cJ;split at h
  ·rename_i hk;cases h;rw[if_pos hk,Nat.sub_self];rfl
  rename_i hk;rw[if_neg hk];have hs2:=eY h;rw[show i-j=(i-(j+1))+1 by omega];show _::(bn f l (j+1)).set (i-(j+1)) _=_::bn f (cJ k b l) (j+1);rw[Br h]
theorem iO{k:Int}{b:γ}:∀{l:List (Int×γ)},(cJ k b l).length=if(bz k l).isSome then l.length else l.length+1
 |[]=>rfl
 |x::l=>by
  unfold cJ bz;by_cases h:k=x.1
  ·rw[if_pos h,if_pos h];rfl
  rw[if_neg h,if_neg h,List.length_cons,iO];split<;>simp_all
theorem wO(k:Int):gC (kV k) (kV k)=true:=by
 unfold gC;rw[ZX];refine⟨rfl,?_⟩;rw[show(10000:Nat)=9999+1 from rfl,Instr.sameBits];simp
theorem nW(hu:P.underlying T=some (.int .i64)){f:Nat->γ->Value}(k:Int)(l:List (Int×γ)){c:Nat}{z:Value}{ok:Bool}:jJ P T (kV k) ok (some (bn f l 0,c)) (some z)=some (.val (some (pr ok (((fq k l 0).map fun x=>f x.1 x.2).getD z) (bz k l).isSome))):=by
 show(bif ia P T (kV k) (bn f l 0).isEmpty then y5 ok z (gH P T (kV k) (bn f l 0))else none)=_;rw[uK hu,cond_true,uV hu,<-iJ k l 0];cases fq k l 0<;>rfl
theorem JM(hu:P.underlying T=some (.int .i64)){f:Nat->γ->Value}{k:Int}{l:List (Int×γ)}{b:γ}{W:XW}{r:Nat}{v:Value}(hk:bz k l=none)(hv:v=f l.length b) :
 jh P W r T (kV k) v (some (.map (bn f l 0) l.length))=some (.mod undef (W.put r (some (.map (bn f (cJ k b l) 0) (cJ k b l).length)))):=by
 show(bif ia P T (kV k) false then rD W r (bn f l 0) l.length (kV k) v (gH P T (kV k) (bn f l 0))else none)=_;rw[uK hu,cond_true,uV hu,(iu (i:=0)).2 hk,lQ hk,hv];have:=tW (f:=f) k b l 0;rw[Nat.zero_add]at this;show some (XR.mod undef (W.put r (some (.map (bn f l 0++[⟨kV k,f l.length b,l.length⟩]) (l.length+1)))))=_;rw[this,ZM];rfl
theorem Kc(hu:P.underlying T=some (.int .i64)){f:Nat->γ->Value}{k:Int}{l:List (Int×γ)}{b b0:γ}{W:XW}{r i:Nat}{v:Value}(hk:fq k l 0=some (i,b0))(hv:v=f i b) :
 jh P W r T (kV k) v (some (.map (bn f l 0) l.length))=some (.mod undef (W.put r (some (.map (bn f (cJ k b l) 0) (cJ k b l).length)))):=by
 have hs:=eY hk;have hg:bz k l=some b0:=by rw[<-iJ k l 0,hk];rfl
 show(bif ia P T (kV k) false then rD W r (bn f l 0) l.length (kV k) v (gH P T (kV k) (bn f l 0))else none)=_;rw[uK hu,cond_true,uV hu,hk,hv];show wn W r (bn f l 0) l.length i (kV k) (f i b) (bn f l 0)[i]?=_;rw[oN (by rw[<-aad i];exact hs.2.2),Nat.zero_add];show(bif gC (kV k) (kV k)then some (XR.mod undef (W.put r (some (.map ((bn f l 0).set i ⟨kV k,f i b,i⟩) l.length))))else none)=_;have hset:=Br (f:=f) (b:=b) hk;rw[aad]at hset;rw[wO,cond_true,hset,iO,hg];rfl
theorem qY(hu:P.underlying T=some (.int .i64)){f:γ->Value}(k:Int)(l:List (Int×γ)){c:Nat}{z:Value}{ok:Bool}:jJ P T (kV k) ok (some (bn (fun _=>f) l 0,c)) (some z)=some (.val (some (pr ok (((bz k l).map f).getD z) (bz k l).isSome))):=by
 rw[nW hu,<-iJ k l 0];cases fq k l 0<;>rfl
theorem F7(hu:P.underlying T=some (.int .i64)){f:γ->Value}{k:Int}{l:List (Int×γ)}(b:γ){W:XW}{r:Nat} :
 jh P W r T (kV k) (f b) (some (.map (bn (fun _=>f) l 0) l.length))=some (.mod undef (W.put r (some (.map (bn (fun _=>f) (cJ k b l) 0) (cJ k b l).length)))):=by
 cases h:fq k l 0 with
 |none=>exact JM hu (iu.1 h) rfl
 |some x=>exact Kc hu (b0:=x.2) (i:=x.1) h rfl
theorem m4{f:Nat->γ->Value}(hb:∀i b,dG (f i b)):∀(l:List (Int×γ)) (j:Nat),∀x∈bn f l j,dG x.key/\dG x.val
 |[],_,x,h=>by cases h
 |y::l,j,x,h=>by
  rcases List.mem_cons.1 h with rfl|h
  ·exact⟨aG 1 rfl,hb _ _⟩
  exact m4 hb l (j+1) x h
end
abbrev dD:=List (Int×aC)
def dZ(x:aC):Value:=.agg (an x).toArray
theorem rO(x:aC):dG (dZ x):=fK (aW x)
def p8(by_:dD)(x:aC):dD:=if(bz x.id by_).isSome then by_ else cJ x.id x by_
def ig(l:List aC):dD:=l.foldl p8 []
def cu(by_:dD):bb:=.map (bn (fun _=>dZ) by_ 0) by_.length
def jI(by_:dD):List Value:=(by_.map (·.1)).flatMap au
def cn(b:Nat)(ids:Value):bb:=.cells [.map (some b),ids] 178 (0,0)
theorem dj{P:Program}(by_:dD):fY P (cu by_):=fun T hT=>jY (kZ.bare hT (m4 (fun _ b=>rO b) by_ 0))
theorem Ie{by_:dD}{x:aC}(h:bz x.id by_=none):jI (cJ x.id x by_)=jI by_++[.int .i64 x.id]:=by
 rw[lQ h];unfold jI;rw[aaI,aap];rfl
theorem No(by_:dD):(jI by_).length=by_.length:=by
 unfold jI;rw[Je,aaq,aak]
theorem LC(by_:dD):(jI by_).all bk=true:=nH _
noncomputable def Xe:List (FuncId×HF):=[(33,bu (cN lK fun c=>jP (dC c.o)))]
theorem gx:dv Tryz.prog (cE Xe []):=⟨mixed,bU (.cons _ _ _ He .nil) .nil⟩
structure Y1(C:List aC) where
 i:Nat
 by_:dD
 h:i<=C.length
 hb:by_.length<=i
 eq:(C.drop i).foldl p8 by_=ig C
theorem gG{θ:Nat->Option Nat}{n m:Nat}(h:θ n=some m):∀k,TV (cM θ) (cA n k) (cA m k)
 |0=>ar 1 rfl
 |_+1=>bI h
theorem gc{P:Program}{T:RT}{R:List (Nat×Option Nat)}{n m:Nat}{L L':List (Nat×Option bb)}{o:Option bb}(x:Nat)(hR:lk R x=some m)(h1:x<n)(h2:x<16383)(hl:lk L x=o)(ho:∀w,o=some w->TO P T w w)(hs:kx P T R n L L'):kx P T R n L ((m,o)::L'):=by
 cases o with
 |none=>exact xp hs
 |some w=>exact aj x hR h1 h2 hl (ho w rfl) hs
theorem fO{P:Program}{T:RT}(hT:ow T){e:TypeId}{c:List Value}(hc:dt c)(k:Nat)(w:bb)(h:bN e c k=some w):TO P T w w:=by
 cases k with
 |zero=>cases h
 |succ k=>cases h;exact aq hT (bc hc)
theorem ge(by_:dD):dt (jI by_):=br ba _
def Xq(c:CQ)(e:cz)(W':XW):Prop:=∃a b,e=.ret (.pointer (some ⟨a,0,none⟩))/\a≠b/\W'.get a=some (cn b (jd (jI (ig (ao (dC c.o)))) (ig (ao (dC c.o))).length))/\W'.get b=some (cu (ig (ao (dC c.o))))
theorem OP(c:CQ):aN Tryz.prog 62 (lK c) (wd [] 0 [] 0) (Xq c):=by
 have hcs:=c.sm;obtain⟨o,hoe⟩:∃o,o=dC c.o:=⟨_,rfl⟩;have hlim:(ao o).length<=17179869184:=by
  have h:=c.sm;rw[hoe];unfold dC ao l4 at *;unfold small ao ql at h;cases hc:c.o with
  |none=>simp
  |some l=>rw[hc]at h;simpa[cZ]using h
 have hoc:bk (al an c.o)=true:=bL c.o;have hoc2:bk (al an o)=true:=bL o;have hg:∀W,bu (cN lK fun c=>jP (dC c.o)) [.agg #[al an c.o]] W=some (.ret (.agg #[al an o]),W):=fun W=>by rw[hoe];exact CO c.sm c.hs
 show aN _ _ [.agg #[al an c.o]] _ _;unfold Xq;rw[<-hoe];refine be gx Tryz.func62 rfl (Nat.le_of_ble_eq_true rfl) ?_;simp only[aY.eq_1,aY.eq_2,bf,Tryz.ntmps62,reduceAdd];refine ae (ac (e:=?e1) (s':=?s1) gx ?h1 ?q1)
 case h1=>simp(disch:=decide) only[hoc,go_sem];all_goals rfl
 refine ae (ac (e:=?e2) (s':=?s2) gx ?h2 ?q2)
 case h2=>simp(disch:=decide) only[hoc,go_sem];all_goals rfl
 refine ae ?_;refine ae (ac (e:=?e3) (s':=?s3) gx ?h3 ?q3)
 case h3=>simp(disch:=decide) only[Xe,hg,hoc,hoc2,da,go_sem];all_goals rfl
 refine aD ?_;refine aU (s':=⟨aI [(3,some (.pointer (some ⟨2,0,none⟩))),(13,some (al an o)),(14,some (.int .i64 ((ao o).length:Int))),(15,some (.int .i64 ((0:Nat):Int)))],wd [(1,some (cu [])),(2,some (cn 1 (cA 3 0))),(3,none)] 4 [] 0,[]⟩) (ak (by simp(disch:=decide) [ai,ab,aa,ag]) (by simp(disch:=decide) [ai,ab,aa,ag];exact⟨rfl,rfl⟩) (by decide)) ?_;refine bw (α:=Y1 (ao o)) (fun y=>⟨aI [(3,some (.pointer (some ⟨2,0,none⟩))),(13,some (al an o)),(14,some (.int .i64 ((ao o).length:Int))),(15,some (.int .i64 (y.i:Int)))],wd [(1,some (cu y.by_)),(2,some (cn 1 (cA 3 y.by_.length))),(3,bN 3 (jI y.by_) y.by_.length)] 4 [] 0,[]⟩) (fun y=>(ao o).length-y.i) ?_ ⟨0,[],Z3 _,Z3 _,rfl⟩;intro ⟨i,by_,hi,hb,heq⟩;simp only;by_cases hlt:i<(ao o).length
 ·refine ae (ac (e:=?e4) (s':=?s4) gx ?h4 ?q4)
  case h4=>simp(disch:=decide) only[go_sem];all_goals rfl
  refine ae (aZ (by simp(disch:=first|decide|omega) only[go_sem]<;>with_reducible rfl) ?_);refine aH ?_;refine ae (aD ?_);obtain⟨x,hx⟩:∃x,x=(ao o)[i]:=⟨_,rfl⟩;have hix:∀j,dB Tryz.prog (some (.slice 58)) (some (al an o)) (some (.int j ((i:Nat):Int)))=some (.val (some (FP [.int .i64 x.id,.int .i64 x.dim,al az x.sides]))):=fun j=>by rw[hx];exact xx hlt
  have hos:bk (al az x.sides)=true:=bL _;refine ae (ac (e:=?e6) (s':=?s6) gx ?h6 ?q6)
  case h6=>simp(disch:=decide) only[hix,hos,fB,go_sem];all_goals rfl
  have hz:∀(z:Value),jJ Tryz.prog 3 (.int .i64 x.id) true (some (bn (fun _=>dZ) by_ 0,by_.length)) (some z)=some (.val (some (pr true (((bz x.id by_).map dZ).getD z) (bz x.id by_).isSome))):=fun z=>qY Tryz.underlying3 x.id by_
  have hnxt:(ao o).drop i=x::(ao o).drop (i+1):=by rw[hx];exact aac hlt
  rw[hnxt,aaR]at heq;cases hf:bz x.id by_ with
  |some y0=>
   rw[hf]at hz;have hoy:bk (al az y0.sides)=true:=bL _;refine bl gx ⟨aI [(3,some (.pointer (some ⟨2,0,none⟩))),(13,some (al an o)),(14,some (.int .i64 ((ao o).length:Int))),(15,some (.int .i64 (i:Int))),(7,some (.bool true))],wd [(1,some (cu by_)),(2,some (cn 1 (cA 3 by_.length))),(3,bN 3 (jI by_) by_.length)] 6 [] 0,[]⟩ ?hda ?qda
   case hda=>
    refine⟨?rsa,?sxa,?hxa,?kxa,?lxa⟩
    case hxa=>simp(disch:=decide) only[aE.eq_1,aE.eq_2,cm.eq_1,bd.eq_1,bd.eq_2,cn,cu,hz,ZW,aaJ,Option.isSome_some,dZ,an,hos,hoy,go_sem];all_goals rfl
    case kxa=>kernel_rfl
    case lxa=>exact ak (by simp(disch:=decide) [ai,ab,aa,ag]) (ap (by decide) rfl (ap (by decide) rfl (ap (by decide) rfl trivial))) (by decide)
   refine ae (ac (e:=?e7) (s':=?s7) gx ?h7 ?q7)
   case h7=>simp(disch:=decide) only[go_sem];all_goals rfl
   refine aO (by simp(disch:=decide) only[go_sem]<;>with_reducible rfl) ?_;refine aH ?_;show bA _ _ _ _ _ _;refine ac gx (by simp(disch:=first|decide|omega) only[go_sem]<;>with_reducible rfl) ?_;have hadd:p8 by_ x=by_:=by unfold p8;rw[hf];rfl
   refine⟨⟨i+1,by_,by omega,by omega,by rw[<-heq,hadd]⟩,by simp only;omega,?_⟩;exact aV [(1,some 1),(2,some 2),(3,some 3)] [(1,some 1),(2,some 2),(3,some 3)] (by decide) (by decide) (by decide)
    (af (v:=.pointer (some ⟨2,0,none⟩)) (by decide) (by simp(disch:=first|decide|omega) only[ab,aa]) (ay (by simp(disch:=first|decide|omega) only[ab,aa])) (af (v:=al an o) (by decide) (by simp(disch:=first|decide|omega) only[ab,aa]) (aB aW o _ ah) (af (v:=.int .i64 ((ao o).length:Int)) (by decide) (by simp(disch:=first|decide|omega) only[ab,aa]) (ar 1 rfl) (af (v:=.int .i64 ((i+1:Nat):Int)) (by decide) (by simp(disch:=first|decide|omega) only[ab,aa]) (ar 1 rfl) aR))))
    (aj (o:=cu by_) 1 (by simp(disch:=first|decide|omega) only[ab,aa]) (by decide) (by decide) (by simp(disch:=first|decide|omega) only[ab,aa]) (aq ah (dj _)) (aj (o:=cn 1 (cA 3 (by_).length)) 2 (by simp(disch:=first|decide|omega) only[ab,aa]) (by decide) (by decide) (by simp(disch:=first|decide|omega) only[ab,aa]) (bJ (ax (cq (by simp(disch:=first|decide|omega) only[ab,aa])) (ax (gG (by simp(disch:=first|decide|omega) only[ab,aa]) _) aX))) (gc 3 (by simp(disch:=first|decide|omega) only[ab,aa]) (by decide) (by decide) (by simp(disch:=first|decide|omega) only[ab,aa]) (fO ah (ge _) _) bj))) .nil
  |none=>
   rw[hf]at hz;refine bl gx ⟨aI [(3,some (.pointer (some ⟨2,0,none⟩))),(5,some (.pointer (some ⟨4,0,none⟩))),(13,some (al an o)),(14,some (.int .i64 ((ao o).length:Int))),(15,some (.int .i64 (i:Int))),(7,some (.bool false))],wd [(1,some (cu by_)),(2,some (cn 1 (cA 3 by_.length))),(3,bN 3 (jI by_) by_.length),(4,some (.cells [.int .i64 x.id,.int .i64 x.dim,al az x.sides] 58 (0,0)))] 6 [] 0,[]⟩ ?hdb ?qdb
   case hdb=>
    refine⟨?rsb,?sxb,?hxb,?kxb,?lxb⟩
    case hxb=>simp(disch:=decide) only[aE.eq_1,aE.eq_2,cm.eq_1,bd.eq_1,bd.eq_2,cn,cu,hz,Z6,aaW,Option.isSome_none,hos,go_sem];all_goals rfl
    case kxb=>kernel_rfl
    case lxb=>exact ak (by simp(disch:=decide) [ai,ab,aa,ag]) (ap (by decide) rfl (ap (by decide) rfl (ap (by decide) rfl (ap (by decide) rfl trivial)))) (by decide)
   have hadd:p8 by_ x=cJ x.id x by_:=by unfold p8;rw[hf];rfl
   have hsl:(cJ x.id x by_).length=by_.length+1:=by rw[iO,hf];rfl
   have hup:∀W,jh Tryz.prog W 1 3 (.int .i64 x.id) (.agg #[.int .i64 x.id,.int .i64 x.dim,al az x.sides]) (some (.map (bn (fun _=>dZ) by_ 0) by_.length))=some (.mod undef (W.put 1 (some (cu (cJ x.id x by_))))):=fun W=>F7 Tryz.underlying3 (f:=dZ) x
   refine ae (ac (e:=?e10) (s':=?s10) gx ?h10 ?q10)
   case h10=>simp(disch:=decide) only[go_sem];all_goals rfl
   refine aZ ?h11 ?q11
   case h11=>simp(disch:=decide) only[go_sem];all_goals rfl
   refine bl gx ⟨aI [(3,some (.pointer (some ⟨2,0,none⟩))),(5,some (.pointer (some ⟨4,0,none⟩))),(13,some (al an o)),(14,some (.int .i64 ((ao o).length:Int))),(15,some (.int .i64 (i:Int)))],wd [(1,some (cu (cJ x.id x by_))),(2,some (cn 1 (cA 3 by_.length))),(3,bN 3 (jI by_) by_.length),(4,some (.cells [.int .i64 x.id,.int .i64 x.dim,al az x.sides] 58 (0,0)))] 6 [] 0,[]⟩ ?hdc ?qdc
   case hdc=>
    refine⟨?rsc,?sxc,?hxc,?kxc,?lxc⟩
    case hxc=>simp(disch:=decide) only[aE.eq_1,aE.eq_2,cm.eq_1,bd.eq_1,bd.eq_2,cn,cu.eq_1 by_,hup,hos,go_sem];all_goals rfl
    case kxc=>kernel_rfl
    case lxc=>exact ak (by simp(disch:=decide) [ai,ab,aa,ag]) (ap (by decide) (by simp(disch:=first|decide|omega) only[ab,aa]) (ap (by decide) (by simp(disch:=first|decide|omega) only[ab,aa];rfl) (ap (by decide) (by simp(disch:=first|decide|omega) only[ab,aa]) (ap (by decide) (by simp(disch:=first|decide|omega) only[ab,aa]) trivial)))) (by decide)
   have hids:=Ie (x:=x) hf;have hil:=No by_;have hio:=LC by_;obtain⟨N,hN⟩:∃N,N=cJ x.id x by_:=⟨_,rfl⟩;rw[<-hN]at hids hsl hadd ⊢;refine jb (Q:=xO Tryz.prog 0 ⟨aI [(3,some (.pointer (some ⟨2,0,none⟩))),(13,some (al an o)),(14,some (.int .i64 ((ao o).length:Int))),(15,some (.int .i64 (i:Int)))],wd [(1,some (cu N)),(2,some (cn 1 (cA 7 (by_.length+1)))),(7,bN 3 (jI N) (by_.length+1))] 8 [] 0,[]⟩) (fun e s' ⟨he,hq⟩=>?_) ?_
   ·subst he;refine aU hq ?_;show bA _ _ _ _ _ _;refine ac gx (by simp(disch:=first|decide|omega) only[go_sem]<;>with_reducible rfl) ?_;refine⟨⟨i+1,N,by omega,by omega,by rw[<-heq,hadd]⟩,by simp only;omega,?_⟩;simp only;rw[hsl];exact aV [(1,some 1),(2,some 2),(7,some 3)] [(1,some 1),(2,some 2),(3,some 7)] (by decide) (by decide) (by decide)
     (af (v:=.pointer (some ⟨2,0,none⟩)) (by decide) (by simp(disch:=first|decide|omega) only[ab,aa]) (ay (by simp(disch:=first|decide|omega) only[ab,aa])) (af (v:=al an o) (by decide) (by simp(disch:=first|decide|omega) only[ab,aa]) (aB aW o _ ah) (af (v:=.int .i64 ((ao o).length:Int)) (by decide) (by simp(disch:=first|decide|omega) only[ab,aa]) (ar 1 rfl) (af (v:=.int .i64 ((i+1:Nat):Int)) (by decide) (by simp(disch:=first|decide|omega) only[ab,aa]) (ar 1 rfl) aR))))
     (aj (o:=cu N) 1 (by simp(disch:=first|decide|omega) only[ab,aa]) (by decide) (by decide) (by simp(disch:=first|decide|omega) only[ab,aa]) (aq ah (dj _)) (aj (o:=cn 1 (cA 7 (by_.length+1))) 2 (by simp(disch:=first|decide|omega) only[ab,aa]) (by decide) (by decide) (by simp(disch:=first|decide|omega) only[ab,aa]) (bJ (ax (cq (by simp(disch:=first|decide|omega) only[ab,aa])) (ax (gG (by simp(disch:=first|decide|omega) only[ab,aa]) _) aX))) (gc 7 (by simp(disch:=first|decide|omega) only[ab,aa]) (by decide) (by decide) (by simp(disch:=first|decide|omega) only[ab,aa]) (fO ah (ge _) _) bj))) .nil
   rcases by_ with _|⟨p,l⟩
   ·have hi0:jI []=([]:List Value):=rfl;rw[hi0,List.nil_append]at hids;rw[hids];refine fX gx (rs:=?rse) (s':=?sxe) ?hxe ?kxe (gQ ?lxe)
    case hxe=>simp(disch:=first|decide|omega) only[aE.eq_1,aE.eq_2,cm.eq_1,bd.eq_1,bd.eq_2,cn,cA,bN,List.length_nil,show bm 0=false from rfl,go_sem]<;>with_reducible rfl
    case kxe=>kernel_rfl
    case lxe=>exact ak (by simp(disch:=decide) [ai,ab,aa,ag]) (ap (by decide) (by simp(disch:=first|decide|omega) only[ab,aa]) (ap (by decide) (by simp(disch:=first|decide|omega) only[ab,aa];rfl) (ap (by decide) (by simp(disch:=first|decide|omega) only[ab,aa];rfl) trivial))) (by decide)
   obtain⟨k,hk⟩:∃k,k=l.length:=⟨_,rfl⟩;obtain⟨ids,hidsE⟩:∃ids,ids=jI (p::l):=⟨_,rfl⟩;rw[<-hidsE]at hil hio hids ⊢;rw[List.length_cons,<-hk]at hil hb;rw[List.length_cons,<-hk,hids];refine fX gx (rs:=?rsf) (s':=?sxf) ?hxf ?kxf (gQ ?lxf)
   case hxf=>simp(disch:=first|decide|omega) only[aE.eq_1,aE.eq_2,cm.eq_1,bd.eq_1,bd.eq_2,cn,cA,bN,hil,hio,List.take_of_length_le,go_sem]<;>with_reducible rfl
   case kxf=>kernel_rfl
   case lxf=>exact ak (by simp(disch:=decide) [ai,ab,aa,ag]) (ap (by decide) (by simp(disch:=first|decide|omega) only[ab,aa]) (ap (by decide) (by simp(disch:=first|decide|omega) only[ab,aa];rfl) (ap (by decide) (by simp(disch:=first|decide|omega) only[ab,aa];rfl) trivial))) (by decide)
 have e:i=(ao o).length:=by omega
 subst e;rw[Z5 (Nat.le_refl _)]at heq;have heq:by_=ig (ao o):=heq;rw[<-heq];refine ae (ac (e:=?e13) (s':=?s13) gx ?h13 ?q13)
 case h13=>simp(disch:=decide) only[go_sem];all_goals rfl
 refine ae (aO (by simp(disch:=first|decide|omega) only[go_sem]<;>with_reducible rfl) ?_);refine bp ?_;show bA _ _ _ _ _ _;refine ae (ac (e:=?e15) (s':=?s15) gx ?h15 ?q15)
 case h15=>simp(disch:=decide) only[go_sem];all_goals rfl
 refine aU (GW (L':=[(1,some (cu by_)),(2,some (cn 1 (jd (jI by_) by_.length)))]) 3 2 1 (c:=jI by_) (d:=[.map (some 1),cA 3 by_.length]) (e:=3) (e2:=178) (fr2:=(0,0)) (k:=by_.length) rfl rfl rfl (by decide) (by decide) (by decide) (by decide) (by show by_.length<=4611686018427387904;omega) .nil (ap (by decide) rfl (ap (by decide) rfl trivial))) ?_;refine bh ?_;refine⟨_,?e16,?W16,rfl,?h16,?q16⟩
 case h16=>simp(disch:=decide) only[Tryz.results62,go_sem];all_goals rfl
 refine⟨2,1,rfl,by decide,?_,?_⟩
 ·simp(disch:=decide) only[go_sem]
 simp(disch:=decide) only[go_sem]
end Go.Proofs.YthlkgmdkabelpaaGreat.X
