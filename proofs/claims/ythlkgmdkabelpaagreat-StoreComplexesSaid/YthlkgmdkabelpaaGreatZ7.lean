/-
  Packed by program (tools/pack.py) out of the texts MZ12 MZ13. No condition.
-/
import Derived.Test.YthlkgmdkabelpaaGreatZ6
set_option linter.all false
namespace Go.Proofs.YthlkgmdkabelpaaGreat.X
open Go Go.RowKit Go.Proofs.YthlkgmdkabelpaaGreat.St
def Ni(b k:Nat):Bool:=decide (nr .and .i64 ((b/2^k:Nat):Int) ((1:Nat):Int)=((1:Nat):Int))
def rW(s:List Int)(b:Nat):Nat->Nat->List Int
 |0,_=>[]
 |m+1,k=>if Ni b k=true then s.getD k default::rW s b m (k+1)else rW s b m (k+1)
def CI(s:List Int)(b:Nat):List Int:=rW s b s.length 0
theorem wR{s:List Int}{b:Nat}:∀{m k:Nat},(rW s b m k).length<=m
 |0,_=>Nat.le_refl _
 |m+1,k=>by
  have:=wR (s:=s) (b:=b) (m:=m) (k:=k+1);unfold rW;split
  ·rw[List.length_cons];omega
  omega
def zK(al:List (List Int))(t:List Int):List (List Int):=if wL al t=true then al else al.take (lc al t)++t::al.drop (lc al t)
def qJ(s:List Int):Nat->Nat->List (List Int)->List (List Int)
 |0,_,al=>al
 |m+1,b,al=>qJ s m (b+1) (zK al (CI s b))
def wD(so:List Int×Bool)(al:List (List Int)):List (List Int):=if so.2=true then qJ so.1 (2^so.1.length-1) 1 al else al
def sZ:List (List Int)->List (List Int)->Option (List (List Int))
 |[],al=>some al
 |r::rs,al=>if 4000<(wD (rK r) al).length then none else sZ rs (wD (rK r) al)
theorem F9{al:List (List Int)}{t:List Int}(h:∀u∈al,u.length<=9)(ht:t.length<=9):(zK al t).length<=al.length+1/\∀u∈zK al t,u.length<=9:=by
 unfold zK;split
 ·exact⟨by omega,h⟩
 refine⟨by simp;omega,fun u hu=>?_⟩;rcases List.mem_append.1 hu with q|q
 ·exact h u (ac5 q)
 rcases List.mem_cons.1 q with q|q
 ·rw[q];exact ht
 exact h u (adk q)
theorem G5{s:List Int}(hs:s.length<=9):∀{m b:Nat} {al:List (List Int)},(∀u∈al,u.length<=9)->(qJ s m b al).length<=al.length+m/\∀u∈qJ s m b al,u.length<=9
 |0,b,al,h=>⟨Nat.le_refl _,h⟩
 |m+1,b,al,h=>by
  obtain⟨i1,i2⟩:=F9 (t:=CI s b) h (acx wR hs);obtain⟨j1,j2⟩:=G5 hs (m:=m) (b:=b+1) i2;unfold qJ;exact⟨by omega,j2⟩
theorem Gg{so:List Int×Bool}{al:List (List Int)}(hs:so.1.length<=9)(h:∀u∈al,u.length<=9):(wD so al).length<=al.length+511/\∀u∈wD so al,u.length<=9:=by
 unfold wD;split
 ·obtain⟨j1,j2⟩:=G5 hs (m:=2^so.1.length-1) (b:=1) h;have hpw:2^so.1.length<=2^9:=ac2 (by decide) hs;have hpw:2^so.1.length<=512:=hpw;exact⟨by omega,j2⟩
 exact⟨by omega,h⟩
theorem Hu:∀{l al a:List (List Int)},(∀u∈al,u.length<=9)->al.length<=4000->sZ l al=some a->a.length<=4000/\∀u∈a,u.length<=9
 |[],al,a,h,hl,e=>by cases e;exact⟨hl,h⟩
 |r::rs,al,a,h,hl,e=>by
  unfold sZ at e;split at e
  ·cases e
  exact Hu (Gg Dv h).2 (by omega) e
def EQ(all:List (List Int))(t:List Int):Nat->List Sd
 |0=>[]
 |k+1=>EQ all t k++[(((lc all (t.take k++t.drop (k+1))+1:Nat):Int),((1:Nat):Int)-((2*(k%2):Nat):Int))]
theorem F8{all:List (List Int)}{t:List Int}:∀{k:Nat},(EQ all t k).length=k
 |0=>rfl
 |k+1=>by rw[EQ,abP,F8];rfl
def xR(all:List (List Int))(t:List Int):List Sd:=if 1<t.length then EQ all t t.length else[]
def qH(all:List (List Int)):Nat->List Ce
 |0=>[]
 |j+1=>qH all j++[⟨((j+1:Nat):Int),((all.getD j default).length:Int)-((1:Nat):Int),fF (xR all (all.getD j default)) []⟩]
theorem CS{all:List (List Int)}:∀{j:Nat},(qH all j).length=j
 |0=>rfl
 |j+1=>by rw[qH,abP,CS];rfl
theorem Hs{all:List (List Int)}{t:List Int}:(xR all t).length<=t.length:=by
 unfold xR;split
 ·rw[F8];exact Nat.le_refl _
 exact abW _
theorem FV{all:List (List Int)}(h:∀u∈all,u.length<=9):∀{j:Nat},j<=all.length->∀c∈qH all j,c.sd.length<=9
 |0,_,c,hc=>by cases hc
 |j+1,hj,c,hc=>by
  rcases List.mem_append.1 hc with q|q
  ·exact FV h (by omega) c q
  rw[List.mem_singleton.1 q];show(fF (xR all (all.getD j default)) []).length<=9;rw[j4];have h1:=h _ (bj (l:=all) (i:=j) (by omega));have h2:=Hs (all:=all) (t:=all.getD j default);show(xR all (all.getD j default)).length+0<=9;omega
abbrev cB(o:List Ce)(r:List (Nat×Option ah)):List (Nat×Option ah):=(0,some zC)::(1,some (.cells [gs 2 aq o] 40 (0,0)))::(2,some (ro 58 o))::(3,some (ro 60 ([]:List Sd)))::r
noncomputable def wh(l:List (List Int)):List Ce:=match sZ l []with
 |none=>[]
 |some all=>qH all all.length
theorem SL{l:List (List Int)}:(wh l).length<=4000/\∀c∈wh l,c.sd.length<=9:=by
 unfold wh;cases h:sZ l []with
 |none=>exact⟨abW _,fun c hc=>(by cases hc)⟩
 |some a=>
  obtain⟨h1,h2⟩:=Hu (al:=[]) (fun u hu=>(by cases hu)) (abW _) h;exact⟨by show(qH a a.length).length<=_;rw[CS];exact h1,FV h2 (Nat.le_refl _)⟩
set_option maxHeartbeats 2000000 in
theorem VY(l:List (List Int))(hl:l.length<=1000000)(hr:∀r∈l,r.length<=1000000):Fn Tryz.prog 31 [sl l] (.ret (gw (wh l))):=by
 refine fY Tryz.func31 Tryz.results31 (h:=?_);refine rs ?_;refine rs ?_;refine rS ?_;refine fo (fun x:Nat×List (List Int)=>⟨ao (sF l x.2 x.1 []),wd [(0,some zC)] 1 [] 0,[]⟩) (fun x=>x.1<=l.length/\x.2.length<=4000/\(∀t∈x.2,t.length<=9)/\sZ l []=sZ (l.drop x.1) x.2) (fun x=>l.length-x.1) (0,[]) ⟨abW _,by decide,fun t h=>(by cases h),rfl⟩ (fun x hv h=>?_) (fun x hv h=>?_)
 ·obtain⟨i,all⟩:=x;obtain⟨h1,h2,h3,h5⟩:=hv;simp only at h h1 h2 h3 h5;have hi:i<l.length:=by omega
  rw[show l.drop i=l.getD i default::l.drop (i+1) by rw[acF hi,abV,abS hi];rfl,sZ]at h5;have hset:=Xh (l.getD i default) (hr _ (bj (by omega)));have hs9:=Dv (l:=l.getD i default);generalize rK (l.getD i default)=so at hset hs9 h5;obtain⟨s,ok⟩:=so;simp only at hset hs9 h5;refine bs (rc (b1 hset) ?_);refine G2 (fun a:List (List Int)=>⟨ao (sF l a i []),wd [(0,some zC)] 1 [] 0,[]⟩) (fun a=>a=wD (s,ok) all) ?_ (fun a ha=>?_)
  ·refine rs ?_;refine aK ?_;refine lp (fun y:Nat×List (List Int)=>⟨ao (sF l y.2 i [(5,some (sl s)),(6,some (.bool ok)),(7,some (.int .i64 (y.1:Nat)))]),wd [(0,some zC)] 1 [] 0,[]⟩) (fun y=>1<=y.1/\y.1<=512/\y.2.length<=4000+y.1/\(∀t∈y.2,t.length<=9)/\(ok=false->y.2=all)/\(ok=true->y.1<=2^s.length/\qJ s (2^s.length-1) 1 all=qJ s (2^s.length-y.1) y.1 y.2)) (fun y=>512-y.1) (1,all) ⟨Nat.le_refl _,by show 1<=512;decide,by dsimp only;omega,h3,fun _=>rfl,fun _=>⟨Nat.one_le_two_pow,rfl⟩⟩ (fun y hv=>?_);obtain⟨b,al⟩:=y;obtain⟨g1,g2,g3,g4,g5,g6⟩:=hv;simp only at g1 g2 g3 g4 g5 g6;cases ok with
   |false=>
    refine rS ?_;refine cf ?_;refine xe ?_;exact⟨rfl,al,g5 rfl,bL⟩
   |true=>
    obtain⟨g6,g7⟩:=g6 rfl;have hN:wD (s,true) all=qJ s (2^s.length-1) 1 all:=rfl;refine rS ?_;have hpw:2^s.length<=2^9:=ac2 (by decide) hs9;have hpw:2^s.length<=512:=hpw;generalize 2^s.length=p at hpw g6 g7 hN ⊢;rw[show IntKind.i64.wrap ((1*p:Nat):Int)=((p:Nat):Int) by rw[Nat.one_mul];exact wrap_i64 (by omega) (by omega)];refine cp (fun hb=>?_) (fun hb=>?_)
    ·refine ap (bs (rs ?_));rw[show p-b=(p-(b+1))+1 by omega,qJ]at g7;refine G2 (fun t:List Int=>⟨ao (sF l al i [(5,some (sl s)),(6,some (.bool true)),(7,some (.int .i64 (b:Nat))),(8,some (sl t))]),wd [(0,some zC)] 2 [] 0,[]⟩) (fun t=>t=CI s b) ?_ (fun t ht=>?_)
     ·refine rs ?_;refine aK ?_;refine lp (fun y:Nat×List Int=>⟨ao (sF l al i [(5,some (sl s)),(6,some (.bool true)),(7,some (.int .i64 (b:Nat))),(8,some (gs 1 aq y.2)),(9,some (.int .i64 (y.1:Nat)))]),wd [(0,some zC),(1,some (ro 3 y.2))] 2 [] 0,[]⟩) (fun y=>y.1<=s.length/\y.2.length<=y.1/\CI s b=y.2++rW s b (s.length-y.1) y.1) (fun y=>s.length-y.1) (0,[]) ⟨abW _,Nat.le_refl _,rfl⟩ (fun y hv=>?_);obtain⟨k,t⟩:=y;obtain⟨e1,e2,e3⟩:=hv;simp only at e1 e2 e3;refine rS ?_;refine cp (fun hk=>?_) (fun hk=>?_)
      ·refine ap (bs ?_);rw[show s.length-k=(s.length-(k+1))+1 by omega,rW]at e3;refine rs ?_;refine cp (fun hbit=>?_) (fun hbit=>?_)
       ·have hbd:Ni b k=true:=decide_eq_true hbit;rw[if_pos hbd]at e3;refine rl ?_;refine rl ?_;exact nx (k+1,t++[s.getD k default]) ⟨by dsimp only;omega,by simp;omega,by show CI s b=(t++[s.getD k default])++rW s b (s.length-(k+1)) (k+1);rw[e3];simp⟩ (h:=rn [(0,0),(3,1)])
       have hbd:¬Ni b k=true:=fun q=>hbit (of_decide_eq_true q)
       rw[if_neg hbd]at e3;refine ap (rl ?_);exact nx (k+1,t) ⟨by dsimp only;omega,by dsimp only;omega,e3⟩
      refine xe ?_;rw[show s.length-k=0 by omega,show rW s b 0 k=[]from rfl,List.append_nil]at e3;exact⟨rfl,t,e3.symm,fz 1⟩
     have ht9:t.length<=9:=by rw[ht];exact acx wR hs9
     rw[<-ht]at g7;clear ht;have hpl:=Cm al t (by omega) (by omega) (fun u hu=>by have:=g4 u hu;omega);refine rc (b1 hpl) ?_;refine rs ?_;have hkl:lc al t<=al.length:=Ga;obtain⟨hi1,hi2⟩:=F9 g4 ht9;refine cb (fun hp=>?_) (fun hp=>?_)
     ·have hp2:¬wL al t=true:=by intro q;rw[q]at hp;cases hp
      have he:zK al t=al.take (lc al t)++t::al.drop (lc al t):=if_neg hp2;rw[he]at hi1 hi2 g7;refine rs ?_;refine rl ?_;refine rl ?_;exact nx (b+1,al.take (lc al t)++t::al.drop (lc al t)) ⟨by dsimp only;omega,by dsimp only;omega,by dsimp only;omega,hi2,fun h=>(by cases h),fun _=>⟨by dsimp only;omega,g7⟩⟩ (h:=Ea 6 [(0,0)])
     have hp2:wL al t=true:=by
      cases q:wL al t with
      |true=>rfl
      |false=>rw[q]at hp;cases hp
     have he:zK al t=al:=if_pos hp2;rw[he]at g7;refine ap (rl ?_);exact nx (b+1,al) ⟨by dsimp only;omega,by dsimp only;omega,by dsimp only;omega,g4,fun h=>(by cases h),fun _=>⟨by dsimp only;omega,g7⟩⟩ (h:=rn [(0,0)])
    refine xe ?_;rw[show p-b=0 by omega,show qJ s 0 b al=al from rfl]at g7;exact⟨rfl,al,by rw[hN,g7],bL⟩
  obtain⟨ha1,ha2⟩:=Gg (so:=(s,ok)) hs9 h3;rw[<-ha]at ha1 ha2 h5;clear ha;refine rs ?_;refine cp (fun hc=>?_) (fun hc=>?_)
  ·rw[if_pos (by omega)]at h5;unfold wh;rw[h5];refine rs ?_;refine cv [(2,some (.pointer (some ⟨0,0,none⟩)))] [(0,some (.cells [sl ([]:List Ce)] 40 (0,0)))] 1 ?_ (hl:=fb [(0,0)] (hL:=aN 0 (by repeat (first|exact ab|refine Eq.trans (aa (by decide)) ?_)) (by decide) (by decide) (by repeat (first|exact ab|refine Eq.trans (aa (by decide)) ?_)) qU dP));refine rt ?_;rfl
  rw[if_neg (by omega)]at h5;refine ap (rl ?_);exact nx (i+1,a) ⟨by dsimp only;omega,by dsimp only;omega,ha2,h5⟩
 obtain⟨i,all⟩:=x;obtain⟨h1,h2,h3,h5⟩:=hv;simp only at h h1 h2 h3 h5;rw[show i=l.length by omega,List.drop_length]at h5;have h5:sZ l []=some all:=h5;unfold wh;rw[h5];show ar _ _ _ _ _ _;refine rs ?_;refine rS ?_;refine aK ?_;refine lp (fun x:Nat×List Ce=>⟨ao (cF all x.1 []),wd (cB x.2 []) 4 [] 0,[]⟩) (fun x=>x.1<=all.length/\x.2.length=x.1/\x.2=qH all x.1) (fun x=>all.length-x.1) (0,[]) ⟨abW _,rfl,rfl⟩ (fun x hv=>?_) (h0:=?_)
 ·obtain⟨j,o⟩:=x;obtain⟨v1,v2,v3⟩:=hv;simp only at v1 v2 v3;refine rS ?_;refine cp (fun hj=>?_) (fun hj=>?_)
  ·have hj:j<all.length:=by omega
   have ht9:=h3 _ (bj (l:=all) (i:=j) (by omega));have hcel:qH all (j+1)=o++[⟨((j+1:Nat):Int),((all.getD j default).length:Int)-((1:Nat):Int),fF (xR all (all.getD j default)) []⟩]:=by rw[qH,<-v3]
   clear v3;generalize hx:all.getD j default=t at ht9 hcel;refine ap (bs (rf hx ?_));obtain⟨d,hdd⟩:∃d:Int,d=(t.length:Int)-((1:Nat):Int):=⟨_,rfl⟩;rw[<-hdd]at hcel ⊢;refine G2 (fun sd:List Sd=>⟨ao (cF all j [(15,some (.pointer (some ⟨4,0,none⟩)))]),wd (cB o [(4,some (.cells [.int .i64 ((j+1:Nat):Int),.int .i64 d,sl sd] 58 (0,0)))]) 6 [] 0,[]⟩) (fun sd=>sd=xR all t) ?_ (fun sd hsd=>?_)
   ·refine rs ?_;refine aK ?_;refine lp (fun y:Nat×List Sd=>⟨ao (cF all j [(15,some (.pointer (some ⟨4,0,none⟩))),(16,some (.int .i64 (y.1:Nat)))]),wd (cB o [(4,some (.cells [.int .i64 ((j+1:Nat):Int),.int .i64 d,gs 5 aq y.2] 58 (0,0))),(5,some (ro 60 y.2))]) 6 [] 0,[]⟩) (fun y=>y.1<=t.length/\y.2.length=y.1/\y.2=EQ all t y.1/\(0<y.1->0<d)) (fun y=>t.length-y.1) (0,[]) ⟨abW _,rfl,rfl,fun h=>absurd h (Nat.lt_irrefl 0)⟩ (fun y hv=>?_) (h0:=?_)
    ·obtain⟨k,sd⟩:=y;obtain⟨e1,e2,e3,e4⟩:=hv;simp only at e1 e2 e3 e4;by_cases hk:k<t.length
     ·refine ai ?_;refine rf hx ?_;refine cp (fun hd=>?_) (fun hd=>?_)
      ·subst hx;refine ap (bs ?_);refine rd ?_ (hk:=by
        refine fX (by kernel_rfl) (by kernel_rfl) ?_;refine aQ (by kernel_rfl) (aQ (by kernel_rfl) (aQ (by kernel_rfl) ?_));refine aQ ?hA ?_
        case hA=>refine dj (by with_reducible rfl) (by kernel_rfl) (by kernel_rfl) ?_;simp(disch:=first|decide|omega|(simp only[abP,List.length_cons,List.length_nil,abR,abT,abX]<;>omega)|(simp(disch:=decide) only[ae,ab,aa,b9.eq_1];done)) only[fT.eq_1,cond_true,go_sem]
        refine aQ (by kernel_rfl) (aQ (by kernel_rfl) (aQ (by kernel_rfl) (aQ (by kernel_rfl) (aQ (by kernel_rfl) (aQ (by kernel_rfl) ?_)))));refine aQ ?hB ?_
        case hB=>refine dj (by with_reducible rfl) (by kernel_rfl) (by kernel_rfl) ?_;simp(disch:=first|decide|omega|(simp only[abP,List.length_cons,List.length_nil,abR,abT,abX]<;>omega)|(simp(disch:=decide) only[ae,ab,aa,b9.eq_1];done)) only[fT.eq_1,cond_true,go_sem]
        refine aQ (by kernel_rfl) (aQ (by kernel_rfl) (aQ (by kernel_rfl) ?_));refine nk [6] (by kernel_rfl) (by kernel_rfl) (by kernel_rfl) rfl ?hC ?_
        case hC=>simp(disch:=first|decide|omega|(simp only[abP,List.length_cons,List.length_nil,abR,abT,abX]<;>omega)|(simp(disch:=decide) only[ae,ab,aa,b9.eq_1];done)) only[sQ,fT.eq_1,go_sem]
        exact aQ (by kernel_rfl) (aQ (by kernel_rfl) rfl))
       have hrl:((all.getD j default).take k++(all.getD j default).drop (k+1)).length<=9:=by rw[abP,abR,abT];omega
       have hpl:=Cm all ((all.getD j default).take k++(all.getD j default).drop (k+1)) (by omega) (by omega) (fun u hu=>by have:=h3 u hu;omega);have hsq:EQ all (all.getD j default) (k+1)=sd++[(((lc all ((all.getD j default).take k++(all.getD j default).drop (k+1))+1:Nat):Int),((1:Nat):Int)-((2*(k%2):Nat):Int))]:=by rw[EQ,<-e3]
       refine cv (cF all j [(15,some (.pointer (some ⟨4,0,none⟩))),(16,some (.int .i64 (k:Nat))),(17,some (sl ((all.getD j default).take k++(all.getD j default).drop (k+1))))]) (cB o [(4,some (.cells [.int .i64 ((j+1:Nat):Int),.int .i64 d,gs 5 aq sd] 58 (0,0))),(5,some (ro 60 sd))]) 9 ?_ (hl:=xS 8);generalize(all.getD j default).take k++(all.getD j default).drop (k+1)=rest at hpl hsq;have hpn:=Ga (l:=all) (s:=rest);refine rc (b1 hpl) ?_;refine rl ?_;refine rl ?_;exact nx (k+1,sd++[(((lc all rest+1:Nat):Int),((1:Nat):Int)-((2*(k%2):Nat):Int))]) ⟨by dsimp only;omega,by simp;omega,hsq.symm,fun _=>by omega⟩ (by dsimp only;omega) (fb [(0,0),(1,1),(2,2),(3,3),(4,4),(10,5)])
      refine xe ?_;refine⟨rfl,sd,?_,xS 5⟩;have hk0:k=0:=by
       rcases adc k with q|q
       ·exact q
       exact absurd (e4 q) (by omega)
      unfold xR;rw[if_neg (by omega),e3,hk0];rfl
     refine ai ?_;refine rf hx ?_;refine cf ?_;refine xe ?_;refine⟨rfl,sd,?_,xS 5⟩;have F6:k=t.length:=by omega
     unfold xR;rw[e3,F6];split
     ·rfl
     rcases adc k with q|q
     ·rw[<-F6,q];rfl
     have:=e4 q;omega
    exact mO (wW (m:=5) (o:=ro 60 ([]:List Sd)) (by decide) (by decide)) (fb [(0,0),(1,1),(2,2),(3,3),(4,4),(5,5)])
   have hsd9:=Hs (all:=all) (t:=t);rw[<-hsd]at hcel hsd9;clear hsd;have hso:=B5 sd (by omega);have hsl:(fF sd []).length=sd.length:=by rw[j4];rfl
   refine cv (cF all j [(15,some (.pointer (some ⟨4,0,none⟩)))]) [(0,some zC),(1,some (.cells [gs 2 aq o] 40 (0,0))),(2,some (ro 58 o)),(3,some (ro 60 ([]:List Sd))),(4,some (.cells [.int .i64 ((j+1:Nat):Int),.int .i64 d,sl sd] 58 (0,0)))] 6 ?_;refine rc (b1 hso) ?_;refine rl ?_;refine rl ?_;refine nx ⟨j+1,o++[⟨((j+1:Nat):Int),d,fF sd []⟩]⟩ ⟨by show j+1<=_;omega,by show(o++_).length=_;simp;omega,hcel.symm⟩ (by dsimp only;omega) ?_;exact fb [(0,0),(7,2),(1,1),(3,3)]
  have hj:j=all.length:=by omega
  rw[hj]at v3;refine xe ?_;show ar _ _ _ _ _ _;refine cv [(2,some (.pointer (some ⟨0,0,none⟩))),(13,some (.pointer (some ⟨1,0,none⟩)))] [(0,some zC),(1,some (.cells [sl o] 40 (0,0)))] 4 ?_ (hl:=xS 2);refine rs ?_;refine rt ?_;show _=aW.ret (gw (qH all all.length));rw[<-v3]
 show bz _ _ _ ⟨ao (cF all 0 []),wd [(0,some zC),(1,some (.cells [gs 2 aq ([]:List Ce)] 40 (0,0))),(2,some (ro 58 ([]:List Ce))),(3,some (ro 60 ([]:List Sd)))] 4 [] 0,[]⟩;exact mO (wW (m:=2) (o:=ro 58 ([]:List Ce)) (by decide) (by decide)) (mO (wW (m:=3) (o:=ro 60 ([]:List Sd)) (by decide) (by decide)) (fb [(0,0),(1,1),(2,2),(3,3)]))
def I0(x:Int)(v:Nat):Bool:=decide (nr .and .i64 (x.fdiv ((2^v:Nat):Int)) ((1:Nat):Int)=((1:Nat):Int))
def wz(x:Int):Nat->Nat->List Int->List Int
 |0,_,t=>t
 |m+1,v,t=>if t.length<4 then wz x m (v+1) (if I0 x v=true then t++[((v:Nat):Int)]else t)else t
def wE(x:Int):List Int:=wz x 6 0 []
theorem CH{x:Int}:∀{m v:Nat} {t:List Int},t.length<=4->(wz x m v t).length<=4
 |0,_,t,h=>h
 |m+1,v,t,h=>by
  unfold wz;split
  ·refine CH ?_;split
   ·rw[abP,ab5];omega
   omega
  exact h
noncomputable def EO(a:List Int):List Ce:=wh ((a.take 12).map wE)
set_option maxHeartbeats 2000000 in
theorem Vh(a:List Int):Fn Tryz.prog 16 [sl a] (.ret (gw (EO a))):=by
 refine fY Tryz.func16 Tryz.results16 (h:=?_);refine rs ?_;refine rs ?_;refine G2 (fun ls:List (List Int)=>⟨ao [(2,some (.pointer (some ⟨0,0,none⟩))),(3,some (sl ls))],wd [(0,some zC)] 1 [] 0,[]⟩) (fun ls=>ls=(a.take 12).map wE) ?_ (fun ls hls=>?_)
 ·refine rs ?_;refine aK ?_;refine lp (fun y:Nat×List (List Int)=>⟨ao [(0,some (sl a)),(2,some (.pointer (some ⟨0,0,none⟩))),(3,some (gs 1 aq y.2)),(4,some (.int .i64 (y.1:Nat)))],wd [(0,some zC),(1,some (ro 35 y.2))] 2 [] 0,[]⟩) (fun y=>y.1<=a.length/\y.2.length=y.1/\y.1<=12/\y.2=(a.take y.1).map wE) (fun y=>a.length-y.1) (0,[]) ⟨abW _,rfl,by decide,rfl⟩ (fun y hv=>?_);obtain⟨k,ls⟩:=y;obtain⟨h1,h2,h3,h4⟩:=hv;simp only at h1 h2 h3 h4;by_cases hk:k<a.length
  ·by_cases hk2:k<12
   ·refine rS ?_;refine ct ?_;refine ap (bs (rs ?_));refine G2 (fun t:List Int=>⟨ao [(0,some (sl a)),(2,some (.pointer (some ⟨0,0,none⟩))),(3,some (gs 1 aq ls)),(4,some (.int .i64 (k:Nat))),(5,some (sl t))],wd [(0,some zC),(1,some (ro 35 ls))] 2 [] 0,[]⟩) (fun t=>t=wE (a.getD k default)) ?_ (fun t ht=>?_)
    ·refine rs ?_;refine aK ?_;refine lp (fun y:Nat×List Int=>⟨ao [(0,some (sl a)),(2,some (.pointer (some ⟨0,0,none⟩))),(3,some (gs 1 aq ls)),(4,some (.int .i64 (k:Nat))),(5,some (gs 2 aq y.2)),(6,some (.int .i64 (y.1:Nat)))],wd [(0,some zC),(1,some (ro 35 ls)),(2,some (ro 3 y.2))] 3 [] 0,[]⟩) (fun y=>y.1<=6/\y.2.length<=4/\wE (a.getD k default)=wz (a.getD k default) (6-y.1) y.1 y.2) (fun y=>6-y.1) (0,[]) ⟨by decide,by decide,rfl⟩ (fun y hv=>?_);obtain⟨v,t⟩:=y;obtain⟨e1,e2,e3⟩:=hv;simp only at e1 e2 e3;by_cases hv6:v<6
     ·by_cases ht4:t.length<4
      ·rw[show 6-v=(6-(v+1))+1 by omega,wz,if_pos ht4]at e3;refine rS ?_;refine ct ?_;refine ap (bs ?_);refine rs ?_;refine cb (fun hb=>?_) (fun hb=>?_)
       ·have hb:I0 (a.getD k default) v=true:=hb;rw[if_pos hb]at e3;refine rl ?_;refine rl ?_;exact nx (v+1,t++[((v:Nat):Int)]) ⟨by dsimp only;omega,by simp;omega,e3⟩ (h:=rn [(0,0),(1,1),(4,2)])
       have hb:¬I0 (a.getD k default) v=true:=fun q=>by rw[show I0 (a.getD k default) v=_ from hb]at q;cases q
       rw[if_neg hb]at e3;refine ap (rl ?_);exact nx (v+1,t) ⟨by dsimp only;omega,e2,e3⟩
      rw[show 6-v=(6-(v+1))+1 by omega,wz,if_neg ht4]at e3;refine rS ?_;refine cf ?_;refine xe ?_;exact⟨rfl,t,e3.symm,Ea 2 [(0,0),(1,1)]⟩
     rw[show 6-v=0 by omega]at e3;have e3:wE (a.getD k default)=t:=e3;refine rS ?_;refine cf ?_;refine xe ?_;exact⟨rfl,t,e3.symm,Ea 2 [(0,0),(1,1)]⟩
    refine rl ?_;refine rl ?_;refine nx (k+1,ls++[t]) ⟨by dsimp only;omega,by simp;omega,by dsimp only;omega,?_⟩ (h:=rn [(0,0),(3,1)]);show ls++[t]=(a.take (k+1)).map wE;rw[h4,ht,List.take_succ,acn,abV,abS hk];rfl
   refine rS ?_;refine cf ?_;refine xe ?_;exact⟨rfl,ls,by rw[h4,show k=12 by omega],Ea 1 [(0,0)]⟩
  refine rS ?_;refine cf ?_;refine xe ?_;exact⟨rfl,ls,by rw[h4,List.take_of_length_le (i:=k) (by omega),List.take_of_length_le (i:=12) (by omega)],Ea 1 [(0,0)]⟩
 have hl1:ls.length<=12:=by rw[hls,ab1,abR];omega
 have hl2:∀t∈ls,t.length<=4:=fun t ht=>by
  rw[hls]at ht;obtain⟨x,_,rfl⟩:=List.mem_map.1 ht;exact CH (by decide)
 unfold EO;rw[<-hls];refine rc (b1 (VY ls (by omega) (fun r hr=>by have:=hl2 r hr;omega))) ?_;refine rt ?_;rfl
end Go.Proofs.YthlkgmdkabelpaaGreat.X
