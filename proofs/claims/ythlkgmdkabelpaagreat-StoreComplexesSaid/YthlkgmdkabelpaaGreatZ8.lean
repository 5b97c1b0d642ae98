/-
  Packed by program (tools/pack.py) out of the texts MZ14 MZ15 MZ16 MZ17. No condition.
-/
import Derived.Test.YthlkgmdkabelpaaGreatZ7
import Derived.Test.YthlkgmdkabelpaaGreatZD
import Derived.Test.YthlkgmdkabelpaaGreatZQ
set_option linter.all false
namespace Go.Proofs.YthlkgmdkabelpaaGreat.X
open Go Go.RowKit Go.Proofs.YthlkgmdkabelpaaGreat.St
def vQ(b:Int)(s:Sd):Sd:=(IntKind.i64.wrap (s.1*b),s.2)
def apC(b:Int)(c:Ce):Ce:=⟨IntKind.i64.wrap (c.id*b),c.dim,c.sd.map (vQ b)⟩
def ot(b:Int)(l:List Ce):List Ce:=l.map (apC b)
set_option maxHeartbeats 1000000 in
theorem Oo(l:List Ce)(b:Int)(hl:l.length<=1000000)(hs:∀c∈l,c.sd.length<=1000000):Fn Tryz.prog 15 [gw l,.int .i64 b] (.ret (gw (ot b l))):=by
 refine fY Tryz.func15 Tryz.results15 (h:=?_);refine rs ?_;refine rs ?_;refine rS ?_;refine aK ?_;refine lp (fun i:Nat=>⟨ao [(1,some (.int .i64 b)),(2,some (.pointer (some ⟨0,0,none⟩))),(4,some (.pointer (some ⟨1,0,none⟩))),(5,some (.pointer (some ⟨2,0,none⟩))),(6,some (.int .i64 (i:Nat)))],wd [(0,some (.cells [sl l] 40 (0,0))),(1,some zC),(2,some (.cells [gs 3 aq (ot b (l.take i))] 40 (0,0))),(3,some (ro 58 (ot b (l.take i))))] 4 [] 0,[]⟩) (fun i=>i<=l.length) (fun i=>l.length-i) 0 (abW _) (fun i hv=>?_) (h0:=?_)
 ·refine rS ?_;refine cp (fun hi=>?_) (fun hi=>?_)
  ·refine ap (bs ?_);have hi:i<l.length:=by omega
   have hc9:=hs _ (bj (l:=l) (i:=i) hi);have hap:ot b (l.take (i+1))=ot b (l.take i)++[apC b (l.getD i default)]:=by unfold ot;rw[List.take_succ,acn,abV,abS hi];rfl
   have hal:(ot b (l.take i)).length=i:=by unfold ot;rw[ab1,abR];omega
   generalize hx:l.getD i default=c at hc9 hap;obtain⟨x,d,sd⟩:=c;simp only at hc9;refine tu hx ?_;generalize ot b (l.take i)=out at hap hal ⊢;refine rS ?_;refine aK ?_;refine lp (fun j:Nat=>⟨ao [(1,some (.int .i64 b)),(2,some (.pointer (some ⟨0,0,none⟩))),(4,some (.pointer (some ⟨1,0,none⟩))),(5,some (.pointer (some ⟨2,0,none⟩))),(6,some (.int .i64 (i:Nat))),(7,some (.pointer (some ⟨4,0,none⟩))),(8,some (.int .i64 (j:Nat)))],wd [(0,some (.cells [sl l] 40 (0,0))),(1,some zC),(2,some (.cells [gs 3 aq out] 40 (0,0))),(3,some (ro 58 out)),(4,some (.cells [.int .i64 (IntKind.i64.wrap (x*b)),.int .i64 d,gs 5 aq ((sd.take j).map (vQ b))] 58 (0,0))),(5,some (ro 60 ((sd.take j).map (vQ b))))] 6 [] 0,[]⟩) (fun j=>j<=sd.length) (fun j=>sd.length-j) 0 (abW _) (fun j hv=>?_) (h0:=?_)
   ·refine ai ?_;refine rf hx ?_;refine cp (fun hj=>?_) (fun hj=>?_)
    ·refine ap (bs ?_);have hj:j<sd.length:=by omega
     have hsp:(sd.take (j+1)).map (vQ b)=(sd.take j).map (vQ b)++[vQ b (sd.getD j default)]:=by rw[List.take_succ,acn,abV,abS hj];rfl
     have hsl:((sd.take j).map (vQ b)).length=j:=by rw[ab1,abR];omega
     generalize hy:sd.getD j default=y at hsp;obtain⟨r,g⟩:=y;refine XY (And.intro hx (And.intro hy hsl)) ?_;show ar _ _ _ _ _ _;refine rl ?_;refine nx (j+1) (by omega) (by omega) ?_;rw[hsp];exact fb [(0,0),(1,1),(2,2),(3,3),(4,4),(7,5)]
    have hj:j=sd.length:=by omega
    rw[hj,List.take_length];have hsm:(sd.map (vQ b)).length=sd.length:=ab1 _;refine xe ?_;show ar _ _ _ _ _ _;refine cv [(1,some (.int .i64 b)),(2,some (.pointer (some ⟨0,0,none⟩))),(4,some (.pointer (some ⟨1,0,none⟩))),(5,some (.pointer (some ⟨2,0,none⟩))),(6,some (.int .i64 (i:Nat))),(7,some (.pointer (some ⟨4,0,none⟩)))] [(0,some (.cells [sl l] 40 (0,0))),(1,some zC),(2,some (.cells [gs 3 aq out] 40 (0,0))),(3,some (ro 58 out)),(4,some (.cells [.int .i64 (IntKind.i64.wrap (x*b)),.int .i64 d,sl (sd.map (vQ b))] 58 (0,0)))] 6 ?_ (hl:=xS 5);refine rl ?_;refine rl ?_;refine nx (i+1) (by omega) (by omega) ?_;rw[hap];exact fb [(0,0),(1,1),(2,2),(7,3)]
   show bz _ _ _ ⟨ao [(1,some (.int .i64 b)),(2,some (.pointer (some ⟨0,0,none⟩))),(4,some (.pointer (some ⟨1,0,none⟩))),(5,some (.pointer (some ⟨2,0,none⟩))),(6,some (.int .i64 (i:Nat))),(7,some (.pointer (some ⟨4,0,none⟩))),(8,some (.int .i64 ((0:Nat):Int)))],wd [(0,some (.cells [sl l] 40 (0,0))),(1,some zC),(2,some (.cells [gs 3 aq out] 40 (0,0))),(3,some (ro 58 out)),(4,some (.cells [.int .i64 (IntKind.i64.wrap (x*b)),.int .i64 d,gs 5 aq ([]:List Sd)] 58 (0,0))),(5,some (ro 60 ([]:List Sd)))] 6 [] 0,[]⟩;exact mO (wW (m:=5) (o:=ro 60 ([]:List Sd)) (by decide) (by decide)) (fb [(0,0),(1,1),(2,2),(3,3),(4,4),(5,5)])
  rw[show i=l.length by omega,List.take_length];have hml:(ot b l).length=l.length:=ab1 _;refine xe ?_;show ar _ _ _ _ _ _;refine cv [(4,some (.pointer (some ⟨1,0,none⟩))),(5,some (.pointer (some ⟨2,0,none⟩)))] [(1,some zC),(2,some (.cells [sl (ot b l)] 40 (0,0)))] 4 ?_ (hl:=xS 3);refine rs ?_;refine rt ?_;rfl
 show bz _ _ _ ⟨ao [(1,some (.int .i64 b)),(2,some (.pointer (some ⟨0,0,none⟩))),(4,some (.pointer (some ⟨1,0,none⟩))),(5,some (.pointer (some ⟨2,0,none⟩))),(6,some (.int .i64 ((0:Nat):Int)))],wd [(0,some (.cells [sl l] 40 (0,0))),(1,some zC),(2,some (.cells [gs 3 aq ([]:List Ce)] 40 (0,0))),(3,some (ro 58 ([]:List Ce)))] 4 [] 0,[]⟩;exact mO (wW (m:=3) (o:=ro 58 ([]:List Ce)) (by decide) (by decide)) (fb [(0,0),(1,1),(2,2),(3,3)])
theorem TU{b:Int}{l:List Ce}{n:Nat}(hs:∀c∈l,c.sd.length<=n):(ot b l).length=l.length/\∀c∈ot b l,c.sd.length<=n/\c.id<9223372036854775808:=by
 refine⟨ab1 _,fun c hc=>?_⟩;obtain⟨x,hx,rfl⟩:=List.mem_map.1 hc;exact⟨by show(x.sd.map (vQ b)).length<=n;rw[ab1];exact hs x hx,by show IntKind.i64.wrap (x.id*b)<_;rw[IntKind.wrap_i64];omega⟩
@[go_sem high] theorem ne_sd {a b:Int} {x y:Operand}:dH Tryz.prog .neq 60 x y (some (.agg #[.int .i64 a,.int .i64 b])) (some (.agg #[.int .i64 a,.int .i64 b]))=some (.val (some (.bool false))):=
 RK Tryz.underlying60 (by kernel_rfl) Tryz.underlying3 Tryz.underlying3 rfl rfl (by kernel_rfl)
theorem YJ(c:Ce)(hs:c.sd.length<=1000000):Fn Tryz.prog 48 [jA c,jA c] (.ret (.bool true)):=by
 refine fY Tryz.func48 Tryz.results48 (h:=?_);refine rs ?_;refine rS ?_;refine cf ?_;refine sk (rS ?_);refine fo (fun i:Nat=>⟨ao [(2,some (.pointer (some ⟨0,0,none⟩))),(3,some (.pointer (some ⟨1,0,none⟩))),(5,some (.int .i64 (i:Nat)))],wd [(0,some (.cells [.int .i64 c.id,.int .i64 c.dim,sl c.sd] 58 (0,0))),(1,some (.cells [.int .i64 c.id,.int .i64 c.dim,sl c.sd] 58 (0,0)))] 2 [] 0,[]⟩) (fun i=>i<=c.sd.length) (fun i=>c.sd.length-i) 0 (abW _) (fun i hv h=>?_) (fun i hv h=>?_)
 ·refine bs (rd ?_);refine cf ?_;refine ap ?_;refine rl ?_;exact nx (i+1) (by omega) (by omega)
 refine rs ?_;refine rt ?_;rfl
theorem YB(l:List Ce)(hl:l.length<=1000000)(hs:∀c∈l,c.sd.length<=1000000):Fn Tryz.prog 23 [gw l,gw l] (.ret (.bool true)):=by
 have hcn:=wn l hl hs;have ho:∀c∈aM l,c.sd.length<=1000000:=fun c hc=>by
  obtain⟨c0,h0,rfl⟩:=jE _ l (Nat.le_refl _) c hc;show(fF c0.sd []).length<=_;rw[j4];have:=hs c0 h0;show c0.sd.length+0<=_;omega
 have hlo:=fl _ l (Nat.le_refl _);generalize aM l=o at hcn ho hlo;refine fY Tryz.func23 Tryz.results23 (h:=?_);refine rs ?_;refine rc (b1 hcn) ?_;refine rc (b1 hcn) ?_;refine rS ?_;refine cf ?_;refine sk (rS ?_);refine fo (fun i:Nat=>⟨ao [(5,some (sl o)),(6,some (sl o)),(7,some (.int .i64 (i:Nat)))],wd [] 2 [] 0,[]⟩) (fun i=>i<=o.length) (fun i=>o.length-i) 0 (abW _) (fun i hv h=>?_) (fun i hv h=>?_)
 ·have hc:=ho _ (bj (l:=o) (i:=i) (by omega));refine bs (Hi (b1 (YJ _ hc)) ?_);refine rs ?_;refine cf ?_;refine ap ?_;refine rl ?_;exact nx (i+1) (by omega) (by omega)
 refine rs ?_;refine rt ?_;rfl
theorem Yv{k:Nat}{c:Ce}(h:rk c)(h9:c.sd.length<=9):(iX k c).length<=150:=by
 have h1:=h.id;have h2:=h.dim;have:=rv h.sd _ (Nat.le_refl _);have:=cK (n:=c.id.toNat-16*k) (by omega);have:=cK (n:=c.dim.toNat) (by omega);have:=cK (n:=c.sd.length) (by omega);rw[iX,abP,abP,abP];omega
structure Pu(c:Ce):Prop where
 b:rk c
 s:c.sd.length<=9
theorem P3{l:List Ce}{k:Nat}(h:∀c∈l,Pu c):∀j,j<=l.length->(jS l k j).2.length<=150*j/\(jS l k j).1<=j
 |0,_=>⟨Nat.le_refl _,Nat.le_refl _⟩
 |j+1,hj=>by
  have:=P3 (k:=k) h j (by omega);have h1:=h _ (bj (l:=l) (i:=j) (by omega));have h2:=Yv (k:=k) h1.b h1.s;unfold jS;split
  ·rw[abP];simp only;omega
  omega
theorem Z0{l:List Ce}{k:Nat}(h:∀c∈l,Pu c)(hl:l.length<=1000000)(hk:k<9223372036854775808):(kL l k).length<=150*l.length+21:=by
 have h1:=P3 (k:=k) h _ (Nat.le_refl _);have h2:=cK (n:=k) hk;have h3:=cK (n:=(jS l k l.length).1) (by omega);rw[kL,List.length_cons,abP,abP];omega
theorem Jh{o:List Ce}(h:∀c∈o,Pu c)(hl:o.length<=1000000):∀j,j<=o.length->∀t∈(eY o j).out,t.b.length<=150*o.length+21
 |0,_,t,ht=>by cases ht
 |j+1,hj,t,ht=>by
  unfold eY at ht;split at ht
  ·exact Jh h hl j (by omega) t ht
  rcases List.mem_append.1 ht with ht|ht
  ·exact Jh h hl j (by omega) t ht
  rw[List.mem_singleton.1 ht];have h2:=(h _ (bj (l:=o) (i:=j) (by omega))).b.id;exact Z0 h hl (by unfold cL;omega)
theorem Xf{l:List Ce}(hl:l.length<=4000)(hb:∀c∈aM l,Pu c):∀t∈ib l,t.b.length<=1000000:=by
 have ho:=fl _ l (Nat.le_refl _);have h1:=qY (fun c hc=>(hb c hc).b) _ (Nat.le_refl _);have h2:=Jh hb (by omega) _ (Nat.le_refl _);unfold ib;generalize eY (aM l) (aM l).length=B at h1 h2 ⊢;have hd:=cK (n:=B.out.length) (by omega);intro t ht;rcases List.mem_append.1 ht with ht|ht
 ·have:=h2 t ht;omega
 rw[List.mem_singleton.1 ht,List.length_cons,abP];omega
def Bc(L:List Oj):Prop:=∀o∈L,o.t.length<=1000000
theorem RZ{L:List Oj}{t:List UInt8}(h:Bc L)(ht:t.length<=1000000):Bc (pQ L t):=by
 unfold pQ;split
 ·exact h
 intro o ho;rcases List.mem_append.1 ho with q|q
 ·exact h o (ac5 q)
 rcases List.mem_cons.1 q with q|q
 ·rw[q];exact ht
 exact h o (adk q)
theorem LQ{L:List Oj}{os:List Tx}(h:Bc L)(ht:∀t∈os,t.b.length<=1000000):∀i,i<=os.length->Bc (rA L os i)
 |0,_=>h
 |i+1,hi=>RZ (LQ h ht i (by omega)) (ht _ (bj (l:=os) (i:=i) (by omega)))
structure CxA(l:List Ce):Prop where
 len:l.length<=4000
 sd:∀c∈l,c.sd.length<=9
 id:∀c∈l,c.id<9223372036854775808
theorem Tp{L:List Oj}{l:List Ce}(h:Bc L)(hl:CxA l):Bc (sV L l)/\(sV L l).length<=L.length+4001:=by
 unfold sV;split
 ·rename_i h0;obtain⟨k1,k2⟩:=ry h0 hl.id;have h1:=(Ex k1 k2).1;have h2:=yQ (L:=L) (os:=ib l) (ib l).length;refine⟨LQ h (Xf k1 fun c hc=>⟨k2 c hc,?_⟩) _ (Nat.le_refl _),by omega⟩;obtain⟨c0,h3,rfl⟩:=jE _ l (Nat.le_refl _) c hc;show(fF c0.sd []).length<=9;rw[j4];exact hl.sd c0 h3
 exact⟨h,by omega⟩
theorem TA{L:List Oj}(h:Bc L){x:HB}{t:List UInt8}:bM x L=some t->t.length<=1000000:=by
 induction L with
 |nil=>intro e;cases e
 |cons o L ih=>
  intro e;unfold bM at e;split at e
  ·cases e;exact h o ab4
  exact ih (fun o ho=>h o (aca _ ho)) e
theorem KY{es:aV}{L:List Oj}(h:eN es (iF L)):(aD · es)=(bM · L):=funext fun x=>by rw[h.get,qR]
abbrev zF(ls:List (List Int))(i:Nat)(r:List (Nat×Option Value)):List (Nat×Option Value):=(5,some (.pointer (some ⟨0,0,none⟩)))::(7,some (.bool true))::(8,some (.pointer (some ⟨1,0,none⟩)))::(9,some (.pointer (some ⟨2,0,none⟩)))::(29,some (sl ls))::(30,some (.int .i64 ((3:Nat):Int)))::(31,some (.int .i64 (i:Nat)))::r
abbrev zW(s0 s1:Nat)(es:aV)(L:List Oj)(r:List (Nat×Option ah)):List (Nat×Option ah):=(0,some (.cells [.int .u8 (s0:Nat),.int .u8 (s1:Nat)] 36 (0,0)))::(1,some (aE es 4))::(2,some (cd L))::(4,some (bN es))::r
theorem WZ{g:HB->Option (List UInt8)}{h:HB}(hb:∀x t,g x=some t->t.length<=1000000):(vH g h).1.length<=1000000/\∀c∈(vH g h).1,c.sd.length<=1000000:=by
 obtain⟨k1,k2⟩:=Hp (h:=h) hb;rw[Lu];split
 ·split
  ·refine⟨by show(aM (ma g h).1).length<=_;rw[fl _ _ (Nat.le_refl _)];exact k1,fun c hc=>?_⟩;obtain⟨c0,h3,rfl⟩:=jE _ _ (Nat.le_refl _) c hc;show(fF c0.sd []).length<=_;rw[j4];exact(k2 c0 h3).sd
  exact⟨abW _,fun c hc=>(by cases hc)⟩
 exact⟨abW _,fun c hc=>(by cases hc)⟩
set_option maxHeartbeats 4000000 in
theorem WK(hS:lD Tryz.prog 89 51)(a b:List Int)(s0 s1:Nat)(h0:s0<256)(h1:s1<256):bg Tryz.prog 4 [sl a,sl b,.agg #[.int .u8 (s0:Nat),.int .u8 (s1:Nat)]] (wd [] 0 [] 0) fun e W'=>e=.ret (.bool true):=by
 have hgS:∀W,mo X4 [] W=some (.ret (.bool true),W):=fun W=>rfl
 refine low Tryz.func4 Tryz.results4 (h:=?_);show ar _ _ 0 _ _ _;refine rs ?_;refine eO hgS (bh ZU) ?_;refine eO (And.intro (fun W=>Mo (o:=aE [] 0) (W:=W)) (fun W=>Mo (o:=cd []) (W:=W))) (oZ U5 XD) ?_;refine rS ?_;have hb0:[a,b,a].length=3:=rfl;refine cv [(5,some (.pointer (some ⟨0,0,none⟩))),(7,some (.bool true)),(8,some (.pointer (some ⟨1,0,none⟩))),(9,some (.pointer (some ⟨2,0,none⟩))),(29,some (gs 3 3 [a,b,a])),(30,some (.int .i64 ((3:Nat):Int))),(31,some (.int .i64 ((0:Nat):Int)))] [(0,some (.cells [.int .u8 (s0:Nat),.int .u8 (s1:Nat)] 36 (0,0))),(1,some (aE [] 4)),(2,some (cd [])),(3,some (ro 35 [a,b,a])),(4,some (bN []))] 5 ?_;refine cv (zF [a,b,a] 0 []) (zW s0 s1 [] [] []) 5 ?_ (hl:=fz 3);generalize[a,b,a]=ls at hb0;refine fr (fun x:Nat×aV×List Oj=>⟨ao (zF ls x.1 []),wd (zW s0 s1 x.2.1 x.2.2 []) 5 [] 0,[]⟩) (fun x=>x.1<=3/\eN x.2.1 (iF x.2.2)/\Bc x.2.2/\x.2.2.length<=4001*x.1) (fun x=>3-x.1) (0,[],[]) ⟨abW _,eN.nil,fun o ho=>(by cases ho),Nat.le_refl _⟩ (fun x hv hc=>?_) (fun x hv hc=>?_)
 ·obtain⟨i,es,L⟩:=x;obtain⟨v1,v2,v3,v4⟩:=hv;simp only at hc v1 v2 v3 v4;have hi:i<3:=by omega
  obtain⟨u,hu⟩:∃u,u=ls.getD i default:=⟨_,rfl⟩;refine bs (ai (Al hu ?_));rw[<-hu];refine cv (zF ls i [(10,some (.int .i64 (i:Nat))),(11,some (sl u))]) (zW s0 s1 es L []) 5 ?_;have hsx:=Vh u;have hsk:(EO u).length<=4000/\∀c∈EO u,c.sd.length<=9:=SL;generalize EO u=cs at hsx hsk;refine G2 (fun q:Int=>⟨ao (zF ls i [(10,some (.int .i64 (i:Nat))),(12,some (.pointer (some ⟨5,0,none⟩)))]),wd (zW s0 s1 es L [(5,some (.cells [sl (ot q cs)] 40 (0,0)))]) 6 [] 0,[]⟩) (fun _=>True) ?_ (fun q _=>?_)
  ·have hap:=fun q=>Oo cs q (by omega) (fun c hc=>by have:=hsk.2 c hc;omega)
   match i,hi with
   |0,_=>
    refine IL True.intro (oZ (fj hsx) (fj (hap ((1+s0%40:Nat):Int)))) ?_;exact⟨rfl,((1+s0%40:Nat):Int),trivial,bL⟩
   |1,_=>
    refine IL True.intro (oZ (fj hsx) (fj (hap ((1+s1%40:Nat):Int)))) ?_;exact⟨rfl,((1+s1%40:Nat):Int),trivial,bL⟩
   |2,_=>
    have h22:(2:Nat)%2=0:=rfl;refine IL h22 (oZ (fj hsx) (fj (hap ((1+s0%40:Nat):Int)))) ?_;exact⟨rfl,((1+s0%40:Nat):Int),trivial,bL⟩
  have hA:CxA (ot q cs):=by obtain⟨k1,k2⟩:=TU (b:=q) (l:=cs) hsk.2;exact⟨by omega,fun c hc=>(k2 c hc).1,fun c hc=>(k2 c hc).2⟩
  clear hsx hsk;generalize ot q cs=cs at hA;have hsd:∀c∈cs,c.sd.length<=1000000:=fun c hc=>by have:=hA.sd c hc;omega
  have hll:=hA.len;have hcx:=Yh es cs (by omega) hsd hA.id;have hrx:=UD L cs (by omega) (by omega) hsd hA.id;obtain⟨hsm,hkk⟩:=RY (l:=cs) v2 hA.id;obtain⟨htx,hln⟩:=Tp v3 hA;rw[<-hkk]at hrx;have hL0:L.length<=12003:=by omega
  generalize Ac es cs=es1 at hcx hsm;generalize sV L cs=L1 at hrx hsm htx hln;generalize zX cs=hh at hcx hrx;generalize(ei cs).2=ev at hcx hrx;have hg1:=Q1 (w:=1) (b:=4) (xs:=[gw cs]) (es:=es) (es':=es1) (v:=.tuple #[bu hh,.int .i64 ev]) (N:=6) (nl:=0) (lg:=[]) (L:=zW s0 s1 es L [(5,some (.cells [sl cs] 40 (0,0)))]) (by repeat (first|exact ab|refine Eq.trans (aa (by decide)) ?_)) (by repeat (first|exact ab|refine Eq.trans (aa (by decide)) ?_)) (by decide) (by decide) (by decide) (by decide);show ar _ _ _ _ ⟨ao (zF ls i [(10,some (.int .i64 (i:Nat))),(12,some (.pointer (some ⟨5,0,none⟩)))]),wd (zW s0 s1 es L [(5,some (.cells [sl cs] 40 (0,0)))]) 6 [] 0,[]⟩ _;refine eO hg1 (bh (De (w:=1) (b:=4) hcx)) ?_;clear hg1 hcx;refine cv [(5,some (.pointer (some ⟨0,0,none⟩))),(7,some (.bool true)),(8,some (.pointer (some ⟨1,0,none⟩))),(9,some (.pointer (some ⟨2,0,none⟩))),(29,some (sl ls)),(30,some (.int .i64 ((3:Nat):Int))),(31,some (.int .i64 (i:Nat))),(12,some (.pointer (some ⟨5,0,none⟩))),(13,some (.pointer (some ⟨7,0,none⟩))),(14,some (.int .i64 ev))] [(0,some (.cells [.int .u8 (s0:Nat),.int .u8 (s1:Nat)] 36 (0,0))),(1,some (aE es1 8)),(2,some (cd L)),(5,some (.cells [sl cs] 40 (0,0))),(7,some (hH hh)),(8,some (bN es1))] 9 ?_ (hl:=by
   cases es1 with
   |nil=>exact bL
   |cons a r=>exact fb [(0,0),(1,1),(2,2),(5,5),(6,8),(7,7)])
  refine rc (lL hrx) ?_;clear hrx;refine cv [(5,some (.pointer (some ⟨0,0,none⟩))),(7,some (.bool true)),(8,some (.pointer (some ⟨1,0,none⟩))),(9,some (.pointer (some ⟨2,0,none⟩))),(29,some (sl ls)),(30,some (.int .i64 ((3:Nat):Int))),(31,some (.int .i64 (i:Nat))),(12,some (.pointer (some ⟨5,0,none⟩))),(13,some (.pointer (some ⟨7,0,none⟩))),(14,some (.int .i64 ev)),(15,some (.pointer (some ⟨9,0,none⟩))),(16,some (.int .i64 ev))] [(0,some (.cells [.int .u8 (s0:Nat),.int .u8 (s1:Nat)] 36 (0,0))),(1,some (aE es1 8)),(2,some (cd L1)),(5,some (.cells [sl cs] 40 (0,0))),(7,some (hH hh)),(8,some (bN es1)),(9,some (hH hh))] 10 ?_;have hd:∀h:HB,decide (h=h)=true:=fun h=>decide_eq_true rfl
  refine ai ?_;refine rf hd ?_;refine cf ?_;refine sk ?_;have hbO:∀x t,bM x L1=some t->t.length<=1000000:=fun x t e=>TA htx e
  have hbS:∀x t,aD x es1=some t->t.length<=1000000:=fun x t e=>hbO x t (by rw[qR,<-hsm.get];exact e)
  have hL1:L1.length<=1000000:=by omega
  have hsc:=Fm es1 hh hbS;have hrc:=Fa L1 hh hL1 hbO;have hsb:=IW es1 hh (hbS hh);have hrb:=IB L1 hh hL1 (fun t e=>by have:=hbO hh t e;omega);obtain⟨hx1,hx2⟩:=WZ (g:=(aD · es1)) (h:=hh) hbS;have hbl:=lC (hbS hh);rw[<-KY hsm]at hrc;rw[show bM hh L1=aD hh es1 by rw[qR,<-hsm.get]]at hrb;generalize vH (aD · es1) hh=X at hsc hrc hx1 hx2;obtain⟨cx,e3⟩:=X;generalize cz (aD hh es1)=Y at hsb hrb hbl;obtain⟨tr,e4⟩:=Y;simp only at hsc hrc hx1 hx2 hsb hrb hbl;have hm4:(tr.map (·.2)).length<=1000000:=by rw[ab1];omega
  generalize tr.map (·.2)=bl at hsb hrb hm4;have hgc:=mg (w:=1) (b:=8) (n:=10) (nl:=0) (lg:=[]) (xs:=[bu hh]) (es:=es1) (e:=.ret (.tuple #[gw cx,.int .i64 e3])) (K:=[(0,some (.cells [.int .u8 (s0:Nat),.int .u8 (s1:Nat)] 36 (0,0))),(1,some (aE es1 8)),(2,some (cd L1)),(7,some (hH hh)),(8,some (bN es1))]) (by repeat (first|exact ab|refine Eq.trans (aa (by decide)) ?_)) (by repeat (first|exact ab|refine Eq.trans (aa (by decide)) ?_)) (by decide) (by decide) (by decide) (by decide);refine cv [(5,some (.pointer (some ⟨0,0,none⟩))),(7,some (.bool true)),(8,some (.pointer (some ⟨1,0,none⟩))),(9,some (.pointer (some ⟨2,0,none⟩))),(29,some (sl ls)),(30,some (.int .i64 ((3:Nat):Int))),(31,some (.int .i64 (i:Nat))),(13,some (.pointer (some ⟨7,0,none⟩)))] [(0,some (.cells [.int .u8 (s0:Nat),.int .u8 (s1:Nat)] 36 (0,0))),(1,some (aE es1 8)),(2,some (cd L1)),(7,some (hH hh)),(8,some (bN es1))] 10 ?_;refine eO hgc (bh (jH (w:=1) (b:=8) hsc)) ?_;clear hgc;refine cv [(5,some (.pointer (some ⟨0,0,none⟩))),(7,some (.bool true)),(8,some (.pointer (some ⟨1,0,none⟩))),(9,some (.pointer (some ⟨2,0,none⟩))),(29,some (sl ls)),(30,some (.int .i64 ((3:Nat):Int))),(31,some (.int .i64 (i:Nat))),(13,some (.pointer (some ⟨7,0,none⟩))),(17,some (.pointer (some ⟨10,0,none⟩))),(14,some (.int .i64 e3))] [(0,some (.cells [.int .u8 (s0:Nat),.int .u8 (s1:Nat)] 36 (0,0))),(1,some (aE es1 8)),(2,some (cd L1)),(7,some (hH hh)),(8,some (bN es1)),(10,some (.cells [sl cx] 40 (0,0)))] 11 ?_;refine rc (lL hrc) ?_;refine cv [(5,some (.pointer (some ⟨0,0,none⟩))),(7,some (.bool true)),(8,some (.pointer (some ⟨1,0,none⟩))),(9,some (.pointer (some ⟨2,0,none⟩))),(29,some (sl ls)),(30,some (.int .i64 ((3:Nat):Int))),(31,some (.int .i64 (i:Nat))),(13,some (.pointer (some ⟨7,0,none⟩))),(17,some (.pointer (some ⟨10,0,none⟩))),(14,some (.int .i64 e3)),(18,some (.pointer (some ⟨11,0,none⟩))),(16,some (.int .i64 e3))] [(0,some (.cells [.int .u8 (s0:Nat),.int .u8 (s1:Nat)] 36 (0,0))),(1,some (aE es1 8)),(2,some (cd L1)),(7,some (hH hh)),(8,some (bN es1)),(10,some (.cells [sl cx] 40 (0,0))),(11,some (.cells [sl cx] 40 (0,0)))] 12 ?_;have hgb:=mg (w:=1) (b:=8) (n:=12) (nl:=0) (lg:=[]) (xs:=[bu hh]) (es:=es1) (e:=.ret (.tuple #[sl bl,.int .i64 (e4:Nat)])) (K:=[(0,some (.cells [.int .u8 (s0:Nat),.int .u8 (s1:Nat)] 36 (0,0))),(1,some (aE es1 8)),(2,some (cd L1)),(7,some (hH hh)),(8,some (bN es1)),(10,some (.cells [sl cx] 40 (0,0))),(11,some (.cells [sl cx] 40 (0,0)))]) (by repeat (first|exact ab|refine Eq.trans (aa (by decide)) ?_)) (by repeat (first|exact ab|refine Eq.trans (aa (by decide)) ?_)) (by decide) (by decide) (by decide) (by decide);refine eO hgb (bh (jH (w:=1) (b:=8) hsb)) ?_;clear hgb;refine rc (lL hrb) ?_;refine rc (oZ (fj (YB cx hx1 hx2)) (fj (PO bl hm4))) ?_;refine cf ?_;refine ap ?_;refine rl ?_;refine nx (i+1,es1,L1) ⟨by show i+1<=3;omega,hsm,htx,by show L1.length<=4001*(i+1);omega⟩ (by show 3-(i+1)<3-i;omega) ?_;exact fb [(0,0),(1,1),(2,2),(8,4)]
 obtain⟨i,es,L⟩:=x;obtain⟨v1,v2,v3,v4⟩:=hv;simp only at hc v1 v2 v3 v4;have hlen:es.length<=1000000:=by rw[<-CY v2];omega
 have hm:=UM (a:=1) (b:=4) (c:=2) (n:=5) (nl:=0) (es:=es) (L:=L) (lg:=[]) (K:=zW s0 s1 es L []) (by repeat (first|exact ab|refine Eq.trans (aa (by decide)) ?_)) (by repeat (first|exact ab|refine Eq.trans (aa (by decide)) ?_)) (by repeat (first|exact ab|refine Eq.trans (aa (by decide)) ?_)) (by decide) (by decide) (by decide) (by decide);show ar _ _ _ _ _ _;refine eO hm (bh (Uv (a:=1) (b:=4) (c:=2) hS (by decide) (by decide) (by decide) hlen v2)) ?_;refine rt ?_;rfl
end Go.Proofs.YthlkgmdkabelpaaGreat.X
