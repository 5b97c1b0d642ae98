/-
  Packed by program (tools/pack.py) out of the texts L9 L10 L11 L12 L13. No condition.
-/
import Derived.Test.YthlkgmdkabelpaaGreatZ3
import Derived.Test.YthlkgmdkabelpaaGreatZ2
set_option linter.all false
namespace Go.Proofs.YthlkgmdkabelpaaGreat.X
open Go Go.RowKit
theorem BA{n:Nat}{l:List Value}:eJ (.int .u8 ((n:Nat):Int)::l)=pJ n (eJ l):=rfl
theorem ID{l:List UInt8}:C7 (some l)=some (.val (some (.string (str l)))):=rfl
attribute [go_sem high] BA ID
attribute [go_sem] OA
def bZ(n:Nat):List UInt8:=if h:128<=n then UInt8.ofNat (n%128+128)::bZ (n/128)else[UInt8.ofNat n]
termination_by n
decreasing_by omega
theorem vf{n:Nat}(h:128<=n):bZ n=UInt8.ofNat (n%128+128)::bZ (n/128):=by rw[bZ,dif_pos h]
theorem iJ{n:Nat}(h:n<128):bZ n=[UInt8.ofNat n]:=by rw[bZ,dif_neg (by omega)]
theorem Hj:∀(k n:Nat),n<128^(k+1)->(bZ n).length<=k+1
 |0,n,h=>by rw[iJ (by omega)];exact Nat.le_refl _
 |k+1,n,h=>by
  by_cases hn:128<=n
  ·rw[vf hn,List.length_cons];have:=Hj k (n/128) (by rw[Nat.pow_succ]at h;exact Nat.div_lt_of_lt_mul (by omega));omega
  rw[iJ (by omega)];show 1<=_;omega
theorem cK{n:Nat}(h:n<9223372036854775808):(bZ n).length<=10:=Hj 9 n (by
 have:(128:Nat)^(9+1)=1180591620717411303424:=rfl;omega)
theorem ME(n:Nat)(hn:n<9223372036854775808):Fn Tryz.prog 79 [.int .i64 (n:Nat)] (.ret (.string (str (bZ n)))):=by
 refine fY Tryz.func79 Tryz.results79 (h:=?_);refine rs ?_;refine rs ?_;refine ai ?_;refine fo (fun x:Nat×List UInt8=>⟨ao [(0,some (.int .i64 (x.1:Nat))),(3,some (.string (str x.2)))],wd [] 0 [] 0,[]⟩) (fun x=>x.2++bZ x.1=bZ n/\x.1<9223372036854775808) (fun x=>x.1) (n,[]) ⟨rfl,hn⟩ (fun x hv h=>?_) (fun x hv h=>?_)
 ·obtain⟨i,a⟩:=x;obtain⟨h1,h2⟩:=hv;simp only at h h1 h2;have h3:=cK hn;rw[<-h1,abP]at h3;rw[vf (by omega)]at h1;refine aK ?_;rw[vf (by omega),List.length_cons]at h3;refine rs ?_;refine rl ?_;exact nx (i/128,a++[UInt8.ofNat (i%128+128)]) ⟨by rw[acg];exact h1,by dsimp only;omega⟩ (h:=rn [])
 obtain⟨i,a⟩:=x;obtain⟨h1,h2⟩:=hv;simp only at h h1 h2;have h3:=cK hn;rw[<-h1,abP]at h3;rw[iJ (by omega)]at h1 h3;rw[ab5]at h3;refine rs ?_;refine rt ?_;rw[<-h1]
def sDg(a:List Value)(e:aW):Prop:=∃n:Nat,n<9223372036854775808/\a=[.int .i64 (n:Nat)]/\e=.ret (.string (str (bZ n)))
theorem xr:bS Tryz.prog 79 (tY sDg):=Cx (enters_of (by kernel_rfl)) fun a e ⟨n,h1,h2,h3⟩=>by subst h2 h3;exact ME n h1
@[go_sem] theorem dg_go {n:Nat} {W:XW} (h:n<9223372036854775808):tY sDg [.int .i64 (n:Nat)] W=some (.ret (.string (str (bZ n))),W):=EI ⟨n,h,rfl,rfl⟩ fun e' ⟨m,_,h2,h3⟩=>by
 injection h2 with h2 _;injection h2 with _ h2;rw[h3,Int.ofNat.inj h2]
structure rk(c:Ce):Prop where
 id:0<=c.id/\c.id<9223372036854775808
 dim:0<=c.dim/\c.dim<=8
 len:c.sd.length<=64
 sd:∀s∈c.sd,0<=s.1/\s.1<9223372036854775808
def lR(l:List Sd):Nat->List UInt8
 |0=>[]
 |i+1=>lR l i++bZ (l.getD i default).1.toNat++[if(l.getD i default).2=1 then 0 else 1]
def iX(k:Nat)(c:Ce):List UInt8:=bZ (c.id.toNat-16*k)++bZ c.dim.toNat++bZ c.sd.length++lR c.sd c.sd.length
def jS(l:List Ce)(k:Nat):Nat->Nat×List UInt8
 |0=>(0,[])
 |j+1=>if(l.getD j default).id.toNat/16=k then((jS l k j).1+1,(jS l k j).2++iX k (l.getD j default))else jS l k j
def kL(l:List Ce)(k:Nat):List UInt8:=1::(bZ k++bZ (jS l k l.length).1++(jS l k l.length).2)
theorem rv{l:List Sd}(h:∀s∈l,0<=s.1/\s.1<9223372036854775808):∀i,i<=l.length->(lR l i).length<=11*i
 |0,_=>Nat.le_refl _
 |i+1,hi=>by
  have:=rv h i (by omega);have h2:=h _ (bj (l:=l) (i:=i) (by omega));have:=cK (n:=(l.getD i default).1.toNat) (by omega);rw[lR,abP,abP,ab5];omega
theorem zR{k:Nat}{c:Ce}(h:rk c):(iX k c).length<=1000:=by
 have h1:=h.id;have h2:=h.dim;have h3:=h.len;have:=rv h.sd _ (Nat.le_refl _);have:=cK (n:=c.id.toNat-16*k) (by omega);have:=cK (n:=c.dim.toNat) (by omega);have:=cK (n:=c.sd.length) (by omega);rw[iX,abP,abP,abP];omega
theorem vn{l:List Ce}{k:Nat}(h:∀c∈l,rk c):∀j,j<=l.length->(jS l k j).2.length<=1000*j/\(jS l k j).1<=j
 |0,_=>⟨Nat.le_refl _,Nat.le_refl _⟩
 |j+1,hj=>by
  have:=vn (k:=k) h j (by omega);have h2:=zR (k:=k) (h _ (bj (l:=l) (i:=j) (by omega)));unfold jS;split
  ·rw[abP];simp only;omega
  omega
theorem N6(l:List Ce)(k:Nat)(hl:l.length<=1000000)(hk:k<576460752303423488)(hb:∀c∈l,rk c):Fn Tryz.prog 78 [gw l,.int .i64 (k:Nat)] (.ret (.string (str (kL l k)))):=by
 refine fY Tryz.func78 Tryz.results78 (h:=?_);refine rs ?_;refine rs ?_;refine rs ?_;refine rS ?_;refine fo (fun j:Nat=>⟨ao [(1,some (.int .i64 (k:Nat))),(2,some (.pointer (some ⟨0,0,none⟩))),(5,some (.string (str (jS l k j).2))),(6,some (.int .i64 ((jS l k j).1:Nat))),(7,some (.int .i64 (j:Nat)))],wd [(0,some (.cells [sl l] 40 (0,0)))] 1 [] 0,[]⟩) (fun j=>j<=l.length) (fun j=>l.length-j) 0 (abW _) (fun j hv h=>?_) (fun j hv h=>?_)
 ·have hbj:=hb _ (bj (l:=l) (i:=j) (by omega));have hlen:=vn (k:=k) hb j hv;have e1:jS l k (j+1)=if(l.getD j default).id.toNat/16=k then((jS l k j).1+1,(jS l k j).2++iX k (l.getD j default))else jS l k j:=rfl
  generalize hc:l.getD j default=c at hbj e1;generalize hB:jS l k j=B at hlen e1;refine bs (rs ?_);rw[hc];obtain⟨id,dim,sd⟩:=c;obtain⟨q1,q2,q3,q4⟩:=hbj;simp only at q1 q2 q3 q4;obtain⟨a,rfl⟩:∃a:Nat,id=a:=⟨id.toNat,by omega⟩;obtain⟨d,rfl⟩:∃d:Nat,dim=d:=⟨dim.toNat,by omega⟩;simp only[ab2]at e1;by_cases h1:a/16=k
  ·rw[if_pos h1]at e1;have g1:=cK (n:=a-16*k) (by omega);have g2:=cK (n:=d) (by omega);have g3:=cK (n:=sd.length) (by omega);refine rS ?_;refine cf ?_;refine sk (rs ?_);refine Hi (bh xr) ?_;refine rs ?_;generalize hT:B.2++bZ (a-16*k)++bZ d++bZ sd.length=T;have hT':T.length<=1000*j+30:=by rw[<-hT,abP,abP,abP];omega
   refine fo (fun i:Nat=>⟨ao [(1,some (.int .i64 (k:Nat))),(2,some (.pointer (some ⟨0,0,none⟩))),(5,some (.string (str (T++lR sd i)))),(6,some (.int .i64 ((B.1+1:Nat):Int))),(7,some (.int .i64 (j:Nat))),(8,some (.pointer (some ⟨1,0,none⟩))),(9,some (.int .i64 (i:Nat)))],wd [(0,some (.cells [sl l] 40 (0,0))),(1,some (.cells [.int .i64 (a:Nat),.int .i64 (d:Nat),sl sd] 58 (0,0)))] 2 [] 0,[]⟩) (fun i=>i<=sd.length) (fun i=>sd.length-i) 0 (abW _) (fun i hv2 h2=>?_) (fun i hv2 h2=>?_) (h0:=?_)
   ·have hsl:=rv q4 i hv2;have hsi:=q4 _ (bj (l:=sd) (i:=i) (by omega));have e2:lR sd (i+1)=lR sd i++bZ (sd.getD i default).1.toNat++[if(sd.getD i default).2=1 then 0 else 1]:=rfl;have g4:=cK (n:=(sd.getD i default).1.toNat) (by omega);generalize hs:sd.getD i default=s at hsi e2 g4;obtain⟨x,y⟩:=s;simp only at hsi e2 g4;obtain⟨x,rfl⟩:∃z:Nat,x=z:=⟨x.toNat,by omega⟩;simp only[ab2]at e2 g4;refine bs ?_;refine eO hs (bh xr) ?_;by_cases h3:y=1
    ·rw[if_pos h3]at e2;refine rf hs ?_;refine ct ?_;refine rl ?_;refine rl ?_;refine nx (i+1) (by omega) (by omega) ?_;simp only[e2,<-acg];exact bL
    rw[if_neg h3]at e2;refine rf hs ?_;refine cf ?_;refine rl ?_;refine rl ?_;refine nx (i+1) (by omega) (by omega) ?_;simp only[e2,<-acg];exact bL
   ·rw[show i=sd.length by omega];refine rl ?_;refine nx (j+1) (by omega) (by omega) ?_;rw[e1];have e3:iX k ⟨a,d,sd⟩=bZ (a-16*k)++bZ d++bZ sd.length++lR sd sd.length:=rfl;simp only[e3,<-acg,hT];exact rn [(0,0)]
   simp only[lR,List.append_nil];exact bL
  rw[if_neg h1]at e1;refine rS ?_;refine ct ?_;refine xe ?_;refine rl ?_;refine nx (j+1) (by omega) (by omega) ?_;rw[e1];exact rn [(0,0)]
 rw[show j=l.length by omega];have hlen:=vn (k:=k) hb _ (Nat.le_refl _);have:=cK (n:=k) (by omega);have:=cK (n:=(jS l k l.length).1) (by omega);refine rc (bh xr) ?_;refine rt ?_;rfl
attribute [go_sem high] KR Pa Pz
attribute [go_sem] LN
theorem Tq{P:Program}{e:TypeId}{l c:Nat}:Aj P (some (.slice e)) (some (.int .i64 (l:Int))) (some (.int .i64 (c:Int)))=zD e l c (P.info? e) (az P e):=rfl
attribute [go_sem] Tq zD.eq_1
theorem Tf{n:Nat}:rep [.int .i64 0] n=(List.replicate n (0:Int)).flatMap El.enc:=by
 induction n with
 |zero=>rfl
 |succ n ih=>rw[List.replicate_succ,ab7,rep,ih];rfl
@[go_sem high] theorem fold_rep {n:Nat}:gq (.cells (rep [.int .i64 0] n) 3 (0,0)) n n=some (.new (ro 3 (List.replicate n (0:Int))) fun k=>gs k n (List.replicate n (0:Int))):=by
 rw[Tf];unfold gs;rw[acD];rfl
@[go_sem] theorem st_int {W:XW} {e:TypeId} {b i s m:Nat} {l:List Int} {y:Int} (hg:W.get b=some (ro e l)) (h:i<l.length) (hs:s=1) (hm:m=1):Kt W b m i (.int .i64 y) s (some (ro e l))=some (.mod undef (W.put b (some (ro e (l.set i y))))):=Ej hg h rfl hs hm _
structure Zs where
 ids:List Int
 sums:List Int
 many:List Int
 firsts:List Int
 part:List Int
def dK(r:Int):List Int->Nat
 |[]=>0
 |y::l=>if y≠r then dK r l+1 else 0
theorem rp(r:Int):∀l,dK r l<=l.length
 |[]=>Nat.le_refl _
 |y::l=>by
  have:=rp r l;unfold dK;split
  ·rw[List.length_cons];omega
  exact abW _
def gT(old now:Int)(p:List Int):Nat->List Int
 |0=>p
 |m+1=>if(gT old now p m).getD m default=now then(gT old now p m).set m old else gT old now p m
theorem lF{old now:Int}{p:List Int}:∀m,(gT old now p m).length=p.length
 |0=>rfl
 |m+1=>by
  have:=lF (old:=old) (now:=now) (p:=p) m;unfold gT;split
  ·rw[abX];exact this
  exact this
def cP(i:Nat)(z:Zs)(r:Int):Zs:=if dK r z.ids=z.ids.length then⟨z.ids++[r],z.sums++[0],z.many++[0],z.firsts++[(i:Int)],z.part⟩else z
def il(i:Nat)(sx:Int)(z:Zs)(r:Sd):Zs:=
 ⟨(cP i z r.1).ids,(cP i z r.1).sums.set (dK r.1 z.ids) ((cP i z r.1).sums.getD (dK r.1 z.ids) default+sx*r.2),(cP i z r.1).many.set (dK r.1 z.ids) ((cP i z r.1).many.getD (dK r.1 z.ids) default+1),(cP i z r.1).firsts,
  gT ((cP i z r.1).part.getD ((cP i z r.1).firsts.getD (dK r.1 z.ids) default).toNat default) ((cP i z r.1).part.getD i default) (cP i z r.1).part (i+1)⟩
def mz(i:Nat)(sx:Int)(ys:List Sd)(z:Zs):Nat->Zs
 |0=>z
 |j+1=>il i sx (mz i sx ys z j) (ys.getD j default)
def gx(l:List Ce)(x:Ce)(i:Nat):List Sd:=(l.getD (nE l (x.sd.getD i default).1).toNat default).sd
def jP(z:Zs)(i:Nat):Zs:=⟨z.ids,z.sums,z.many,z.firsts,z.part.set i (i:Int)⟩
def eW(l:List Ce)(x:Ce):Nat->Zs
 |0=>⟨[],[],[],[],List.replicate x.sd.length 0⟩
 |i+1=>mz i (x.sd.getD i default).2 (gx l x i) (jP (eW l x i) i) (gx l x i).length
open Classical in
noncomputable def yT(z:Zs):Int:=if ∃k,k<z.sums.length/\z.sums.getD k default≠0 then 24 else if ∃k,k<z.many.length/\z.many.getD k default≠2 then 25 else if ∃k,k<z.part.length/\z.part.getD k default≠z.part.getD 0 default then 25 else 0
noncomputable def lQ(l:List Ce)(x:Ce):Int:=yT (eW l x x.sd.length)
structure ZI(n i c:Nat)(z:Zs):Prop where
 l1:z.sums.length=z.ids.length
 l2:z.many.length=z.ids.length
 l3:z.firsts.length=z.ids.length
 l4:z.part.length=n
 few:z.ids.length<=c
 sum:∀k,k<z.ids.length->-(c:Int)<=z.sums.getD k default/\z.sums.getD k default<=c
 man:∀k,k<z.ids.length->0<=z.many.getD k default/\z.many.getD k default<=c
 fst:∀k,k<z.ids.length->0<=z.firsts.getD k default/\z.firsts.getD k default<i
theorem ia{l:List Int}{a:Int}{k:Nat}:(l++[a]).getD k default=if k<l.length then l.getD k default else if k=l.length then a else default:=by
 rw[abV,List.getElem?_append];split
 ·rw[abV]
 split
 ·rename_i h;subst h;simp
 rw[ab9 (by rw[ab5];omega)];rfl
theorem jN{l:List Int}{a:Int}{m k:Nat}(h:m<l.length):(l.set m a).getD k default=if k=m then a else l.getD k default:=by
 rw[abV,List.getElem?_set];split
 ·rename_i e;subst e;simp[h]
 rw[if_neg (fun q=>by subst q;contradiction),abV]
theorem CK{i:Nat}{z:Zs}{r:Int}:dK r z.ids<(cP i z r).ids.length:=by
 have hk:=rp r z.ids;unfold cP;split
 ·rename_i e;simp[e]
 omega
theorem ZI.key{n i c:Nat}{z:Zs}{r:Int}(h:ZI n (i+1) c z)(hi:i<n):(cP i z r).sums.length=(cP i z r).ids.length/\(cP i z r).many.length=(cP i z r).ids.length/\(cP i z r).firsts.length=(cP i z r).ids.length/\(cP i z r).part.length=n/\(cP i z r).ids.length<=c+1/\∀k,k<(cP i z r).ids.length->(-(c:Int)<=(cP i z r).sums.getD k default/\(cP i z r).sums.getD k default<=c)/\(0<=(cP i z r).many.getD k default/\(cP i z r).many.getD k default<=c)/\(0<=(cP i z r).firsts.getD k default/\(cP i z r).firsts.getD k default<((i+1:Nat):Int)):=by
 obtain⟨l1,l2,l3,l4,few,sum,man,fst⟩:=h;unfold cP;split
 ·refine⟨by simp[l1],by simp[l2],by simp[l3],l4,by simp;omega,fun k hk=>?_⟩;simp only[abP,ab5]at hk;rw[ia,ia,ia,l1,l2,l3];by_cases e:k<z.ids.length
  ·rw[if_pos e,if_pos e,if_pos e];exact⟨sum k e,man k e,fst k e⟩
  rw[if_neg e,if_neg e,if_neg e,if_pos (by omega),if_pos (by omega)];omega
 exact⟨l1,l2,l3,l4,by omega,fun k hk=>⟨sum k hk,man k hk,fst k hk⟩⟩
theorem ZI.step{n i c:Nat}{z:Zs}{r:Sd}{sx:Int}(h:ZI n (i+1) c z)(hi:i<n)(hs:sx*r.2=1\/sx*r.2=-1):ZI n (i+1) (c+1) (il i sx z r):=by
 have hk':=CK (i:=i) (z:=z) (r:=r.1);have hk:=rp r.1 z.ids;obtain⟨k1,k2,k3,k4,k5,k6⟩:=h.key (r:=r.1) hi;generalize hq:sx*r.2=q at hs;unfold il;rw[hq];refine⟨by simp only[abX];exact k1,by simp only[abX];exact k2,k3,by rw[lF];exact k4,k5,fun k hk=>?_,fun k hk=>?_,fun k hk=>(k6 k hk).2.2⟩
 ·simp only;rw[jN (by omega)];have a1:=(k6 _ hk').1;have a2:=(k6 _ hk).1;split<;>omega
 simp only;rw[jN (by omega)];have a1:=(k6 _ hk').2.1;have a2:=(k6 _ hk).2.1;split<;>omega
structure Ws(l:List Ce)(x:Ce):Prop where
 few:x.sd.length<=64
 at_:∀i,i<x.sd.length->∃m:Nat,m<l.length/\nE l (x.sd.getD i default).1=m
 ys:∀i,i<x.sd.length->(gx l x i).length<=64
 sg:∀i,i<x.sd.length->∀j,j<(gx l x i).length->(x.sd.getD i default).2*((gx l x i).getD j default).2=1\/(x.sd.getD i default).2*((gx l x i).getD j default).2=-1
abbrev tk(x:Ce):ah:=.cells [.int .i64 x.id,.int .i64 x.dim,sl x.sd] 58 (0,0)
abbrev vZ(l:List Ce)(x:Ce)(z:Zs)(i:Nat)(r:List (Nat×Option Value)):List (Nat×Option Value):=(0,some (sl l))::(3,some (.pointer (some ⟨0,0,none⟩)))::(5,some (gs 3 aq z.ids))::(6,some (gs 4 aq z.sums))::(7,some (gs 5 aq z.many))::(8,some (gs 1 x.sd.length z.part))::(9,some (gs 2 aq z.firsts))::(10,some (.int .i64 (i:Nat)))::r
abbrev vw(x:Ce)(z:Zs)(r:List (Nat×Option ah)):List (Nat×Option ah):=(0,some (tk x))::(1,some (ro 3 z.part))::(2,some (ro 3 z.firsts))::(3,some (ro 3 z.ids))::(4,some (ro 3 z.sums))::(5,some (ro 3 z.many))::r
attribute [go_sem] vZ vw tk
set_option maxHeartbeats 4000000 in
theorem Kk(l:List Ce)(x:Ce)(hl:l.length<=1000000)(hb:Ws l x):Fn Tryz.prog 77 [sl l,jA x] (.ret (.int .i64 (lQ l x))):=by
 have hfew:=hb.few;refine fY Tryz.func77 Tryz.results77 (h:=?_);refine rs ?_;refine rs ?_;refine rs ?_;refine rs ?_;refine rs ?_;refine rs ?_;refine op0 (α:=Int) 9 2 ?_;refine rS ?_;refine fo (fun i:Nat=>⟨ao (vZ l x (eW l x i) i []),wd (vw x (eW l x i) []) 6 [] 0,[]⟩)
  (fun i=>i<=x.sd.length/\ZI x.sd.length i (64*i) (eW l x i)) (fun i=>x.sd.length-i) 0 ⟨abW _,⟨rfl,rfl,rfl,acD,Nat.le_refl _,fun k h=>absurd h (acm k),fun k h=>absurd h (acm k),fun k h=>absurd h (acm k)⟩⟩ (fun i hv h=>?_) (fun i hv h=>?_)
 ·obtain⟨hi,hz⟩:=hv;have hlt:i<x.sd.length:=by omega
  obtain⟨m,hm,hat⟩:=hb.at_ i hlt;have hys:=hb.ys i hlt;have hsg:=hb.sg i hlt;have ha:Fn Tryz.prog 111 [sl l,.int .i64 (x.sd.getD i default).1] (.ret (.int .i64 (m:Nat))):=by rw[<-hat];exact Pt l _ hl
  have e0:eW l x (i+1)=mz i (x.sd.getD i default).2 (gx l x i) (jP (eW l x i) i) (gx l x i).length:=rfl;have hyd:gx l x i=(l.getD m default).sd:=by unfold gx;rw[hat,ab2]
  have l4:=hz.l4;have hz1:ZI x.sd.length (i+1) (64*i) (jP (eW l x i) i):=⟨hz.l1,hz.l2,hz.l3,by show(List.set _ _ _).length=_;rw[abX];exact hz.l4,hz.few,hz.sum,hz.man,fun k hk=>by have:=hz.fst k hk;show 0<=(eW l x i).firsts.getD k default/\(eW l x i).firsts.getD k default<_;omega⟩;refine bs (rs ?_);have e1:(jP (eW l x i) i).part=(eW l x i).part.set i (i:Int):=rfl;refine rc (b1 ha) ?_;generalize hy:l.getD m default=y at hyd ⊢;rw[hyd]at e0 hys hsg;refine rs ?_;refine fo (fun j:Nat=>⟨ao (vZ l x (mz i (x.sd.getD i default).2 y.sd (jP (eW l x i) i) j) i [(11,some (.pointer (some ⟨6,0,none⟩))),(12,some (.int .i64 (j:Nat)))]),wd (vw x (mz i (x.sd.getD i default).2 y.sd (jP (eW l x i) i) j) [(6,some (tk y))]) 7 [] 0,[]⟩)
   (fun j=>j<=y.sd.length/\ZI x.sd.length (i+1) (64*i+j) (mz i (x.sd.getD i default).2 y.sd (jP (eW l x i) i) j)) (fun j=>y.sd.length-j) 0 ⟨abW _,hz1⟩ (fun j hv h=>?_) (fun j hv h=>?_) (h0:=by simp only[mz,jP];exact bL)
  ·obtain⟨hj,hz2⟩:=hv;have hjl:j<y.sd.length:=by omega
   have hsj:=hsg j hjl;have e2:mz i (x.sd.getD i default).2 y.sd (jP (eW l x i) i) (j+1)=il i (x.sd.getD i default).2 (mz i (x.sd.getD i default).2 y.sd (jP (eW l x i) i) j) (y.sd.getD j default):=rfl;generalize mz i (x.sd.getD i default).2 y.sd (jP (eW l x i) i) j=z at hz2 e2 ⊢;have hz3:=hz2.step hlt hsj;rw[<-e2]at hz3;generalize hr:y.sd.getD j default=r at hsj e2;have hkl:=rp r.1 z.ids;have hkn:=CK (i:=i) (z:=z) (r:=r.1);have q1:=hz2.l1;have q2:=hz2.l2;have q3:=hz2.l3;have q4:=hz2.l4;have q5:=hz2.few;refine bs (rs ?_);refine lA ⟨ao (vZ l x z i [(11,some (.pointer (some ⟨6,0,none⟩))),(12,some (.int .i64 (j:Nat))),(13,some (.int .i64 (dK r.1 z.ids:Nat)))]),wd (vw x z [(6,some (tk y))]) 7 [] 0,[]⟩ (aK ?_) ?_
   ·refine lp (fun k:Nat=>⟨ao (vZ l x z i [(11,some (.pointer (some ⟨6,0,none⟩))),(12,some (.int .i64 (j:Nat))),(13,some (.int .i64 (k:Nat)))]),wd (vw x z [(6,some (tk y))]) 7 [] 0,[]⟩) (fun k=>k<=z.ids.length/\k+dK r.1 (z.ids.drop k)=dK r.1 z.ids) (fun k=>z.ids.length-k) 0 ⟨by omega,by simp⟩ (fun k hv=>?_);obtain⟨h4,h5⟩:=hv;by_cases h6:k<z.ids.length
    ·rw[ge h6,dK]at h5;refine LO hr ?_;refine cp (fun h7=>?_) (fun h7=>?_)
     ·rw[if_pos h7]at h5;refine ap (aK ?_);refine rl ?_;exact nx (k+1) ⟨by omega,by omega⟩
     rw[if_neg h7]at h5;refine xe ?_;exact bL
    rw[aco (by omega),dK]at h5;refine rD ?_;refine cf ?_;refine xe ?_;exact bL
   refine lA ⟨ao (vZ l x (cP i z r.1) i [(11,some (.pointer (some ⟨6,0,none⟩))),(12,some (.int .i64 (j:Nat))),(13,some (.int .i64 (dK r.1 z.ids:Nat)))]),wd (vw x (cP i z r.1) [(6,some (tk y))]) 15 [] 0,[]⟩ ?_ ?_
   ·by_cases h4:dK r.1 z.ids=z.ids.length
    ·have e3:cP i z r.1=⟨z.ids++[r.1],z.sums++[0],z.many++[0],z.firsts++[(i:Int)],z.part⟩:=if_pos h4;rw[e3];refine rs ?_;refine ct ?_;refine rf hr ?_;refine rs ?_;refine rs ?_;refine rl ?_;exact rn [(0,0),(1,1),(14,2),(8,3),(10,4),(12,5),(6,6)]
    have e3:cP i z r.1=z:=if_neg h4;rw[e3];refine rs ?_;refine cf ?_;exact ap bL
   obtain⟨k1,k2,k3,k4,k5,k6⟩:=hz2.key (r:=r.1) hlt;unfold il at e2;generalize cP i z r.1=z1 at k1 k2 k3 k4 k5 k6 e2 hkn ⊢;generalize dK r.1 z.ids=k at e2 hkn ⊢;obtain⟨⟨w1,w2⟩,⟨w3,w4⟩,w5,w6⟩:=k6 k hkn;generalize hq:(x.sd.getD i default).2*r.2=q at hsj e2;obtain⟨f,hf⟩:∃f:Nat,z1.firsts.getD k default=f:=⟨(z1.firsts.getD k default).toNat,by omega⟩
   rw[hf,ab2]at e2;refine tu (And.intro hr hq) ?_;refine rs ?_;refine rf hf ?_;refine rs ?_;refine rs ?_;refine fo (fun m:Nat=>⟨ao (vZ l x ⟨z1.ids,z1.sums.set k (z1.sums.getD k default+q),z1.many.set k (z1.many.getD k default+1),z1.firsts,gT (z1.part.getD f default) (z1.part.getD i default) z1.part m⟩ i [(11,some (.pointer (some ⟨6,0,none⟩))),(12,some (.int .i64 (j:Nat))),(14,some (.int .i64 (z1.part.getD f default))),(15,some (.int .i64 (z1.part.getD i default))),(16,some (.int .i64 (m:Nat)))]),
    wd (vw x ⟨z1.ids,z1.sums.set k (z1.sums.getD k default+q),z1.many.set k (z1.many.getD k default+1),z1.firsts,gT (z1.part.getD f default) (z1.part.getD i default) z1.part m⟩ [(6,some (tk y))]) 15 [] 0,[]⟩) (fun m=>m<=i+1) (fun m=>i+1-m) 0 (abW _) (fun m hv h=>?_) (fun m hv h=>?_)
   ·have hrl:=lF (old:=z1.part.getD f default) (now:=z1.part.getD i default) (p:=z1.part) m;by_cases h3:(gT (z1.part.getD f default) (z1.part.getD i default) z1.part m).getD m default=z1.part.getD i default
    ·have e4:gT (z1.part.getD f default) (z1.part.getD i default) z1.part (m+1)=(gT (z1.part.getD f default) (z1.part.getD i default) z1.part m).set m (z1.part.getD f default):=if_pos h3;refine bs (rs ?_);refine ct ?_;refine rl ?_;refine rl ?_;refine nx (m+1) (by omega) (by omega) ?_;rw[e4];exact bL
    have e4:gT (z1.part.getD f default) (z1.part.getD i default) z1.part (m+1)=gT (z1.part.getD f default) (z1.part.getD i default) z1.part m:=if_neg h3;refine bs (rs ?_);refine cf ?_;refine ap (rl ?_);refine nx (m+1) (by omega) (by omega) ?_;rw[e4];exact bL
   rw[show m=i+1 by omega];refine rl ?_;refine nx (j+1) ⟨by omega,hz3⟩ (by omega) ?_;rw[e2];exact kp
  obtain⟨hj,hz2⟩:=hv;rw[show j=y.sd.length by omega]at hz2 ⊢;rw[<-e0]at hz2 ⊢;refine rl ?_;refine nx (i+1) ⟨by omega,?_⟩ (by omega) kp;obtain⟨a1,a2,a3,a4,a5,a6,a7,a8⟩:=hz2;exact⟨a1,a2,a3,a4,by omega,fun k hk=>by have:=a6 k hk;omega,fun k hk=>by have:=a7 k hk;omega,a8⟩
 obtain⟨hi,hz⟩:=hv;rw[show i=x.sd.length by omega]at hz ⊢;unfold lQ;generalize eW l x x.sd.length=z at hz ⊢;have l1:=hz.l1;have l2:=hz.l2;have l4:=hz.l4;have few:=hz.few;refine rS ?_;refine fo (fun k:Nat=>⟨ao (vZ l x z x.sd.length [(17,some (.int .i64 (k:Nat)))]),wd (vw x z []) 6 [] 0,[]⟩) (fun k=>k<=z.sums.length/\∀j,j<k->z.sums.getD j default=0) (fun k=>z.sums.length-k) 0 ⟨abW _,fun j h=>absurd h (acm j)⟩ (fun k hv h=>?_) (fun k hv h=>?_)
 ·refine bs (rs ?_);refine cp (fun h1=>?_) (fun h1=>?_)
  ·refine rs ?_;refine rt ?_;rw[yT,if_pos ⟨k,by omega,h1⟩];rfl
  refine ap (rl ?_);exact nx (k+1) ⟨by omega,fun j hj=>by
   by_cases e:j=k
   ·subst e;exact Decidable.not_not.1 h1
   exact hv.2 j (by omega)⟩
 have h1:¬∃k,k<z.sums.length/\z.sums.getD k default≠0:=fun⟨j,q1,q2⟩=>q2 (hv.2 j (by omega))
 refine rS ?_;refine fo (fun k:Nat=>⟨ao (vZ l x z x.sd.length [(18,some (.int .i64 (k:Nat)))]),wd (vw x z []) 6 [] 0,[]⟩) (fun k=>k<=z.many.length/\∀j,j<k->z.many.getD j default=2) (fun k=>z.many.length-k) 0 ⟨abW _,fun j h=>absurd h (acm j)⟩ (fun k hv h=>?_) (fun k hv h=>?_)
 ·refine bs (rs ?_);refine cp (fun h2=>?_) (fun h2=>?_)
  ·refine rs ?_;refine rt ?_;rw[yT,if_neg h1,if_pos ⟨k,by omega,h2⟩];rfl
  refine ap (rl ?_);exact nx (k+1) ⟨by omega,fun j hj=>by
   by_cases e:j=k
   ·subst e;exact Decidable.not_not.1 h2
   exact hv.2 j (by omega)⟩
 have h2:¬∃k,k<z.many.length/\z.many.getD k default≠2:=fun⟨j,q1,q2⟩=>q2 (hv.2 j (by omega))
 refine rS ?_;refine fo (fun k:Nat=>⟨ao (vZ l x z x.sd.length [(19,some (.int .i64 (k:Nat)))]),wd (vw x z []) 6 [] 0,[]⟩) (fun k=>k<=z.part.length/\∀j,j<k->z.part.getD j default=z.part.getD 0 default) (fun k=>z.part.length-k) 0 ⟨abW _,fun j h=>absurd h (acm j)⟩ (fun k hv h=>?_) (fun k hv h=>?_)
 ·refine bs (rd ?_);refine cp (fun h3=>?_) (fun h3=>?_)
  ·refine rs ?_;refine rt ?_;rw[yT,if_neg h1,if_neg h2,if_pos ⟨k,by omega,h3⟩];rfl
  refine ap (rl ?_);exact nx (k+1) ⟨by omega,fun j hj=>by
   by_cases e:j=k
   ·subst e;exact Decidable.not_not.1 h3
   exact hv.2 j (by omega)⟩
 have h3:¬∃k,k<z.part.length/\z.part.getD k default≠z.part.getD 0 default:=fun⟨j,q1,q2⟩=>q2 (hv.2 j (by omega))
 refine rs ?_;refine rt ?_;rw[yT,if_neg h1,if_neg h2,if_neg h3];rfl
def kw{β:Type}(f:Nat->Option β):Nat->Option β
 |0=>none
 |i+1=>match kw f i with
  |some r=>some r
  |none=>f i
theorem mh{β:Type}{f:Nat->Option β}{i:Nat}(h:kw f i=none):kw f (i+1)=f i:=by rw[kw,h]
theorem D9{β:Type}{f:Nat->Option β}{i:Nat}{r:β}(h:kw f i=some r):∀d,kw f (i+d)=some r
 |0=>h
 |d+1=>by rw[<-adb,kw,D9 h d]
theorem oM{β:Type}{f:Nat->Option β}{i n:Nat}{r:β}(h:kw f i=none)(hf:f i=some r)(hn:i<n):kw f n=some r:=by
 have:=D9 (i:=i+1) ((mh h).trans hf) (n-(i+1));rwa [show i+1+(n-(i+1))=n by omega]at this
theorem m8{β:Type}{f:Nat->Option β}:∀{i:Nat},kw f i=none->∀j,j<i->f j=none
 |0,_,j,h=>absurd h (acm j)
 |i+1,h,j,hj=>by
  have h0:kw f i=none:=by
   cases e:kw f i with
   |none=>rfl
   |some r=>rw[kw,e]at h;cases h
  rw[mh h0]at h;by_cases e:j=i
  ·rw[e];exact h
  exact m8 h0 j (by omega)
theorem ri:∀(n:Nat) (a b:List Ce),a.length+b.length<=n->∀c∈iA a b,c∈a\/c∈b
 |n,[],b,_,c,h=>by rw[iA]at h;exact .inr h
 |n,x::a,[],_,c,h=>by rw[iA]at h;exact .inl h
 |0,x::a,y::b,h,_,_=>by simp at h
 |n+1,x::a,y::b,hl,c,h=>by
  rw[iA]at h;simp only[List.length_cons]at hl;split at h
  ·rcases List.mem_cons.1 h with e|h
   ·exact .inr (by rw[e];exact ab4)
   exact(ri n _ _ (by simp only[List.length_cons];omega) c h).imp id (aca _)
  rcases List.mem_cons.1 h with e|h
  ·exact .inl (by rw[e];exact ab4)
  exact(ri n _ _ (by simp only[List.length_cons];omega) c h).imp (aca _) id
theorem jE:∀(n:Nat) (l:List Ce),l.length<=n->∀c∈aM l,∃c0∈l,c=⟨c0.id,c0.dim,fF c0.sd []⟩
 |n,l,hn,c,h=>by
  by_cases h0:l.length=0
  ·rw[ace h0]at h;cases h
  by_cases h1:l.length=1
  ·have e:aM l=[⟨(l.getD 0 default).id,(l.getD 0 default).dim,fF (l.getD 0 default).sd []⟩]:=by unfold aM;rw[h1,iU,if_neg h0,if_pos h1]
   rw[e]at h;exact⟨_,bj (l:=l) (i:=0) (by omega),by simpa using h⟩
  rw[<-wF h0 h1]at h;cases n with
  |zero=>omega
  |succ n=>
   rcases ri _ _ _ (Nat.le_refl _) c h with h|h
   ·obtain⟨c0,k1,k2⟩:=jE n _ (by rw[abR];omega) c h;exact⟨c0,ac5 k1,k2⟩
   obtain⟨c0,k1,k2⟩:=jE n _ (by rw[abT];omega) c h;exact⟨c0,adk k1,k2⟩
open Classical in
noncomputable def mH(o u:List Ce)(i:Nat):Option (Int×Int):=
 if(o.getD i default).id<1\/(0<i/\(o.getD i default).id=(o.getD (i-1) default).id)then some ((o.getD i default).id,20)else if dI u (o.getD i default)≠0 then some ((o.getD i default).id,dI u (o.getD i default))else none
noncomputable def ol(o:List Ce)(i:Nat):Option (Int×Int):=if(o.getD i default).dim<2 then none else if lQ o (o.getD i default)≠0 then some ((o.getD i default).id,lQ o (o.getD i default))else none
noncomputable def ei(l:List Ce):Int×Int:=if 4000<l.length then(0,2)else match kw (mH (aM l) (my l)) (aM l).length with
 |some r=>r
 |none=>match kw (ol (aM l)) (aM l).length with
  |some r=>r
  |none=>(0,0)
theorem na{o u:List Ce}{i:Nat}(h:mH o u i=none):¬((o.getD i default).id<1\/(0<i/\(o.getD i default).id=(o.getD (i-1) default).id))/\dI u (o.getD i default)=0:=by
 unfold mH at h;split at h
 ·cases h
 split at h
 ·cases h
 rename_i h1 h2;exact⟨h1,Decidable.not_not.1 h2⟩
theorem su{o:List Ce}(h:∀j,j<o.length->¬(0<j/\(o.getD j default).id=(o.getD (j-1) default).id)):∀i,i<=o.length->dQ o i=o.take i
 |0,_=>by simp[dQ]
 |i+1,hi=>by
  rw[dQ,su h i (by omega),if_pos (by
   by_cases e:i=0
   ·exact .inl e
   exact .inr fun q=>h i (by omega) ⟨by omega,q⟩),List.take_succ,abV,abS (by omega)]
  rfl
theorem zI{l:List Ce}{x:Ce}(h:dI l x=0):¬(x.dim<0\/8<x.dim)/\¬wb x/\(∀i,i<x.sd.length->¬mL l x i)/\∀i,i<x.sd.length->¬iK x i:=by
 unfold dI at h;split at h
 ·cases h
 split at h
 ·cases h
 split at h
 ·cases h
 split at h
 ·cases h
 rename_i h1 h2 h3 h4;exact⟨h1,h2,fun i hi q=>h3 ⟨i,hi,q⟩,fun i hi q=>h4 ⟨i,hi,q⟩⟩
theorem BX{o:List Ce}(h:∀c∈o,dI o c=0){x:Ce}(hx:x∈o):Ws o x:=by
 have few:∀c∈o,c.sd.length<=64:=fun c hc=>by
  obtain⟨h1,h2,_⟩:=zI (h c hc);unfold wb at h2;omega
 have sg:∀c∈o,∀i,i<c.sd.length->(c.sd.getD i default).2=1\/(c.sd.getD i default).2=-1:=fun c hc i hi=>by
  have:=(zI (h c hc)).2.2.2 i hi;unfold iK at this;omega
 have at_:∀i,i<x.sd.length->∃m:Nat,m<o.length/\nE o (x.sd.getD i default).1=m:=fun i hi=>by
  have:=(zI (h x hx)).2.2.1 i hi;unfold mL at this;rcases tD (l:=o) (id:=(x.sd.getD i default).1)with e|q
  ·omega
  exact q
 have ysm:∀i,i<x.sd.length->∃c∈o,gx o x i=c.sd:=fun i hi=>by
  obtain⟨m,h1,h2⟩:=at_ i hi;exact⟨_,bj h1,by unfold gx;rw[h2,ab2]⟩
 refine⟨few x hx,at_,fun i hi=>?_,fun i hi j hj=>?_⟩
 ·obtain⟨c,h1,h2⟩:=ysm i hi;rw[h2];exact few c h1
 obtain⟨c,h1,h2⟩:=ysm i hi;rw[h2]at hj ⊢;rcases sg x hx i hi with e|e<;>rcases sg c h1 j hj with e'|e'<;>rw[e,e']<;>simp
theorem C0(l:List Ce)(hl:l.length<=1000000)(hs:∀c∈l,c.sd.length<=1000000):Fn Tryz.prog 40 [gw l] (.ret (.tuple #[.int .i64 (ei l).1,.int .i64 (ei l).2])):=by
 have ho:=fl _ l (Nat.le_refl _);have hu:(my l).length<=1000000:=by have:=oS (aM l) (aM l).length;unfold my;omega
 have hso:∀c∈aM l,c.sd.length<=1000000:=fun c hc=>by
  obtain⟨c0,h1,rfl⟩:=jE _ l (Nat.le_refl _) c hc;simp only;rw[j4];exact hs c0 h1
 refine fY Tryz.func40 Tryz.results40 (h:=?_);refine rs ?_;by_cases h0:4000<l.length
 ·refine rS ?_;refine ct ?_;refine rs ?_;refine rt ?_;rw[ei,if_pos h0];rfl
 refine rS ?_;refine cf ?_;refine sk ?_;refine rc (b1 (l7 _ l (Nat.le_refl _) hl hs)) ?_;refine rc (b1 (Nm l hl hs)) ?_;unfold ei;rw[if_neg h0];have huq:my l=dQ (aM l) (aM l).length:=rfl;generalize aM l=o at ho hso huq ⊢;generalize my l=u at hu huq ⊢;refine rS ?_;refine fo (fun i:Nat=>⟨ao [(4,some (sl o)),(5,some (sl u)),(6,some (.int .i64 (i:Nat)))],wd [] 1 [] 0,[]⟩) (fun i=>i<=o.length/\kw (mH o u) i=none) (fun i=>o.length-i) 0 ⟨abW _,rfl⟩ (fun i hv h=>?_) (fun i hv h=>?_)
 ·obtain⟨hi,hn⟩:=hv;have hsi:=hso _ (bj (l:=o) (i:=i) (by omega));by_cases h1:(o.getD i default).id<1\/(0<i/\(o.getD i default).id=(o.getD (i-1) default).id)
  ·have e:mH o u i=some ((o.getD i default).id,20):=if_pos h1;by_cases h2:(o.getD i default).id<1<;>(
    refine bs (rD ?_);refine ct ?_;refine rs ?_;refine rt ?_;rw[oM hn e (by omega)];rfl)
  refine bs ?_;refine Ll ?_ ?_
  ·by_cases h2:0<i<;>(
    refine rd ?_;refine cf ?_;exact ap bL)
  refine rc (b1 (Nn u (o.getD i default) hu hsi)) ?_;by_cases h3:dI u (o.getD i default)=0
  ·have e:mH o u i=none:=by rw[mH,if_neg h1,if_neg (fun q=>q h3)]
   refine rs ?_;refine cf ?_;refine ap (rl ?_);exact nx (i+1) ⟨by omega,(mh hn).trans e⟩ (by omega) kp
  have e:mH o u i=some ((o.getD i default).id,dI u (o.getD i default)):=by rw[mH,if_neg h1,if_pos h3]
  refine rs ?_;refine ct ?_;refine rs ?_;refine rt ?_;rw[oM hn e (by omega)]
 obtain⟨hi,hn⟩:=hv;have hio:i=o.length:=by omega
 rw[hio]at hn ⊢;rw[hn];have hall:∀j,j<o.length->¬((o.getD j default).id<1\/(0<j/\(o.getD j default).id=(o.getD (j-1) default).id))/\dI u (o.getD j default)=0:=fun j hj=>na (m8 hn j hj)
 have hu2:u=o:=by rw[huq,su (fun j hj q=>(hall j hj).1 (.inr q)) _ (Nat.le_refl _),List.take_length]
 have hf:∀c∈o,dI o c=0:=fun c hc=>by
  obtain⟨j,hj,rfl⟩:=acp hc;have:=(hall j hj).2;rw[hu2,abV,abS hj]at this;exact this
 refine rS ?_;refine fo (fun i:Nat=>⟨ao [(4,some (sl o)),(8,some (.int .i64 (i:Nat)))],wd [] 1 [] 0,[]⟩) (fun i=>i<=o.length/\kw (ol o) i=none) (fun i=>o.length-i) 0 ⟨abW _,rfl⟩ (fun i hv h=>?_) (fun i hv h=>?_)
 ·obtain⟨hi,hn⟩:=hv;have hx:=bj (l:=o) (i:=i) (by omega);refine bs ?_;by_cases h1:(o.getD i default).dim<2
  ·have e:ol o i=none:=if_pos h1;refine rS ?_;refine ct ?_;refine xe ?_;refine rl ?_;exact nx (i+1) ⟨by omega,(mh hn).trans e⟩ (by omega) kp
  refine rS ?_;refine cf ?_;refine sk ?_;refine rc (b1 (Kk o (o.getD i default) (by omega) (BX hf hx))) ?_;by_cases h3:lQ o (o.getD i default)=0
  ·have e:ol o i=none:=by rw[ol,if_neg h1,if_neg (fun q=>q h3)]
   refine rs ?_;refine cf ?_;refine ap (rl ?_);exact nx (i+1) ⟨by omega,(mh hn).trans e⟩ (by omega) kp
  have e:ol o i=some ((o.getD i default).id,lQ o (o.getD i default)):=by rw[ol,if_neg h1,if_pos h3]
  refine rs ?_;refine ct ?_;refine rs ?_;refine rt ?_;rw[oM hn e (by omega)]
 obtain⟨hi,hn⟩:=hv;rw[show i=o.length by omega]at hn;refine rs ?_;refine rt ?_;rw[hn];rfl
end Go.Proofs.YthlkgmdkabelpaaGreat.X
