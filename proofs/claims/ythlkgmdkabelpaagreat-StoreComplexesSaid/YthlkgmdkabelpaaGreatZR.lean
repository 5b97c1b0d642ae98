/-
  Packed by program (tools/pack.py) out of the texts MZ0 MZ1 MZ2 MZ3 MZ4. No condition.
-/
import Derived.Test.YthlkgmdkabelpaaGreatZN
set_option linter.all false
namespace Go.Proofs.YthlkgmdkabelpaaGreat.X
open Go Go.RowKit Go.Proofs.YthlkgmdkabelpaaGreat.St
section
variable {P:Program} [hM:kz P] {H:ci} {N k:Nat} {s s':XS} {Q:XQ} {id:Nat} {ops:Array Oper} {d:Code} {v:Value}
theorem pl{p:Prop}(f:p)(b:dv P H)(q:Q (.pan v) s')(h:p->fR P (bc P H 1) N none ops ops.toList s=some (.code (.pan v) s'):=by intro hf;simp(disch:=first|decide|omega|(simp only[abP,List.length_cons,List.length_nil,abR,abT,abX]<;>omega)|(simp(disch:=decide) only[ae,ab,aa,b9.eq_1];done)) only[hf,jF,aJ,eF,dN,fZ,go_sem]<;>with_reducible rfl):ar P N k (.region id ops false) s Q:=aG b (h f) q
theorem pq{p:Prop}(f:p)(b:dv P H)(q:Q (.pan v) s')(h:p->fR P (bc P H 1) N none ops ops.toList s=some (.code (.pan v) s'):=by intro hf;simp(disch:=first|decide|omega|(simp only[abP,List.length_cons,List.length_nil,abR,abT,abX]<;>omega)|(simp(disch:=decide) only[ae,ab,aa,b9.eq_1];done)) only[hf,jF,aJ,eF,dN,fZ,go_sem]<;>with_reducible rfl):ar P N k (.seq (.region id ops false) d) s Q:=ai (aG b (h f) q)
variable {R:List ResultVar} {E:aW->XW->Prop}
theorem pt{fr:XF}{W:XW}(q:E (.pan v) W):qL P R E (.pan v) ⟨fr,W,[]⟩:=⟨some v,_,W,rfl,rfl,q⟩
end
@[go_sem] theorem iad_pZ {P:Program} {e:TypeId} {j:IntKind} {n i b o:Nat}:kY P (some (.array n e)) (some (.pointer (some ⟨b,o,none⟩))) (some (.int j ((i:Nat):Int)))=m3 b o i n (sz P e):=rfl
abbrev fC(e:Nat):Value:=.iface 159 (.agg #[.int .i64 ((e:Nat):Int)])
@[go_sem high] theorem iface_st {t:TypeId} {v:Value} {fs:Array Field}:ui t (some v) (some (.struct fs))=some (.val (some (.iface t v))):=rfl
theorem j6:Fn Tryz.prog 86 [.bool true] (.ret (.tuple #[])):=by
 refine fY Tryz.func86 Tryz.results86 (h:=?_);refine rs ?_;refine cf ?_;refine ap ?_;exact⟨none,_,_,rfl,rfl,rfl⟩
theorem is:Fn Tryz.prog 86 [.bool false] (.pan (fC 11)):=by
 refine fY Tryz.func86 Tryz.results86 (h:=?_);refine rs ?_;refine ct ?_;refine pl (p:=True) trivial b0 (pt rfl)
def ly:Nat->Nat->Nat->List UInt8->Option Nat×List UInt8
 |0,_,_,s=>(none,s)
 |_+1,_,_,[]=>(none,[])
 |f+1,k,n,c::r=>if c.toNat<128 then(if 0<c.toNat\/k=0 then some (n+c.toNat%128*2^(7*k))else none,r)else ly f (k+1) (n+c.toNat%128*2^(7*k)) r
def tF:Nat->Nat->Nat->Nat->List UInt8->Nat×Nat×Bool
 |0,_,_,_,_=>(0,0,false)
 |_+1,_,_,_,[]=>(0,0,false)
 |f+1,k,n,p,c::r=>if c.toNat<128 then(n+c.toNat%128*2^(7*k),p+1,decide (0<c.toNat\/k=0))else tF f (k+1) (n+c.toNat%128*2^(7*k)) (p+1) r
abbrev aw(s:List UInt8):Option Nat×List UInt8:=ly 9 0 0 s
abbrev kF(p:Nat)(s:List UInt8):Nat×Nat×Bool:=tF 9 0 0 p s
theorem G9:∀(f k n p:Nat) (s:List UInt8),(tF f k n p s).2.2=(ly f k n s).1.isSome/\∀m,(ly f k n s).1=some m->(tF f k n p s).1=m/\(tF f k n p s).2.1+(ly f k n s).2.length=p+s.length
 |0,_,_,_,_=>⟨rfl,fun m h=>(by cases h)⟩
 |_+1,_,_,_,[]=>⟨rfl,fun m h=>(by cases h)⟩
 |f+1,k,n,p,c::r=>by
  unfold tF ly;by_cases hc:c.toNat<128
  ·rw[if_pos hc,if_pos hc];by_cases h2:0<c.toNat\/k=0
   ·rw[if_pos h2,decide_eq_true h2];exact⟨rfl,fun m h=>by cases h;exact⟨rfl,by show p+1+r.length=p+(r.length+1);omega⟩⟩
   rw[if_neg h2,decide_eq_false h2];exact⟨rfl,fun m h=>(by cases h)⟩
  rw[if_neg hc,if_neg hc];obtain⟨h1,h2⟩:=G9 f (k+1) (n+c.toNat%128*2^(7*k)) (p+1) r;exact⟨h1,fun m h=>by obtain⟨a,b⟩:=h2 m h;exact⟨a,by rw[List.length_cons];omega⟩⟩
theorem Dh{c n k:Nat}(h:n<2^(7*k)):n+c%128*2^(7*k)<2^(7*(k+1)):=by
 have h2:c%128<128:=Nat.mod_lt _ (by decide);have h3:c%128*2^(7*k)<=127*2^(7*k):=acL _ (by omega);rw[show 7*(k+1)=7*k+7 by omega,Nat.pow_add];omega
theorem kH:∀(f k n:Nat) (s:List UInt8) (m:Nat),f+k=9->n<2^(7*k)->(ly f k n s).1=some m->m<9223372036854775808/\(ly f k n s).2.length<s.length
 |0,_,_,_,_,_,_,h=>(by cases h)
 |_+1,_,_,[],_,_,_,h=>(by cases h)
 |f+1,k,n,c::r,m,hf,hn,h=>by
  have hd:=Dh (c:=c.toNat) hn;unfold ly at h ⊢;by_cases hc:c.toNat<128
  ·rw[if_pos hc]at h ⊢;by_cases h2:0<c.toNat\/k=0
   ·rw[if_pos h2]at h;cases h;refine⟨?_,by rw[List.length_cons];exact aci _⟩;have:2^(7*(k+1))<=2^63:=ac2 (by decide) (by omega);have:2^(7*(k+1))<=9223372036854775808:=this;omega
   rw[if_neg h2]at h;cases h
  rw[if_neg hc]at h ⊢;obtain⟨a,b⟩:=kH f (k+1) _ r m (by omega) hd h;exact⟨a,by rw[List.length_cons];omega⟩
theorem ed:∀(f k n:Nat) (s:List UInt8),(ly f k n s).2.length<=s.length
 |0,_,_,_=>Nat.le_refl _
 |_+1,_,_,[]=>Nat.le_refl _
 |f+1,k,n,c::r=>by
  unfold ly;split
  ·rw[List.length_cons];exact acU _
  have:=ed f (k+1) (n+c.toNat%128*2^(7*k)) r;rw[List.length_cons];omega
abbrev dt(s:List UInt8):ah:=.cells [.string (str s)] 165 (0,0)
theorem Ht(s:List UInt8)(n:Nat)(hn:n<=s.length)(hs:s.length<=140737488351232):Fo Tryz.prog 87 [.int .i64 (n:Nat)] (dt s) (.ret (.string (str (s.take n)))) (dt (s.drop n)):=by
 refine nZ Tryz.func87 Tryz.results87 (h:=?_);refine rs ?_;have hd:decide (((n:Nat):Int)<=((s.length:Nat):Int))=true:=decide_eq_true (by omega);refine eO hd (b1 j6) ?_;refine rs ?_;refine rs ?_;refine rs ?_;refine rt ?_;exact⟨rfl,by simp(disch:=decide) only[ae,ab,aa]⟩
theorem GP(s:List UInt8)(n:Nat)(hn:s.length<n)(hn2:n<=1000000):Fo Tryz.prog 87 [.int .i64 (n:Nat)] (dt s) (.pan (fC 11)) (dt s):=by
 refine nZ Tryz.func87 Tryz.results87 (h:=?_);refine rs ?_;have hd:decide (((n:Nat):Int)<=((s.length:Nat):Int))=false:=decide_eq_false (by omega);refine pq hd (b1 is) ?_;exact pt ⟨rfl,by simp(disch:=decide) only[ae,ab,aa]⟩
def Lc:Option Nat->aW
 |some m=>.ret (.int .i64 (m:Nat))
 |none=>.pan (fC 11)
instance {o:Option Nat}:rm (Lc o):=⟨by cases o with
 |none=>exact(inferInstance:rm (.pan (fC 11))).h
 |some m=>exact(inferInstance:rm (.ret (.int .i64 (m:Nat)))).h⟩
set_option maxHeartbeats 1000000 in
theorem tP(s0:List UInt8)(hs0:s0.length<=140737488351232):Fo Tryz.prog 85 [] (dt s0) (Lc (aw s0).1) (dt (aw s0).2):=by
 refine nZ Tryz.func85 Tryz.results85 (h:=?_);refine rs ?_;refine rs ?_;refine rS ?_;refine fr (fun x:Nat×Nat×List UInt8=>⟨ao [(0,some (.pointer (some ⟨0,0,none⟩))),(3,some (.int .i64 (x.2.1:Nat))),(6,some (.int .i64 (x.1:Nat)))],wd [(0,some (dt x.2.2))] 1 [] 0,[]⟩) (fun x=>x.1<=9/\x.2.1<2^(7*x.1)/\x.2.2.length<=s0.length/\ly (9-x.1) x.1 x.2.1 x.2.2=aw s0) (fun x=>9-x.1) (0,0,s0) ⟨abW _,acZ,Nat.le_refl _,rfl⟩ (fun x hv h=>?_) (fun x hv h=>?_)
 ·obtain⟨k,n,s⟩:=x;obtain⟨h1,h2,h3,h4⟩:=hv;simp only at h h1 h2 h3 h4;refine bs (rs ?_);have hk:9-k=(9-(k+1))+1:=by omega
  rw[hk]at h4;cases s with
  |nil=>
   rw[show ly (9-(k+1)+1) k n []=(none,[])from rfl]at h4;refine pq (p:=True) trivial (lL (GP [] 1 (by decide) (by decide))) ?_;refine pt ?_;rw[<-h4];exact⟨rfl,by simp(disch:=decide) only[ae,ab,aa]⟩
  |cons c r=>
   rw[ly]at h4;have hcl:c.toNat<256:=c.toNat_lt;have hd:=Dh (c:=c.toNat) h2;refine rc (lL (Ht (c::r) 1 (by simp) (by omega))) ?_;have h7:2^(7*(k+1))<=9223372036854775808:=ac2 (n:=2) (by decide) (show 7*(k+1)<=63 by omega);have hor:nr .or .i64 ((n:Nat):Int) ((c.toNat%128*2^(7*k):Nat):Int)=((n+c.toNat%128*2^(7*k):Nat):Int):=Co (by omega) (by omega) (LT h2) (by omega);refine rf hor ?_;clear hor;generalize n+c.toNat%128*2^(7*k)=n' at h4 hd;rw[List.length_cons]at h3;refine rs ?_;refine cp (fun hc=>?_) (fun hc=>?_)
   ·rw[if_pos (by omega)]at h4;by_cases hc0:0<c.toNat
    ·rw[if_pos (.inl hc0)]at h4;have d1:decide (((0:Nat):Int)<(c.toNat:Int))=true:=decide_eq_true (by omega);refine eO d1 (b1 j6) ?_;refine rs ?_;refine rt ?_;rw[<-h4];exact⟨rfl,by simp(disch:=decide) only[ae,ab,aa]⟩
    have d1:decide (((0:Nat):Int)<(c.toNat:Int))=false:=decide_eq_false (by omega);by_cases hk0:k=0
    ·rw[if_pos (.inr hk0)]at h4;have d2:decide (((k:Nat):Int)=((0:Nat):Int))=true:=decide_eq_true (by omega);refine eO (And.intro d1 d2) (b1 j6) ?_;refine rs ?_;refine rt ?_;rw[<-h4];exact⟨rfl,by simp(disch:=decide) only[ae,ab,aa]⟩
    rw[if_neg (by omega)]at h4;have d2:decide (((k:Nat):Int)=((0:Nat):Int))=false:=decide_eq_false (by omega);refine pq (And.intro d1 d2) (b1 is) ?_;refine pt ?_;rw[<-h4];exact⟨rfl,by simp(disch:=decide) only[ae,ab,aa]⟩
   rw[if_neg (by omega)]at h4;refine ap ?_;refine rl ?_;exact nx (k+1,n',r) ⟨by show k+1<=9;omega,hd,by show r.length<=_;omega,h4⟩ (by show 9-(k+1)<9-k;omega)
 obtain⟨k,n,s⟩:=x;obtain⟨h1,h2,h3,h4⟩:=hv;simp only at h h1 h2 h3 h4;obtain rfl:k=9:=by omega
 rw[show ly (9-9) 9 n s=(none,s)from rfl]at h4;refine pq (p:=True) trivial (b1 is) ?_;refine pt ?_;rw[<-h4];exact⟨rfl,by simp(disch:=decide) only[ae,ab,aa]⟩
set_option maxHeartbeats 1000000 in
theorem l8(o:List UInt8)(p:Nat)(hp:p<=o.length)(ho:o.length<=140737488351232):Fn Tryz.prog 82 [.string (str o),.int .i64 (p:Nat)] (.ret (.tuple #[.int .i64 ((kF p (o.drop p)).1:Nat),.int .i64 ((kF p (o.drop p)).2.1:Nat),.bool (kF p (o.drop p)).2.2])):=by
 refine fY Tryz.func82 Tryz.results82 (h:=?_);refine rs ?_;refine rs ?_;refine rs ?_;refine rS ?_;refine fo (fun x:Nat×Nat=>⟨ao [(0,some (.string (str o))),(1,some (.int .i64 (p:Nat))),(7,some (.int .i64 (x.2:Nat))),(8,some (.int .i64 (IntKind.i64.wrap ((2^(7*x.1):Nat):Int)))),(9,some (.int .i64 (x.1:Nat)))],wd [] 0 [] 0,[]⟩) (fun x=>x.1<=9/\x.2<2^(7*x.1)/\p+x.1<=o.length/\tF (9-x.1) x.1 x.2 (p+x.1) (o.drop (p+x.1))=kF p (o.drop p)) (fun x=>9-x.1) (0,0) ⟨abW _,acZ,hp,rfl⟩ (fun x hv h=>?_) (fun x hv h=>?_)
 ·obtain⟨k,n⟩:=x;obtain⟨h1,h2,h3,h4⟩:=hv;simp only at h h1 h2 h3 h4;have h63:2^(7*k)<=72057594037927936:=ac2 (n:=2) (by decide) (show 7*k<=56 by omega);rw[show IntKind.i64.wrap ((2^(7*k):Nat):Int)=((2^(7*k):Nat):Int)from wrap_i64 (by omega) (by omega)];refine bs ?_;refine rS ?_;have hk:9-k=(9-(k+1))+1:=by omega
  rw[hk]at h4;refine cp (fun hg=>?_) (fun hg=>?_)
  ·rw[aco (show o.length<=p+k by omega),tF]at h4;refine rs ?_;refine rt ?_;rw[<-h4]
  have hlt:p+k<o.length:=by omega
  rw[acF hlt,tF]at h4;obtain⟨c,hc⟩:∃c,c=o[p+k]:=⟨_,rfl⟩;rw[<-hc]at h4;have hcl:c.toNat<256:=c.toNat_lt;have hd:=Dh (c:=c.toNat) h2;have h7:2^(7*(k+1))<=9223372036854775808:=ac2 (n:=2) (by decide) (show 7*(k+1)<=63 by omega);refine sk ?_;refine rf hc.symm ?_;refine rs ?_;generalize hn':n+c.toNat%128*2^(7*k)=n' at h4 hd;refine rs ?_;rw[show 2^(7*k)*128=2^(7*(k+1)) by rw[show 7*(k+1)=7*k+7 by omega,Nat.pow_add]];refine rs ?_;refine cp (fun hc1=>?_) (fun hc1=>?_)
  ·rw[if_pos (by omega)]at h4;by_cases hc0:0<c.toNat
   ·rw[decide_eq_true (show 0<c.toNat\/k=0 from .inl hc0)]at h4;have d1:decide (((0:Nat):Int)<(c.toNat:Int))=true:=decide_eq_true (by omega);refine rf d1 ?_;refine rt ?_;rw[<-h4]
   have d1:decide (((0:Nat):Int)<(c.toNat:Int))=false:=decide_eq_false (by omega);by_cases hk0:k=0
   ·rw[decide_eq_true (show 0<c.toNat\/k=0 from .inr hk0)]at h4;have d2:decide (((k:Nat):Int)=((0:Nat):Int))=true:=decide_eq_true (by omega);refine rf (And.intro d1 d2) ?_;refine rt ?_;rw[<-h4]
   rw[decide_eq_false (show ¬(0<c.toNat\/k=0) by omega)]at h4;have d2:decide (((k:Nat):Int)=((0:Nat):Int))=false:=decide_eq_false (by omega);refine rf (And.intro d1 d2) ?_;refine rt ?_;rw[<-h4]
  rw[if_neg (by omega)]at h4;refine ap ?_;refine rl ?_;exact nx (k+1,n') ⟨by show k+1<=9;omega,hd,by show p+(k+1)<=_;omega,h4⟩ (by show 9-(k+1)<9-k;omega)
 obtain⟨k,n⟩:=x;obtain⟨h1,h2,h3,h4⟩:=hv;simp only at h h1 h2 h3 h4;obtain rfl:k=9:=by omega
 have h4:((0,0,false):Nat×Nat×Bool)=kF p (o.drop p):=h4;refine rs ?_;refine rt ?_;rw[<-h4]
def eX(kd:UInt8):Option (List UInt8)->List UInt8×Nat
 |none=>([],50)
 |some []=>([],51)
 |some (c::r)=>if c=kd then(c::r,0)else([],51)
def zY(s:List UInt8):HB:=if h:(s.take 32).length=32 then⟨s.take 32,h⟩else hZ
theorem FG{s:List UInt8}(h:32<=s.length):(zY s).1=s.take 32:=by
 unfold zY;rw[dif_pos (by rw[abR];omega)]
abbrev mG:=List (Nat×HB)
def nA:Nat->Int->List UInt8->Option mG
 |0,_,s=>if s=[]then some []else none
 |m+1,last,s=>match(aw s).1 with
  |none=>none
  |some k=>if last<(k:Int)/\k<576460752303423488/\32<=(aw s).2.length then(nA m k ((aw s).2.drop 32)).map ((k,zY (aw s).2)::·)else none
def tv(s:List UInt8):Option mG:=match(aw s).1 with
 |none=>none
 |some m=>nA m (-1) (aw s).2
def Uy{α:Type}:Option (List α)->List α×Nat
 |some l=>(l,0)
 |none=>([],11)
def cz(g:Option (List UInt8)):mG×Nat:=if(eX 2 g).2=0 then Uy (tv ((eX 2 g).1.drop 1))else([],(eX 2 g).2)
theorem oY:∀(f k n p:Nat) (s:List UInt8) (m:Nat),(ly f k n s).1=some m->∃j,(tF f k n p s).2.1=p+j/\(ly f k n s).2=s.drop j/\1<=j/\j<=s.length
 |0,_,_,_,_,_,h=>(by cases h)
 |_+1,_,_,_,[],_,h=>(by cases h)
 |f+1,k,n,p,c::r,m,h=>by
  unfold ly at h ⊢;unfold tF;by_cases hc:c.toNat<128
  ·rw[if_pos hc]at h ⊢;rw[if_pos hc];exact⟨1,rfl,rfl,Nat.le_refl _,by rw[List.length_cons];omega⟩
  rw[if_neg hc]at h ⊢;rw[if_neg hc];obtain⟨j,h1,h2,h3,h4⟩:=oY f (k+1) (n+c.toNat%128*2^(7*k)) (p+1) r m h;exact⟨j+1,by rw[h1];omega,by rw[h2,List.drop_succ_cons],by omega,by rw[List.length_cons];omega⟩
inductive NuS(o:List UInt8)(p:Nat):Prop
 |no (h1:(kF p (o.drop p)).2.2=false) (h2:(aw (o.drop p)).1=none)
 |yes (m p':Nat) (h1:kF p (o.drop p)=(m,p',true)) (h2:(aw (o.drop p)).1=some m) (h3:(aw (o.drop p)).2=o.drop p') (h4:p<p') (h5:p'<=o.length) (h6:m<9223372036854775808)
theorem rH{o:List UInt8}{p:Nat}(hp:p<=o.length):NuS o p:=by
 obtain⟨h1,h2⟩:=G9 9 0 0 p (o.drop p);cases hx:(aw (o.drop p)).1 with
 |none=>rw[show(ly 9 0 0 (o.drop p)).1=none from hx]at h1;exact .no h1 hx
 |some m=>
  rw[show(ly 9 0 0 (o.drop p)).1=some m from hx]at h1;obtain⟨j,g1,g2,g3,g4⟩:=oY 9 0 0 p _ m hx;obtain⟨g5,_⟩:=kH 9 0 0 _ m rfl acZ hx;obtain⟨g6,_⟩:=h2 m hx;rw[abT]at g4;exact .yes m (p+j) (Prod.ext g6 (Prod.ext g1 h1)) hx (by rw[show(aw (o.drop p)).2=_ from g2,acG]) (by omega) (by omega) g5
structure En(r:Bool) where
 k:Nat
 h:HB
instance {r:Bool}:Inhabited (En r):=⟨⟨0,hZ⟩⟩
instance {r:Bool}:El (En r):=⟨fun e=>.int .i64 (e.k:Nat)::an e.h.1,33,fun e=>by rw[List.length_cons,db,e.h.2],fun e=>by rw[List.all_cons,m4];rfl,fun _=>inferInstance⟩
theorem x3{h:HB}{v:Value}:(v::an h.1).length=33:=by rw[List.length_cons,db,h.2]
theorem F7{e:En false}:gA Tryz.prog 103 (.int .i64 (e.k:Nat)::an e.h.1) 0=some (.agg (.int .i64 (e.k:Nat)::an e.h.1).toArray):=by
 unfold gA;rw[Lk,PV];show(bif Nat.beq (((Value.int .i64 (e.k:Nat)::an e.h.1).drop 0).take 33).length 33 then some (Value.agg (((Value.int .i64 (e.k:Nat)::an e.h.1).drop 0).take 33).toArray)else none)=_;rw[List.drop_zero,List.take_of_length_le (by rw[x3];exact Nat.le_refl _),x3];rfl
noncomputable instance:mu Tryz.prog (En false) 103:=⟨fun e=>Value.agg (.int .i64 (e.k:Nat)::an e.h.1).toArray,Tryz.t103,_,Hr,rfl,F2,rfl,fun _=>F7,fun _=>rfl⟩
def eh(r:Bool)(l:mG):List (En r):=l.map fun x=>⟨x.1,x.2⟩
@[go_sem] theorem enc_en {r:Bool} {e:En r}:El.enc e=.int .i64 (e.k:Nat)::an e.h.1:=rfl
@[go_sem] theorem m_en {r:Bool}:El.m (En r)=33:=rfl
@[go_sem] theorem ev_k51 {fr:XF} {k:IntKind}:ev fr (.const (.int k 51))=some (.int k ((51:Nat):Int)):=rfl
@[go_sem] theorem ev_k59 {fr:XF} {k:IntKind}:ev fr (.const (.int k 576460752303423488))=some (.int k ((576460752303423488:Nat):Int)):=rfl
theorem AB(L:List Oj)(h:HB)(kd:UInt8)(hL:L.length<=1000000):Fo Tryz.prog 81 [bu h,.int .u8 (kd.toNat:Nat)] (cd L) (.ret (.tuple #[.string (str (eX kd (bM h L)).1),.int .i64 ((eX kd (bM h L)).2:Nat)])) (cd L):=by
 have hg:=F3 L h hL;refine nZ Tryz.func81 Tryz.results81 (h:=?_);refine rs ?_;cases hx:bM h L with
 |none=>
  rw[hx]at hg;refine rc (lL hg) ?_;refine rS ?_;refine ct ?_;refine rs ?_;refine rt ?_;exact⟨rfl,by simp(disch:=decide) only[ae,ab,aa]⟩
 |some o=>
  rw[hx]at hg;refine rc (lL hg) ?_;refine rS ?_;refine cf ?_;refine sk ?_;cases o with
  |nil=>
   refine rS ?_;refine ct ?_;refine rs ?_;refine rt ?_;exact⟨rfl,by simp(disch:=decide) only[ae,ab,aa]⟩
  |cons c r=>
   have hl:((c::r).length:Int)≠0:=by rw[List.length_cons];omega
   have hd:decide (((c::r).length:Int)=((0:Nat):Int))=false:=decide_eq_false hl;by_cases hc:c=kd
   ·subst hc;have h2:((c.toNat:Int) !=(c.toNat:Int))=false:=by simp
    refine ai (rf (And.intro hd h2) ?_);refine cf ?_;refine sk ?_;refine rs ?_;refine rt ?_;rw[show eX c (some (c::r))=(c::r,0)from if_pos rfl];exact⟨rfl,by simp(disch:=decide) only[ae,ab,aa]⟩
   have h2:((c.toNat:Int) !=(kd.toNat:Int))=true:=by
    have:c.toNat≠kd.toNat:=fun e=>hc (UInt8.toNat_inj.1 e)
    simp only[bne_iff_ne,ne_eq];omega
   have h3:decide ((c.toNat:Int)=(kd.toNat:Int))=false:=decide_eq_false (by
    have:c.toNat≠kd.toNat:=fun e=>hc (UInt8.toNat_inj.1 e)
    omega)
   refine ai (rf (And.intro hd (And.intro h2 h3)) ?_);refine ct ?_;refine rs ?_;refine rt ?_;rw[show eX kd (some (c::r))=([],51)from if_neg hc];exact⟨rfl,by simp(disch:=decide) only[ae,ab,aa]⟩
theorem oP{kd:UInt8}{g:Option (List UInt8)}{n:Nat}(h:∀t,g=some t->t.length<=n):(eX kd g).1.length<=n:=by
 unfold eX;split
 ·exact abW _
 ·exact abW _
 split
 ·exact h _ rfl
 exact abW _
theorem s5{kd:UInt8}{g:Option (List UInt8)}(h:(eX kd g).2=0):∃r,g=some (kd::r)/\(eX kd g).1=kd::r:=by
 unfold eX at h ⊢;split at h
 ·cases h
 ·cases h
 split at h
 ·rename_i q;subst q;rw[if_pos rfl];exact⟨_,rfl,rfl⟩
 cases h
theorem QP{k:Nat}{h:HB}:gA Tryz.prog 103 (.int .i64 (k:Nat)::an h.1) 0=some (.agg (.int .i64 (k:Nat)::an h.1).toArray):=F7 (e:=⟨k,h⟩)
theorem RV{k:Nat}{h:HB}:gq (.cells (.int .i64 (k:Nat)::an h.1) 103 (0,0)) 1 1=some (.new (ro 103 [(⟨k,h⟩:En false)]) fun n=>gs n 1 [(⟨k,h⟩:En false)]):=by
 have e:ro 103 [(⟨k,h⟩:En false)]=.cells (.int .i64 (k:Nat)::an h.1) 103 (0,0):=by unfold ro;rw[ab7,acV,List.append_nil];rfl
 rw[e];rfl
attribute [go_sem] QP
attribute [go_sem high] RV
def pi(k:Nat)(s:List UInt8)(i:Nat):List Value:=.int .i64 (k:Nat)::(an (s.take i)++an (List.replicate (32-i) 0))
theorem Hm{k:Nat}{s:List UInt8}{i:Nat}(h:i<=32)(hs:32<=s.length):(pi k s i).length=33:=by
 unfold pi;rw[List.length_cons,abP,db,db,acD,abR];omega
theorem Tc{k:Nat}{s:List UInt8}{i:Nat}(h:i<32)(hs:32<=s.length):List.take (1+i) (pi k s i)++bv (s[i]'(by omega))::List.drop (1+i+1) (pi k s i)=pi k s (i+1):=by
 have h1:(an (s.take i)).length=i:=by rw[db,abR];omega
 unfold pi;rw[show 1+i=i+1 by omega,List.take_succ_cons,List.drop_succ_cons,List.take_left' h1,show 32-i=(32-(i+1))+1 by omega,List.replicate_succ];rw[show i+1=(an (s.take i)).length+1 by rw[h1],<-acG,List.drop_left' rfl,h1,List.take_succ,abS (by omega)];unfold an;simp;rw[List.take_succ,acE,abS (show i<s.length by omega)];simp
theorem GN(L:List Oj)(h:HB)(hL:L.length<=1000000)(hb:∀t,bM h L=some t->t.length<=10000000):Fo Tryz.prog 43 [bu h] (cd L) (.ret (.tuple #[sl (eh false (cz (bM h L)).1),.int .i64 ((cz (bM h L)).2:Nat)])) (cd L):=by
 have hob:Fo Tryz.prog 81 [bu h,.int .u8 ((2:Nat):Int)] (cd L) (.ret (.tuple #[.string (str (eX 2 (bM h L)).1),.int .i64 ((eX 2 (bM h L)).2:Nat)])) (cd L):=AB L h 2 hL;have hol:=oP (kd:=2) hb;have hz:=s5 (kd:=2) (g:=bM h L);unfold cz;generalize eX 2 (bM h L)=oe at hob hol hz ⊢;obtain⟨o,e⟩:=oe;simp only at hob hol hz ⊢;refine nZ Tryz.func43 Tryz.results43 (h:=?_);refine rs ?_;refine rc (lL hob) ?_;refine rS ?_;by_cases he:e=0
 ·subst he;rw[if_pos rfl];obtain⟨r,_,ho⟩:=hz rfl;have h1l:1<=o.length:=by rw[ho];simp
  refine cf ?_;refine sk ?_;have hn:=l8 o 1 h1l (by omega);rcases rH h1l with⟨g1,g2⟩|⟨m,p0,g1,g2,g3,g4,g5,g6⟩
  ·have hno:tv (o.drop 1)=none:=by unfold tv;rw[g2]
   rw[hno];generalize kF 1 (o.drop 1)=q at hn g1;obtain⟨a,b,c⟩:=q;simp only at g1 hn;subst g1;refine rc (b1 hn) ?_;refine rS ?_;refine ct ?_;refine rs ?_;refine cv [(4,some (sl ([]:List (En false)))),(5,some (.int .i64 ((11:Nat):Int)))] [(0,some (cd L))] 2 ?_;refine rt ?_;exact⟨rfl,by simp(disch:=decide) only[ae,ab,aa]⟩
  have hye:tv (o.drop 1)=nA m (-1) (o.drop p0):=by unfold tv;rw[g2,g3]
  rw[hye];rw[g1]at hn;refine rc (b1 hn) ?_;refine rS ?_;refine cf ?_;refine sk ?_;refine rs ?_;refine rs ?_;refine rS ?_;generalize hR:nA m (-1) (o.drop p0)=R;refine fo (fun x:Nat×Int×mG×Nat=>⟨ao [(6,some (.string (str o))),(8,some (.int .i64 (m:Nat))),(9,some (.int .i64 (x.2.2.2:Nat))),(11,some (gs 2 aq (eh false x.2.2.1))),(12,some (.int .i64 x.2.1)),(13,some (.int .i64 (x.1:Nat)))],wd [(0,some (cd L)),(2,some (ro 103 (eh false x.2.2.1)))] 3 [] 0,[]⟩)
   (fun x=>x.1<=m/\x.2.2.2<=o.length/\x.2.2.1.length<=x.2.2.2/\R=(nA (m-x.1) x.2.1 (o.drop x.2.2.2)).map (x.2.2.1++·)) (fun x=>o.length-x.2.2.2) (0,-1,[],p0) ⟨abW _,g5,abW _,by rw[<-hR];simp⟩ (fun x hv hc=>?_) (fun x hv hc=>?_)
  ·obtain⟨j,last,acc,p⟩:=x;obtain⟨v1,v2,v3,v4⟩:=hv;simp only at hc v1 v2 v3 v4;refine bs ?_;have hnp:=l8 o p v2 (by omega);rw[show m-j=(m-(j+1))+1 by omega,nA]at v4;rcases rH v2 with⟨g1,g2⟩|⟨k,p1,g1,g2,g3,g4,g5,g6⟩
   ·rw[g2]at v4;have v5:R=none:=v4;generalize kF p (o.drop p)=q at hnp g1;obtain⟨a,b,c⟩:=q;simp only at g1 hnp;subst g1;refine rc (b1 hnp) ?_;refine ai (rf (p:=True) trivial ?_);refine ct ?_;refine rs ?_;refine cv [(4,some (sl ([]:List (En false)))),(5,some (.int .i64 ((11:Nat):Int)))] [(0,some (cd L))] 3 ?_;refine rt ?_;rw[v5];exact⟨rfl,by simp(disch:=decide) only[ae,ab,aa]⟩
   rw[g2,g3]at v4;simp only at v4;rw[g1]at hnp;refine rc (b1 hnp) ?_;rw[abT]at v4;by_cases c1:last<(k:Int)
   ·have d1:decide ((k:Int)<=last)=false:=decide_eq_false (by omega);by_cases c2:k<576460752303423488
    ·have d2:decide (((576460752303423488:Nat):Int)<=(k:Int))=false:=decide_eq_false (by omega);by_cases c3:p1+32<=o.length
     ·have d3:decide (((o.length:Nat):Int)<((p1+32:Nat):Int))=false:=decide_eq_false (by omega);rw[if_pos ⟨c1,c2,by omega⟩]at v4;refine ai (rf (And.intro d1 (And.intro d2 d3)) ?_);refine cf ?_;refine sk ?_;refine rs ?_;have hs32:32<=(o.drop p1).length:=by rw[abT];omega
      refine cv [(6,some (.string (str o))),(8,some (.int .i64 (m:Nat))),(9,some (.int .i64 (p:Nat))),(11,some (gs 2 aq (eh false acc))),(12,some (.int .i64 last)),(13,some (.int .i64 (j:Nat))),(14,some (.int .i64 (k:Nat))),(15,some (.int .i64 (p1:Nat))),(17,some (.pointer (some ⟨3,0,none⟩)))] [(0,some (cd L)),(2,some (ro 103 (eh false acc))),(3,some (.cells (pi k (o.drop p1) 0) 103 (0,0)))] 4 ?_;refine rS ?_;refine fo (fun i:Nat=>⟨ao ([(6,some (.string (str o))),(8,some (.int .i64 (m:Nat))),(9,some (.int .i64 (p:Nat))),(11,some (gs 2 aq (eh false acc))),(12,some (.int .i64 last)),(13,some (.int .i64 (j:Nat))),(14,some (.int .i64 (k:Nat))),(15,some (.int .i64 (p1:Nat))),(17,some (.pointer (some ⟨3,0,none⟩))),(18,some (.int .i64 (i:Nat)))]),wd [(0,some (cd L)),(2,some (ro 103 (eh false acc))),(3,some (.cells (pi k (o.drop p1) i) 103 (0,0)))] 4 [] 0,[]⟩) (fun i=>i<=32) (fun i=>32-i) 0 (by decide) (fun i hv hi=>?_) (fun i hv hi=>?_)
      ·have hlen:=Hm (k:=k) hv hs32;refine bs (Al hlen ?_);have hby:Value.int .u8 ((o[p1+i]'(by omega)).toNat:Int)=bv ((o.drop p1)[i]'(by omega)):=by rw[List.getElem_drop];rfl
       rw[Nat.mul_one,hby,Tc (by omega) hs32];refine rl ?_;exact nx (i+1) (by show i+1<=32;omega) (by show 32-(i+1)<32-i;omega)
      obtain rfl:i=32:=by omega
      have h32:pi k (o.drop p1) 32=.int .i64 (k:Nat)::an (zY (o.drop p1)).1:=by unfold pi;rw[FG hs32];simp[an]
      rw[h32];have hla:(eh false acc).length=acc.length:=ab1 _;generalize zY (o.drop p1)=hh at v4;show ar _ _ _ _ _ _;refine rs ?_;refine rs ?_;refine rl ?_;refine rl ?_;refine nx (j+1,(k:Int),acc++[(k,hh)],p1+32) ⟨by show j+1<=m;omega,c3,by show(acc++[(k,hh)]).length<=p1+32;rw[abP,ab5];omega,?_⟩ (by show o.length-(p1+32)<o.length-p;omega) ?_
      ·rw[v4,acG,Option.map_map];congr 1;funext l;simp
      show bz _ _ _ ⟨ao [(6,some (.string (str o))),(8,some (.int .i64 (m:Nat))),(9,some (.int .i64 ((p1+32:Nat):Int))),(11,some (gs 2 aq (eh false (acc++[(k,hh)])))),(12,some (.int .i64 (k:Int))),(13,some (.int .i64 ((j+1:Nat):Int)))],wd [(0,some (cd L)),(2,some (ro 103 (eh false (acc++[(k,hh)]))))] 3 [] 0,[]⟩;rw[show eh false (acc++[(k,hh)])=eh false acc++[(⟨k,hh⟩:En false)] by unfold eh;rw[acn];rfl];exact fb [(0,0),(5,2)]
     have d3:decide (((o.length:Nat):Int)<((p1+32:Nat):Int))=true:=decide_eq_true (by omega);rw[if_neg (by omega)]at v4;have v5:R=none:=v4;refine ai (rf (And.intro d1 (And.intro d2 d3)) ?_);refine ct ?_;refine rs ?_;refine cv [(4,some (sl ([]:List (En false)))),(5,some (.int .i64 ((11:Nat):Int)))] [(0,some (cd L))] 3 ?_;refine rt ?_;rw[v5];exact⟨rfl,by simp(disch:=decide) only[ae,ab,aa]⟩
    have d2:decide (((576460752303423488:Nat):Int)<=(k:Int))=true:=decide_eq_true (by omega);rw[if_neg (by omega)]at v4;have v5:R=none:=v4;refine ai (rf (And.intro d1 d2) ?_);refine ct ?_;refine rs ?_;refine cv [(4,some (sl ([]:List (En false)))),(5,some (.int .i64 ((11:Nat):Int)))] [(0,some (cd L))] 3 ?_;refine rt ?_;rw[v5];exact⟨rfl,by simp(disch:=decide) only[ae,ab,aa]⟩
   have d1:decide ((k:Int)<=last)=true:=decide_eq_true (by omega);rw[if_neg (by omega)]at v4;have v5:R=none:=v4;refine ai (rf d1 ?_);refine ct ?_;refine rs ?_;refine cv [(4,some (sl ([]:List (En false)))),(5,some (.int .i64 ((11:Nat):Int)))] [(0,some (cd L))] 3 ?_;refine rt ?_;rw[v5];exact⟨rfl,by simp(disch:=decide) only[ae,ab,aa]⟩
  obtain⟨j,last,acc,p⟩:=x;obtain⟨v1,v2,v3,v4⟩:=hv;simp only at hc v1 v2 v3 v4;have hj:m-j=0:=by omega
  rw[hj,nA]at v4;have hla:(eh false acc).length=acc.length:=ab1 _;show ar _ _ _ _ _ _;refine rS ?_;by_cases hp:p=o.length
  ·rw[aco (by omega),if_pos rfl]at v4;have v5:R=some acc:=by rw[v4];simp
   refine cf ?_;refine sk ?_;refine rs ?_;refine cv [(4,some (sl (eh false acc))),(5,some (.int .i64 ((0:Nat):Int)))] [(0,some (cd L))] 3 ?_ (hl:=fz 2);refine rt ?_;rw[v5];exact⟨rfl,by simp(disch:=decide) only[ae,ab,aa]⟩
  have hne:o.drop p≠[]:=fun e=>by have:=congrArg List.length e;rw[abT]at this;simp at this;omega
  rw[if_neg hne]at v4;have v5:R=none:=v4;refine ct ?_;refine rs ?_;refine cv [(4,some (sl ([]:List (En false)))),(5,some (.int .i64 ((11:Nat):Int)))] [(0,some (cd L))] 3 ?_;refine rt ?_;rw[v5];exact⟨rfl,by simp(disch:=decide) only[ae,ab,aa]⟩
 rw[if_neg he];refine ct ?_;refine rs ?_;refine cv [(4,some (sl ([]:List (En false)))),(5,some (.int .i64 (e:Nat)))] [(0,some (cd L))] 2 ?_;refine rt ?_;exact⟨rfl,by simp(disch:=decide) only[ae,ab,aa]⟩
theorem GL:∀(m:Nat) (last:Int) (s:List UInt8) (l:mG),nA m last s=some l->33*l.length<=s.length
 |0,_,s,l,h=>by
  unfold nA at h;split at h
  ·cases h;exact abW _
  cases h
 |m+1,last,s,l,h=>by
  unfold nA at h;split at h
  ·cases h
  rename_i k hk;split at h
  ·rename_i hc;obtain⟨l',h1,rfl⟩:=Option.map_eq_some_iff.1 h;have h2:=GL m _ _ l' h1;have h3:=ed 9 0 0 s;rw[abT]at h2;have h4:(aw s).2.length<s.length:=(kH 9 0 0 s k rfl acZ hk).2;have h5:=hc.2.2;rw[List.length_cons];omega
  cases h
theorem lC{g:Option (List UInt8)}{n:Nat}(h:∀t,g=some t->t.length<=n):33*(cz g).1.length<=n:=by
 have ho:=oP (kd:=2) h;unfold cz;split
 ·generalize(eX 2 g).1=o at ho;cases hx:tv (o.drop 1)with
  |none=>exact abW _
  |some l=>
   show 33*l.length<=n;unfold tv at hx;split at hx
   ·cases hx
   have h1:=GL _ _ _ _ hx;have h3:(aw (o.drop 1)).2.length<=(o.drop 1).length:=ed 9 0 0 (o.drop 1);rw[abT]at h3;omega
 exact abW _
theorem vc{r:Bool}{l:mG}:(eh r l).length=l.length:=ab1 _
theorem uW{r:Bool}{l:mG}{i:Nat}(h:i<l.length):(eh r l).getD i default=⟨(l.getD i (0,hZ)).1,(l.getD i (0,hZ)).2⟩:=by
 unfold eh;rw[abV,acE,abS h,abV,abS h];rfl
theorem IB(L:List Oj)(h:HB)(hL:L.length<=1000000)(hb:∀t,bM h L=some t->t.length<=10000000):Fo Tryz.prog 22 [bu h] (cd L) (.ret (.tuple #[sl ((cz (bM h L)).1.map (·.2)),.int .i64 ((cz (bM h L)).2:Nat)])) (cd L):=by
 have htr:=GN L h hL hb;have hln:=lC hb;generalize cz (bM h L)=te at htr hln ⊢;obtain⟨l,e⟩:=te;simp only at htr hln ⊢;refine nZ Tryz.func22 Tryz.results22 (h:=?_);refine rs ?_;refine rc (lL htr) ?_;refine rs ?_;refine rS ?_;have hel:=vc (r:=false) (l:=l);refine fo (fun i:Nat=>⟨ao [(6,some (sl (eh false l))),(7,some (.int .i64 (e:Nat))),(8,some (gs 2 aq ((l.take i).map (·.2)))),(9,some (.int .i64 (i:Nat)))],wd [(0,some (cd L)),(2,some (ro 24 ((l.take i).map (·.2))))] 3 [] 0,[]⟩) (fun i=>i<=l.length) (fun i=>l.length-i) 0 (abW _) (fun i hv h=>?_) (fun i hv h=>?_)
 ·have he:=uW (r:=false) (l:=l) (i:=i) (by omega);have e2:(l.take (i+1)).map (·.2)=(l.take i).map (·.2)++[(l.getD i (0,hZ)).2]:=by
   rw[List.take_succ,acn,abV,abS (by omega)];rfl
  have hlm:((l.take i).map (·.2)).length=i:=by rw[ab1,abR];omega
  generalize(l.getD i (0,hZ))=x at he e2;obtain⟨k,hh⟩:=x;simp only at he e2;refine bs (Al (And.intro he hlm) ?_);refine rl ?_;refine nx (i+1) (by omega) (by omega) ?_;rw[e2];exact fb [(0,0),(4,2)]
 rw[show i=l.length by omega,List.take_length];have hml:(l.map (·.2)).length=l.length:=ab1 _;show ar _ _ _ _ _ _;refine rs ?_;refine cv [(4,some (sl (l.map (·.2)))),(5,some (.int .i64 (e:Nat)))] [(0,some (cd L))] 3 ?_ (hl:=fz 2);refine rt ?_;exact⟨rfl,by simp(disch:=decide) only[ae,ab,aa]⟩
def mA:Nat->Int->List UInt8->List Sd->List Sd×Option (List UInt8)
 |0,_,s,acc=>(acc,some s)
 |m+1,last,s,acc=>match(aw s).1 with
  |none=>(acc,none)
  |some d=>if(d:Int)<=last then(acc,none)else match(aw (aw s).2).1 with
   |none=>(acc,none)
   |some g=>if 1<g then(acc,none)else mA m d (aw (aw s).2).2 (acc++[(((d:Nat):Int),((1:Nat):Int)-((2*g:Nat):Int))])
abbrev DD:Ce:=⟨0,0,[]⟩
def gG(k:Nat)(s:List UInt8):Ce×Option (List UInt8):=match(aw s).1 with
 |none=>(DD,none)
 |some a=>if 16<=a then(DD,none)else match(aw (aw s).2).1 with
  |none=>(DD,none)
  |some b=>match(aw (aw (aw s).2).2).1 with
   |none=>(DD,none)
   |some m=>(⟨((16*k+a:Nat):Int),((b:Nat):Int),(mA m (-1) (aw (aw (aw s).2).2).2 []).1⟩,(mA m (-1) (aw (aw (aw s).2).2).2 []).2)
def leV(o:List UInt8):Option (List UInt8)->Nat
 |some r=>o.length-r.length
 |none=>0
theorem My{θ:Nat->Option Nat}{a b:Int}{fr:Nat×Nat}:TO Tryz.prog (aP θ) (.cells [.int .i64 a,.int .i64 b,.slice none 0 0] 58 fr) (.cells [.int .i64 a,.int .i64 b,sl ([]:List Sd)] 58 fr):=cm (av ((inferInstance:Br (.int .i64 _)).h _ aj) (av ((inferInstance:Br (.int .i64 _)).h _ aj) (av (fun ρ ρ' x _ hv=>by rw[hv.of_flat 1 rfl];exact .frzE _ _) aR)))
abbrev xn(a b:Int)(l:List Sd):ah:=.cells [.int .i64 a,.int .i64 b,sl l] 58 (0,0)
set_option maxHeartbeats 1000000 in
theorem RL(o:List UInt8)(p k:Nat)(hp:p<=o.length)(ho:o.length<=1000000)(hk:k<576460752303423488):Fn Tryz.prog 83 [.string (str o),.int .i64 (p:Nat),.int .i64 (k:Nat)] (.ret (.tuple #[jA (gG k (o.drop p)).1,.int .i64 (leV o (gG k (o.drop p)).2:Nat),.bool (gG k (o.drop p)).2.isSome])):=by
 refine fY Tryz.func83 Tryz.results83 (h:=?_);refine rs ?_;refine rs ?_;refine cv [(0,some (.string (str o))),(1,some (.int .i64 (p:Nat))),(2,some (.int .i64 (k:Nat))),(6,some (.pointer (some ⟨0,0,none⟩))),(9,some (.pointer (some ⟨1,0,none⟩)))] [(0,some (xn 0 0 [])),(1,some (xn 0 0 []))] 2 ?_ (hl:=fb [(0,0),(1,1)] (hL:=aN 0 (by repeat (first|exact ab|refine Eq.trans (aa (by decide)) ?_)) (by decide) (by decide) (by repeat (first|exact ab|refine Eq.trans (aa (by decide)) ?_)) My (aN 1 (by repeat (first|exact ab|refine Eq.trans (aa (by decide)) ?_)) (by decide) (by decide) (by repeat (first|exact ab|refine Eq.trans (aa (by decide)) ?_)) My dP)));generalize hE:gG k (o.drop p)=E;unfold gG at hE;have hng:=l8 o p (by omega) (by omega);rcases rH (o:=o) (p:=p) (by omega)with⟨g1,g2⟩|⟨a,p1,g1,g2,g3,g4,g5,g6⟩
 ·rw[g2]at hE;generalize kF p (o.drop p)=q at hng g1;obtain⟨x,y,z⟩:=q;simp only at g1 hng;subst g1;refine rc (b1 hng) ?_;refine rS ?_;refine ct ?_;refine rs ?_;refine rt ?_;rw[<-hE];rfl
 rw[g2,g3]at hE;simp only at hE;rw[g1]at hng;refine rc (b1 hng) ?_;by_cases c1:16<=a
 ·rw[if_pos c1]at hE;have d1:decide (((16:Nat):Int)<=((a:Nat):Int))=true:=decide_eq_true (by omega);refine ai (rf d1 ?_);refine ct ?_;refine rs ?_;refine rt ?_;rw[<-hE];rfl
 rw[if_neg c1]at hE;have d1:decide (((16:Nat):Int)<=((a:Nat):Int))=false:=decide_eq_false (by omega);refine ai (rf d1 ?_);refine cf ?_;refine sk ?_;have hnh:=l8 o p1 (by omega) (by omega);rcases rH (o:=o) (p:=p1) (by omega)with⟨h1,h2⟩|⟨b,p2,h1,h2,h3,h4,h5,h6⟩
 ·rw[h2]at hE;generalize kF p1 (o.drop p1)=q at hnh h1;obtain⟨x,y,z⟩:=q;simp only at h1 hnh;subst h1;refine rc (b1 hnh) ?_;refine rS ?_;refine ct ?_;refine rs ?_;refine rt ?_;rw[<-hE];rfl
 rw[h2,h3]at hE;simp only at hE;rw[h1]at hnh;refine rc (b1 hnh) ?_;refine rS ?_;refine cf ?_;refine sk ?_;have hnk:=l8 o p2 (by omega) (by omega);rcases rH (o:=o) (p:=p2) (by omega)with⟨k1,k2⟩|⟨m,p3,k1,k2,k3,k4,k5,k6⟩
 ·rw[k2]at hE;generalize kF p2 (o.drop p2)=q at hnk k1;obtain⟨x,y,z⟩:=q;simp only at k1 hnk;subst k1;refine rc (b1 hnk) ?_;refine rS ?_;refine ct ?_;refine rs ?_;refine rt ?_;rw[<-hE];rfl
 rw[k2,k3]at hE;simp only at hE;rw[k1]at hnk;refine rc (b1 hnk) ?_;refine rS ?_;refine cf ?_;refine sk ?_;refine rs ?_;refine rs ?_;refine rS ?_;have hx0:E=(⟨((16*k+a:Nat):Int),((b:Nat):Int),(mA m (-1) (o.drop p3) []).1⟩,(mA m (-1) (o.drop p3) []).2):=hE.symm;clear hE;generalize hF:mA m (-1) (o.drop p3) []=F at hx0;subst hx0;refine fo (fun x:Nat×Int×List Sd×Nat=>⟨ao [(0,some (.string (str o))),(1,some (.int .i64 (x.2.2.2:Nat))),(6,some (.pointer (some ⟨0,0,none⟩))),(9,some (.pointer (some ⟨1,0,none⟩))),(14,some (.int .i64 (m:Nat))),(16,some (.int .i64 x.2.1)),(17,some (.int .i64 (x.1:Nat)))],wd [(0,some (xn 0 0 [])),(1,some (.cells [.int .i64 ((16*k+a:Nat):Int),.int .i64 ((b:Nat):Int),gs 2 aq x.2.2.1] 58 (0,0))),(2,some (ro 60 x.2.2.1))] 3 [] 0,[]⟩)
  (fun x=>x.1<=m/\x.2.2.2<=o.length/\x.2.2.1.length<=x.2.2.2/\mA (m-x.1) x.2.1 (o.drop x.2.2.2) x.2.2.1=F) (fun x=>o.length-x.2.2.2) (0,-1,[],p3) ⟨abW _,k5,abW _,hF⟩ (fun x hv hc=>?_) (fun x hv hc=>?_) (h0:=?_)
 ·obtain⟨j,last,acc,q⟩:=x;obtain⟨v1,v2,v3,v4⟩:=hv;simp only at hc v1 v2 v3 v4;rw[show m-j=(m-(j+1))+1 by omega,mA]at v4;refine bs ?_;have hne:=l8 o q (by omega) (by omega);rcases rH (o:=o) (p:=q) (by omega)with⟨e1,e2⟩|⟨d,q1,e1,e2,e3,e4,e5,e6⟩
  ·rw[e2]at v4;generalize kF q (o.drop q)=u at hne e1;obtain⟨x,y,z⟩:=u;simp only at e1 hne;subst e1;refine rc (b1 hne) ?_;have v5:(acc,none)=F:=v4;refine rS ?_;refine ct ?_;refine rs ?_;refine cv [(6,some (.pointer (some ⟨0,0,none⟩))),(7,some (.int .i64 ((0:Nat):Int))),(8,some (.bool false))] [(0,some (xn ((16*k+a:Nat):Int) ((b:Nat):Int) acc))] 3 ?_ (hl:=fz 2);refine rt ?_;rw[<-v5];rfl
  rw[e2,e3]at v4;simp only at v4;rw[e1]at hne;refine rc (b1 hne) ?_;by_cases c1:(d:Int)<=last
  ·rw[if_pos c1]at v4;have d1:decide ((d:Int)<=last)=true:=decide_eq_true (by omega);have v5:(acc,none)=F:=v4;refine ai (rf d1 ?_);refine ct ?_;refine rs ?_;refine cv [(6,some (.pointer (some ⟨0,0,none⟩))),(7,some (.int .i64 ((0:Nat):Int))),(8,some (.bool false))] [(0,some (xn ((16*k+a:Nat):Int) ((b:Nat):Int) acc))] 3 ?_ (hl:=fz 2);refine rt ?_;rw[<-v5];rfl
  rw[if_neg c1]at v4;have d1:decide ((d:Int)<=last)=false:=decide_eq_false (by omega);refine ai (rf d1 ?_);refine cf ?_;refine sk ?_;have hnf:=l8 o q1 (by omega) (by omega);rcases rH (o:=o) (p:=q1) (by omega)with⟨f1,f2⟩|⟨s,q2,f1,f2,f3,f4,f5,f6⟩
  ·rw[f2]at v4;generalize kF q1 (o.drop q1)=u at hnf f1;obtain⟨x,y,z⟩:=u;simp only at f1 hnf;subst f1;refine rc (b1 hnf) ?_;have v5:(acc,none)=F:=v4;refine rS ?_;refine ct ?_;refine rs ?_;refine cv [(6,some (.pointer (some ⟨0,0,none⟩))),(7,some (.int .i64 ((0:Nat):Int))),(8,some (.bool false))] [(0,some (xn ((16*k+a:Nat):Int) ((b:Nat):Int) acc))] 3 ?_ (hl:=fz 2);refine rt ?_;rw[<-v5];rfl
  rw[f2,f3]at v4;simp only at v4;rw[f1]at hnf;refine rc (b1 hnf) ?_;by_cases c2:1<s
  ·rw[if_pos c2]at v4;have d2:decide (((1:Nat):Int)<((s:Nat):Int))=true:=decide_eq_true (by omega);have v5:(acc,none)=F:=v4;refine ai (rf d2 ?_);refine ct ?_;refine rs ?_;refine cv [(6,some (.pointer (some ⟨0,0,none⟩))),(7,some (.int .i64 ((0:Nat):Int))),(8,some (.bool false))] [(0,some (xn ((16*k+a:Nat):Int) ((b:Nat):Int) acc))] 3 ?_ (hl:=fz 2);refine rt ?_;rw[<-v5];rfl
  rw[if_neg c2]at v4;have d2:decide (((1:Nat):Int)<((s:Nat):Int))=false:=decide_eq_false (by omega);refine ai (rf d2 ?_);refine cf ?_;refine sk ?_;refine rs ?_;refine rs ?_;refine rl ?_;refine rl ?_;refine nx (j+1,(d:Int),acc++[(((d:Nat):Int),((1:Nat):Int)-((2*s:Nat):Int))],q2) ⟨by show j+1<=m;omega,by show q2<=_;omega,by show(acc++_).length<=q2;rw[abP,ab5];omega,v4⟩ (by show o.length-q2<o.length-q;omega) ?_;exact fb [(0,0),(1,1),(4,2)]
 ·obtain⟨j,last,acc,q⟩:=x;obtain⟨v1,v2,v3,v4⟩:=hv;simp only at hc v1 v2 v3 v4;have hj:m-j=0:=by omega
  rw[hj,mA]at v4;subst v4;show ar _ _ _ _ _ _;refine rs ?_;refine cv [(6,some (.pointer (some ⟨0,0,none⟩))),(7,some (.int .i64 (q:Nat))),(8,some (.bool true))] [(0,some (xn ((16*k+a:Nat):Int) ((b:Nat):Int) acc))] 3 ?_ (hl:=fz 2);refine rt ?_;rw[show leV o (some (o.drop q))=q by show o.length-(o.drop q).length=q;rw[abT];omega];rfl
 exact mO (wW (m:=2) (o:=ro 60 ([]:List Sd)) (by decide) (by decide)) (fb [(0,0),(1,1),(2,2)])
def kA(k:Nat):Nat->Int->List UInt8->Option (List Ce)
 |0,_,s=>if s=[]then some []else none
 |m+1,last,s=>match(gG k s).2 with
  |none=>none
  |some r=>if(gG k s).1.id<=last then none else(kA k m (gG k s).1.id r).map ((gG k s).1::·)
def Am(k:Nat)(s:List UInt8):Option (List Ce):=match(aw s).1 with
 |none=>none
 |some k'=>if k'=k then(match(aw (aw s).2).1 with
  |none=>none
  |some n=>if n=0 then none else kA k n (-1) (aw (aw s).2).2)else none
def dM(k:Nat)(g:Option (List UInt8)):List Ce×Nat:=if(eX 1 g).2=0 then Uy (Am k ((eX 1 g).1.drop 1))else([],(eX 1 g).2)
abbrev Ks(k:Nat)(h:HB):Value:=.agg (.int .i64 (k:Nat)::an h.1).toArray
@[go_sem] theorem cut_hk {h:HB} {v:Value}:gA Tryz.prog 24 (v::an h.1) 1=some (bu h):=by
 unfold gA;rw[H8,OY];show(bif Nat.beq (((v::an h.1).drop 1).take 32).length 32 then some (Value.agg (((v::an h.1).drop 1).take 32).toArray)else none)=_;rw[List.drop_succ_cons,List.drop_zero,List.take_of_length_le (by rw[db,h.2];exact Nat.le_refl _),db,h.2];rfl
def iq(l:List Ce):Int:=match l.getLast? with
 |some c=>c.id
 |none=>-1
theorem p8{l:List Ce}{c:Ce}:iq (l++[c])=c.id:=by unfold iq;rw[List.getLast?_append];rfl
theorem G1:∀(m:Nat) (last:Int) (s:List UInt8) (acc:List Sd),(mA m last s acc).1.length<=acc.length+s.length/\∀r,(mA m last s acc).2=some r->r.length<=s.length/\∃n,r=s.drop n
 |0,_,s,acc=>⟨ac9 _ _,fun r h=>by cases h;exact⟨Nat.le_refl _,0,rfl⟩⟩
 |m+1,last,s,acc=>by
  have h1:(aw s).2.length<=s.length:=ed 9 0 0 s;have h2:(aw (aw s).2).2.length<=(aw s).2.length:=ed 9 0 0 _;unfold mA;split
  ·exact⟨ac9 _ _,fun r h=>(by cases h)⟩
  rename_i d hd;obtain⟨_,hlt⟩:=kH 9 0 0 s d rfl acZ hd;obtain⟨j1,_,e1,_⟩:=oY 9 0 0 0 s d hd;have hlt:(aw s).2.length<s.length:=hlt;split
  ·exact⟨ac9 _ _,fun r h=>(by cases h)⟩
  split
  ·exact⟨ac9 _ _,fun r h=>(by cases h)⟩
  rename_i g hg;obtain⟨j2,_,e2,_⟩:=oY 9 0 0 0 _ g hg;split
  ·exact⟨ac9 _ _,fun r h=>(by cases h)⟩
  obtain⟨a,b⟩:=G1 m d (aw (aw s).2).2 (acc++[(((d:Nat):Int),((1:Nat):Int)-((2*g:Nat):Int))]);rw[abP,ab5]at a;refine⟨by omega,fun r hr=>?_⟩;obtain⟨c1,n,c2⟩:=b r hr;refine⟨by omega,j1+(j2+n),?_⟩;rw[c2,show(aw (aw s).2).2=_ from e2,show(aw s).2=_ from e1,acG,acG]
theorem GS(k:Nat)(s:List UInt8):(gG k s).1.sd.length<=s.length/\∀r,(gG k s).2=some r->r.length<s.length/\(∃n,r=s.drop n)/\∃a:Nat,a<16/\(gG k s).1.id=((16*k+a:Nat):Int):=by
 have h1:(aw s).2.length<=s.length:=ed 9 0 0 s;have h2:(aw (aw s).2).2.length<=(aw s).2.length:=ed 9 0 0 _;have h3:(aw (aw (aw s).2).2).2.length<=(aw (aw s).2).2.length:=ed 9 0 0 _;unfold gG;split
 ·exact⟨abW _,fun r h=>(by cases h)⟩
 rename_i a ha;obtain⟨j1,_,e1,_⟩:=oY 9 0 0 0 s a ha;have hlt:(aw s).2.length<s.length:=(kH 9 0 0 s a rfl acZ ha).2;split
 ·exact⟨abW _,fun r h=>(by cases h)⟩
 split
 ·exact⟨abW _,fun r h=>(by cases h)⟩
 rename_i b hb;obtain⟨j2,_,e2,_⟩:=oY 9 0 0 0 _ b hb;split
 ·exact⟨abW _,fun r h=>(by cases h)⟩
 rename_i m hm;obtain⟨j3,_,e3,_⟩:=oY 9 0 0 0 _ m hm;obtain⟨a1,b1⟩:=G1 m (-1) (aw (aw (aw s).2).2).2 [];rw[List.length_nil]at a1;refine⟨by show(mA _ _ _ _).1.length<=_;omega,fun r hr=>?_⟩;obtain⟨c1,n,c2⟩:=b1 r hr;refine⟨by omega,⟨j1+(j2+(j3+n)),?_⟩,a,by omega,rfl⟩;rw[c2,show(aw (aw (aw s).2).2).2=_ from e3,show(aw (aw s).2).2=_ from e2,show(aw s).2=_ from e1,acG,acG,acG]
set_option maxHeartbeats 1000000 in
theorem JZ(L:List Oj)(k:Nat)(h:HB)(hL:L.length<=1000000)(hk:k<576460752303423488)(hb:∀t,bM h L=some t->t.length<=1000000):Fo Tryz.prog 44 [Ks k h] (cd L) (.ret (.tuple #[sl (dM k (bM h L)).1,.int .i64 ((dM k (bM h L)).2:Nat)])) (cd L):=by
 have hob:Fo Tryz.prog 81 [bu h,.int .u8 ((1:Nat):Int)] (cd L) (.ret (.tuple #[.string (str (eX 1 (bM h L)).1),.int .i64 ((eX 1 (bM h L)).2:Nat)])) (cd L):=AB L h 1 hL;have hol:=oP (kd:=1) hb;have hz:=s5 (kd:=1) (g:=bM h L);unfold dM;generalize eX 1 (bM h L)=oe at hob hol hz ⊢;obtain⟨o,e⟩:=oe;simp only at hob hol hz ⊢;refine nZ Tryz.func44 Tryz.results44 (h:=?_);refine rs ?_;refine rc (lL hob) ?_;refine rS ?_;by_cases he:e=0
 ·subst he;rw[if_pos rfl];obtain⟨r,_,ho⟩:=hz rfl;have h1l:1<=o.length:=by rw[ho];simp
  refine cf ?_;refine sk ?_;generalize hE:Am k (o.drop 1)=E;unfold Am at hE;have hng:=l8 o 1 (by omega) (by omega);rcases rH (o:=o) (p:=1) (by omega)with⟨g1,g2⟩|⟨k',p1,g1,g2,g3,g4,g5,g6⟩
  ·rw[g2]at hE;generalize kF 1 (o.drop 1)=u at hng g1;obtain⟨x,y,z⟩:=u;simp only at g1 hng;subst g1;refine rc (b1 hng) ?_;refine rS ?_;refine ct ?_;refine rs ?_;refine cv [(4,some (sl ([]:List Ce))),(5,some (.int .i64 ((11:Nat):Int)))] [(0,some (cd L))] 2 ?_;refine rt ?_;rw[<-hE];exact⟨rfl,by simp(disch:=decide) only[ae,ab,aa]⟩
  rw[g2,g3]at hE;simp only at hE;rw[g1]at hng;refine rc (b1 hng) ?_;by_cases c1:k'=k
  ·obtain rfl:=c1.symm;rw[if_pos rfl]at hE;have d1:(((k:Nat):Int) !=((k:Nat):Int))=false:=by simp
   have d1':decide (((k:Nat):Int)=((k:Nat):Int))=true:=by simp
   refine ai (rf (And.intro d1 d1') ?_);refine cf ?_;refine sk ?_;have hnf:=l8 o p1 (by omega) (by omega);rcases rH (o:=o) (p:=p1) (by omega)with⟨f1,f2⟩|⟨n,p2,f1,f2,f3,f4,f5,f6⟩
   ·rw[f2]at hE;generalize kF p1 (o.drop p1)=u at hnf f1;obtain⟨x,y,z⟩:=u;simp only at f1 hnf;subst f1;refine rc (b1 hnf) ?_;refine rS ?_;refine ct ?_;refine rs ?_;refine cv [(4,some (sl ([]:List Ce))),(5,some (.int .i64 ((11:Nat):Int)))] [(0,some (cd L))] 2 ?_;refine rt ?_;rw[<-hE];exact⟨rfl,by simp(disch:=decide) only[ae,ab,aa]⟩
   rw[f2,f3]at hE;simp only at hE;rw[f1]at hnf;refine rc (b1 hnf) ?_;by_cases c2:n=0
   ·rw[if_pos c2]at hE;have d2:decide (((n:Nat):Int)=((0:Nat):Int))=true:=decide_eq_true (by omega);refine ai (rf d2 ?_);refine ct ?_;refine rs ?_;refine cv [(4,some (sl ([]:List Ce))),(5,some (.int .i64 ((11:Nat):Int)))] [(0,some (cd L))] 2 ?_;refine rt ?_;rw[<-hE];exact⟨rfl,by simp(disch:=decide) only[ae,ab,aa]⟩
   rw[if_neg c2]at hE;have d2:decide (((n:Nat):Int)=((0:Nat):Int))=false:=decide_eq_false (by omega);refine ai (rf d2 ?_);refine cf ?_;refine sk ?_;refine rs ?_;refine rS ?_;refine fo (fun x:Nat×List Ce×Nat=>⟨ao [(6,some (.string (str o))),(8,some (.int .i64 (k:Nat))),(9,some (.int .i64 (x.2.2:Nat))),(11,some (.int .i64 (n:Nat))),(12,some (gs 2 aq x.2.1)),(13,some (.int .i64 (x.1:Nat)))],wd [(0,some (cd L)),(2,some (ro 58 x.2.1))] 3 [] 0,[]⟩)
    (fun x=>x.1<=n/\x.2.2<=o.length/\x.2.1.length<=x.2.2/\x.2.1.length=x.1/\E=(kA k (n-x.1) (iq x.2.1) (o.drop x.2.2)).map (x.2.1++·)) (fun x=>o.length-x.2.2) (0,[],p2) ⟨abW _,f5,abW _,rfl,by rw[<-hE];simp[iq]⟩ (fun x hv hc=>?_) (fun x hv hc=>?_)
   ·obtain⟨j,acc,q⟩:=x;obtain⟨v1,v2,v3,v6,v4⟩:=hv;simp only at hc v1 v2 v3 v4 v6;rw[show n-j=(n-(j+1))+1 by omega,kA]at v4;have hce:=RL o q k v2 hol hk;refine bs ?_;obtain⟨g7,g8⟩:=GS k (o.drop q);generalize gG k (o.drop q)=cx at hce g7 g8 v4;obtain⟨c,rr⟩:=cx;rw[abT]at g7 g8;cases rr with
    |none=>
     refine rc (b1 hce) ?_;have v5:E=none:=v4;refine rD ?_;refine ct ?_;refine rs ?_;refine cv [(4,some (sl ([]:List Ce))),(5,some (.int .i64 ((11:Nat):Int)))] [(0,some (cd L))] 4 ?_;refine rt ?_;rw[v5];exact⟨rfl,by simp(disch:=decide) only[ae,ab,aa]⟩
    |some r=>
     obtain⟨g9,⟨n',hr⟩,a,ha,hid⟩:=g8 r rfl;simp only at hid v4 g7;have hrd:o.drop (o.length-r.length)=r:=by
      rw[acG]at hr;by_cases hle:q+n'<=o.length
      ·have:r.length=o.length-(q+n'):=by rw[hr,abT]
       rw[show o.length-r.length=q+n' by omega];exact hr.symm
      have h0:r=[]:=by rw[hr];exact aco (by omega)
      rw[h0];exact aco (by simp)
     refine rc (b1 hce) ?_;by_cases hj0:j=0
     ·have hl0:iq acc=-1:=by rw[show acc=[]from List.length_eq_zero_iff.1 (by omega)];rfl
      rw[hl0,if_neg (by rw[hid];omega)]at v4;have d4:decide (((0:Nat):Int)<((j:Nat):Int))=false:=decide_eq_false (by omega);refine LO d4 ?_;refine cf ?_;refine sk ?_;refine rs ?_;refine rl ?_;refine rl ?_;refine nx (j+1,acc++[c],o.length-r.length) ⟨by show j+1<=n;omega,by show o.length-r.length<=_;omega,by show(acc++[c]).length<=o.length-r.length;rw[abP,ab5];omega,by show(acc++[c]).length=j+1;rw[abP,ab5];omega,?_⟩ (by show o.length-(o.length-r.length)<o.length-q;omega) ?_
      ·show E=(kA k (n-(j+1)) (iq (acc++[c])) (o.drop (o.length-r.length))).map ((acc++[c])++·);rw[v4,hrd,p8,Option.map_map];congr 1;funext l;simp
      exact fb [(0,0),(5,2)]
     obtain⟨i,rfl⟩:∃i,j=i+1:=⟨j-1,by omega⟩;have hla:iq acc=(acc.getD i default).id:=by unfold iq;rw[List.getLast?_eq_getElem?,v6,acQ,abV,abS (by omega)];rfl
     rw[hla]at v4;by_cases c3:c.id<=(acc.getD i default).id
     ·rw[if_pos c3]at v4;have d3:decide (c.id<=(acc.getD (i+1-1) default).id)=true:=decide_eq_true c3;have v5:E=none:=v4;refine LO d3 ?_;refine ct ?_;refine rs ?_;refine cv [(4,some (sl ([]:List Ce))),(5,some (.int .i64 ((11:Nat):Int)))] [(0,some (cd L))] 4 ?_;refine rt ?_;rw[v5];exact⟨rfl,by simp(disch:=decide) only[ae,ab,aa]⟩
     rw[if_neg c3]at v4;have d3:decide (c.id<=(acc.getD (i+1-1) default).id)=false:=decide_eq_false c3;refine LO d3 ?_;refine cf ?_;refine sk ?_;refine rs ?_;refine rl ?_;refine rl ?_;refine nx (i+1+1,acc++[c],o.length-r.length) ⟨by show i+1+1<=n;omega,by show o.length-r.length<=_;omega,by show(acc++[c]).length<=o.length-r.length;rw[abP,ab5];omega,by show(acc++[c]).length=i+1+1;rw[abP,ab5];omega,?_⟩ (by show o.length-(o.length-r.length)<o.length-q;omega) ?_
     ·show E=(kA k (n-(i+1+1)) (iq (acc++[c])) (o.drop (o.length-r.length))).map ((acc++[c])++·);rw[v4,hrd,p8,Option.map_map];congr 1;funext l;simp
     exact fb [(0,0),(5,2)]
   obtain⟨j,acc,q⟩:=x;obtain⟨v1,v2,v3,v6,v4⟩:=hv;simp only at hc v1 v2 v3 v4 v6;have hj:n-j=0:=by omega
   rw[hj,kA]at v4;show ar _ _ _ _ _ _;refine rS ?_;by_cases hq:q=o.length
   ·rw[aco (by omega),if_pos rfl]at v4;have v5:E=some acc:=by rw[v4];simp
    refine cf ?_;refine sk ?_;refine rs ?_;refine cv [(4,some (sl acc)),(5,some (.int .i64 ((0:Nat):Int)))] [(0,some (cd L))] 3 ?_ (hl:=fz 2);refine rt ?_;rw[v5];exact⟨rfl,by simp(disch:=decide) only[ae,ab,aa]⟩
   have hne:o.drop q≠[]:=fun e=>by have:=congrArg List.length e;rw[abT]at this;simp at this;omega
   rw[if_neg hne]at v4;have v5:E=none:=v4;refine ct ?_;refine rs ?_;refine cv [(4,some (sl ([]:List Ce))),(5,some (.int .i64 ((11:Nat):Int)))] [(0,some (cd L))] 3 ?_;refine rt ?_;rw[v5];exact⟨rfl,by simp(disch:=decide) only[ae,ab,aa]⟩
  rw[if_neg c1]at hE;have d1:(((k':Nat):Int) !=((k:Nat):Int))=true:=by simp only[bne_iff_ne,ne_eq];omega
  have d1':decide (((k':Nat):Int)=((k:Nat):Int))=false:=decide_eq_false (by omega);refine ai (rf (And.intro d1 d1') ?_);refine ct ?_;refine rs ?_;refine cv [(4,some (sl ([]:List Ce))),(5,some (.int .i64 ((11:Nat):Int)))] [(0,some (cd L))] 2 ?_;refine rt ?_;rw[<-hE];exact⟨rfl,by simp(disch:=decide) only[ae,ab,aa]⟩
 rw[if_neg he];refine ct ?_;refine rs ?_;refine cv [(4,some (sl ([]:List Ce))),(5,some (.int .i64 (e:Nat)))] [(0,some (cd L))] 2 ?_;refine rt ?_;exact⟨rfl,by simp(disch:=decide) only[ae,ab,aa]⟩
def dX(g:HB->Option (List UInt8)):mG->List Ce×Nat
 |[]=>([],0)
 |x::l=>if(dM x.1 (g x.2)).2=0 then(if(dX g l).2=0 then((dM x.1 (g x.2)).1++(dX g l).1,0)else([],(dX g l).2))else([],(dM x.1 (g x.2)).2)
noncomputable def vH(g:HB->Option (List UInt8))(h:HB):List Ce×Int:=if(cz (g h)).2=0 then(if(dX g (cz (g h)).1).2=0 then(if(ei (dX g (cz (g h)).1).1).2=0 then(aM (dX g (cz (g h)).1).1,0)else([],(ei (dX g (cz (g h)).1).1).2))else([],((dX g (cz (g h)).1).2:Nat)))else([],((cz (g h)).2:Nat))
theorem Gm{k:Nat}:∀(m:Nat) (last:Int) (s:List UInt8) (l:List Ce),kA k m last s=some l->(∀c∈l,c.sd.length<=s.length/\∃a:Nat,a<16/\c.id=((16*k+a:Nat):Int))/\l.length<=16/\(16*(k:Int)-1<=last->(l.length:Int)<=max 0 (16*(k:Int)+15-last))
 |0,_,s,l,h=>by
  unfold kA at h;split at h
  ·cases h;exact⟨fun c hc=>(by cases hc),abW _,fun _=>by show(0:Int)<=_;omega⟩
  cases h
 |m+1,last,s,l,h=>by
  obtain⟨g1,g2⟩:=GS k s;unfold kA at h;split at h
  ·cases h
  rename_i r hr;obtain⟨g3,_,a,ha,hid⟩:=g2 r hr;split at h
  ·cases h
  rename_i hc;obtain⟨l',h1,rfl⟩:=Option.map_eq_some_iff.1 h;obtain⟨i1,i2,i3⟩:=Gm m _ r l' h1;have i3:=i3 (by rw[hid];omega);rw[hid]at i3 hc;refine⟨fun c hc=>?_,?_,fun hl=>?_⟩
  ·rcases List.mem_cons.1 hc with q|q
   ·rw[q];exact⟨g1,a,ha,hid⟩
   obtain⟨q1,q2⟩:=i1 c q;exact⟨by omega,q2⟩
  ·rw[List.length_cons];omega
  rw[List.length_cons];omega
theorem ow{k:Nat}{g:Option (List UInt8)}{n:Nat}(h:∀t,g=some t->t.length<=n):(dM k g).1.length<=16/\∀c∈(dM k g).1,c.sd.length<=n/\∃a:Nat,a<16/\c.id=((16*k+a:Nat):Int):=by
 have ho:=oP (kd:=1) h;unfold dM;split
 ·generalize(eX 1 g).1=o at ho;cases hx:Am k (o.drop 1)with
  |none=>exact⟨abW _,fun c hc=>(by cases hc)⟩
  |some l=>
   show l.length<=16/\∀c∈l,_;unfold Am at hx;split at hx
   ·cases hx
   split at hx
   ·split at hx
    ·cases hx
    split at hx
    ·cases hx
    obtain⟨a,b,_⟩:=Gm _ _ _ _ hx;refine⟨b,fun c hc=>?_⟩;obtain⟨q1,q2⟩:=a c hc;have h2:(aw (o.drop 1)).2.length<=(o.drop 1).length:=ed 9 0 0 _;have h3:(aw (aw (o.drop 1)).2).2.length<=(aw (o.drop 1)).2.length:=ed 9 0 0 _;rw[abT]at h2;exact⟨by omega,q2⟩
   cases hx
 exact⟨abW _,fun c hc=>(by cases hc)⟩
theorem PX:∀(m:Nat) (last:Int) (s:List UInt8) (l:mG),nA m last s=some l->∀x∈l,x.1<576460752303423488
 |0,_,s,l,h=>by
  unfold nA at h;split at h
  ·cases h;exact fun x hx=>(by cases hx)
  cases h
 |m+1,last,s,l,h=>by
  unfold nA at h;split at h
  ·cases h
  split at h
  ·rename_i hc;obtain⟨l',h1,rfl⟩:=Option.map_eq_some_iff.1 h;intro x hx;rcases List.mem_cons.1 hx with q|q
   ·rw[q];exact hc.2.1
   exact PX m _ _ l' h1 x q
  cases h
theorem yN{g:Option (List UInt8)}:∀x∈(cz g).1,x.1<576460752303423488:=by
 unfold cz;split
 ·generalize(eX 2 g).1=o;cases hx:tv (o.drop 1)with
  |none=>exact fun x hx=>(by cases hx)
  |some l=>
   show ∀x∈l,_;unfold tv at hx;split at hx
   ·cases hx
   exact PX _ _ _ _ hx
 exact fun x hx=>(by cases hx)
structure Xa(c:Ce):Prop where
 sd:c.sd.length<=1000000
 id:c.id<9223372036854775808
theorem Hg{g:HB->Option (List UInt8)}(h:∀x t,g x=some t->t.length<=1000000):∀(l:mG),(∀x∈l,x.1<576460752303423488)->(dX g l).1.length<=16*l.length/\∀c∈(dX g l).1,Xa c
 |[],_=>⟨abW _,fun c hc=>(by cases hc)⟩
 |x::l,hk=>by
  obtain⟨i1,i2⟩:=Hg h l fun y hy=>hk y (aca _ hy)
  obtain⟨a,b⟩:=ow (k:=x.1) (g:=g x.2) (h x.2);have hx:=hk x ab4;unfold dX;split
  ·split
   ·refine⟨?_,fun c hc=>?_⟩
    ·show((dM x.1 (g x.2)).1++(dX g l).1).length<=_;rw[abP,List.length_cons];omega
    rcases List.mem_append.1 hc with q|q
    ·obtain⟨b1,y,b2,b3⟩:=b c q;exact⟨b1,by omega⟩
    exact i2 c q
   exact⟨abW _,fun c hc=>(by cases hc)⟩
  exact⟨abW _,fun c hc=>(by cases hc)⟩
theorem qU{θ:Nat->Option Nat}{fr:Nat×Nat}:TO Tryz.prog (aP θ) (.cells [.slice none 0 0] 40 fr) (.cells [sl ([]:List Ce)] 40 fr):=cm (av (fun ρ ρ' x _ hv=>by rw[hv.of_flat 1 rfl];exact .frzE _ _) aR)
theorem rJ{g:HB->Option (List UInt8)}{x:Nat×HB}{l:mG}:dX g (x::l)=if(dM x.1 (g x.2)).2=0 then(if(dX g l).2=0 then((dM x.1 (g x.2)).1++(dX g l).1,0)else([],(dX g l).2))else([],(dM x.1 (g x.2)).2):=rfl
set_option maxHeartbeats 1000000 in
theorem Fa(L:List Oj)(h:HB)(hL:L.length<=1000000)(hb:∀x t,bM x L=some t->t.length<=1000000):Fo Tryz.prog 20 [bu h] (cd L) (.ret (.tuple #[gw (vH (bM · L) h).1,.int .i64 (vH (bM · L) h).2])) (cd L):=by
 have htr:=GN L h hL (fun t ht=>by have:=hb h t ht;omega);have hln:=lC (hb h);have hkk:=yN (g:=bM h L);obtain⟨hcl,hcr⟩:=Hg (g:=(bM · L)) hb (cz (bM h L)).1 hkk;unfold vH;generalize cz (bM h L)=te at htr hln hkk hcl hcr ⊢;obtain⟨l,e⟩:=te;simp only at htr hln hkk hcl hcr ⊢;refine nZ Tryz.func20 Tryz.results20 (h:=?_);refine rs ?_;refine rs ?_;refine cv [(0,some (.pointer (some ⟨0,0,none⟩))),(3,some (.pointer (some ⟨1,0,none⟩))),(4,some (.pointer (some ⟨2,0,none⟩))),(6,some (.pointer (some ⟨3,0,none⟩)))] [(0,some (cd L)),(1,some (hH h)),(2,some (.cells [sl ([]:List Ce)] 40 (0,0))),(3,some (.cells [sl ([]:List Ce)] 40 (0,0)))] 4 ?_ (hl:=fb [(0,0),(1,1),(2,2),(3,3)] (hL:=aN 0 (by repeat (first|exact ab|refine Eq.trans (aa (by decide)) ?_)) (by decide) (by decide) (by repeat (first|exact ab|refine Eq.trans (aa (by decide)) ?_)) (aT aj (aB b7.h)) (aN 1 (by repeat (first|exact ab|refine Eq.trans (aa (by decide)) ?_)) (by decide) (by decide) (by repeat (first|exact ab|refine Eq.trans (aa (by decide)) ?_)) (aT aj (aB b7.h)) (aN 2 (by repeat (first|exact ab|refine Eq.trans (aa (by decide)) ?_)) (by decide) (by decide) (by repeat (first|exact ab|refine Eq.trans (aa (by decide)) ?_)) qU (aN 3 (by repeat (first|exact ab|refine Eq.trans (aa (by decide)) ?_)) (by decide) (by decide) (by repeat (first|exact ab|refine Eq.trans (aa (by decide)) ?_)) qU dP)))));refine rc (lL htr) ?_;refine rS ?_;by_cases he:e=0
 ·subst he;rw[if_pos rfl];refine cf ?_;refine sk ?_;refine rs ?_;refine rS ?_;generalize hR:dX (bM · L) l=R at hcl hcr ⊢;have hel:=vc (r:=false) (l:=l);refine fo (fun x:Nat×List Ce=>⟨ao [(0,some (.pointer (some ⟨0,0,none⟩))),(4,some (.pointer (some ⟨2,0,none⟩))),(6,some (.pointer (some ⟨3,0,none⟩))),(7,some (sl (eh false l))),(9,some (gs 4 aq x.2)),(10,some (.int .i64 (x.1:Nat)))],wd [(0,some (cd L)),(2,some (.cells [sl ([]:List Ce)] 40 (0,0))),(3,some (.cells [sl ([]:List Ce)] 40 (0,0))),(4,some (ro 58 x.2))] 5 [] 0,[]⟩)
   (fun x=>x.1<=l.length/\x.2.length<=16*x.1/\R=if(dX (bM · L) (l.drop x.1)).2=0 then(x.2++(dX (bM · L) (l.drop x.1)).1,0)else([],(dX (bM · L) (l.drop x.1)).2)) (fun x=>l.length-x.1) (0,[]) ⟨abW _,abW _,by
    rw[<-hR];show dX (bM · L) l=if(dX (bM · L) l).2=0 then([]++(dX (bM · L) l).1,0)else([],(dX (bM · L) l).2)
    by_cases q:(dX (bM · L) l).2=0
    ·rw[if_pos q];exact Prod.ext rfl q
    rw[if_neg q];have:(dX (bM · L) l).1=[]:=by
     cases l with
     |nil=>rfl
     |cons y l=>
      rw[rJ]at q ⊢;by_cases q1:(dM y.1 (bM y.2 L)).2=0
      ·rw[if_pos q1]at q ⊢;by_cases q2:(dX (bM · L) l).2=0
       ·rw[if_pos q2]at q;exact absurd rfl q
       rw[if_neg q2]
      rw[if_neg q1]
    exact Prod.ext this rfl⟩ (fun x hv hc=>?_) (fun x hv hc=>?_)
  ·obtain⟨i,out⟩:=x;obtain⟨v1,v2,v4⟩:=hv;simp only at hc v1 v2 v4;have hi:i<l.length:=by omega
   rw[show l.drop i=l.getD i (0,hZ)::l.drop (i+1) by rw[acF hi,abV,abS hi];rfl,rJ]at v4;have hge:=uW (r:=false) hi;have hkx:=hkk (l.getD i (0,hZ)) (by rw[abV,abS hi];exact List.getElem_mem hi);generalize l.getD i (0,hZ)=y at v4 hge hkx;obtain⟨k,hh⟩:=y;simp only at v4 hge hkx;have hce:=JZ L k hh hL hkx (hb hh);obtain⟨hc16,_⟩:=ow (k:=k) (g:=bM hh L) (hb hh);generalize dM k (bM hh L)=ce at v4 hce hc16;obtain⟨l2,e2⟩:=ce;simp only at v4 hce hc16;refine bs (eO hge (lL hce) ?_);refine rS ?_;by_cases h2:e2=0
   ·subst h2;rw[if_pos rfl]at v4;refine cf ?_;refine sk ?_;refine rl ?_;refine rl ?_;refine nx (i+1,out++l2) ⟨by show i+1<=_;omega,by show(out++l2).length<=16*(i+1);rw[abP];omega,?_⟩ (by show l.length-(i+1)<l.length-i;omega) ?_
    ·show R=if(dX (bM · L) (l.drop (i+1))).2=0 then((out++l2)++(dX (bM · L) (l.drop (i+1))).1,0)else([],(dX (bM · L) (l.drop (i+1))).2)
     rw[v4];by_cases q:(dX (bM · L) (l.drop (i+1))).2=0
     ·rw[if_pos q,if_pos rfl,if_pos q,acg]
     rw[if_neg q,if_neg q,if_neg q]
    exact fb [(0,0),(2,2),(3,3),(5,4)]
   rw[if_neg h2,if_neg h2]at v4;refine ct ?_;refine rs ?_;refine rt ?_;rw[v4,if_neg h2];exact⟨rfl,by simp(disch:=decide) only[ae,ab,aa]⟩
  obtain⟨i,out⟩:=x;obtain⟨v1,v2,v4⟩:=hv;simp only at hc v1 v2 v4;obtain rfl:i=l.length:=by omega
  rw[List.drop_length,show dX (bM · L) []=([],0)from rfl,if_pos rfl,List.append_nil]at v4;subst v4;simp only at hcl hcr;rw[if_pos rfl];have hck:=C0 out (by omega) (fun c hc=>(hcr c hc).sd);have hcn:=wn out (by omega) (fun c hc=>(hcr c hc).sd);show ar _ _ _ _ _ _;refine cv [(4,some (.pointer (some ⟨2,0,none⟩))),(6,some (.pointer (some ⟨3,0,none⟩))),(9,some (sl out))] [(0,some (cd L)),(2,some (.cells [sl ([]:List Ce)] 40 (0,0))),(3,some (.cells [sl ([]:List Ce)] 40 (0,0)))] 5 ?_ (hl:=fz 4);refine rs ?_;refine rc (b1 hck) ?_;refine rS ?_;by_cases h0:(ei out).2=0
  ·rw[if_pos h0];rw[h0]at *;refine cf ?_;refine sk ?_;refine rc (b1 hcn) ?_;refine rt ?_;exact⟨rfl,by simp(disch:=decide) only[ae,ab,aa]⟩
  rw[if_neg h0];generalize(ei out).2=ce at h0 hck ⊢;refine ct ?_;refine rs ?_;refine rt ?_;exact⟨rfl,by simp(disch:=decide) only[ae,ab,aa]⟩
 rw[if_neg he];refine ct ?_;refine rs ?_;refine rt ?_;exact⟨rfl,by simp(disch:=decide) only[ae,ab,aa]⟩
end Go.Proofs.YthlkgmdkabelpaaGreat.X
