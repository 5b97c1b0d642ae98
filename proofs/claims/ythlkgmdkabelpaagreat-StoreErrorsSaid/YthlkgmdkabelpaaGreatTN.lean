/-
  Packed by program (tools/pack.py) out of the texts MS1 MS0 MSA MS2 MS3. No condition.
-/
import Derived.Test.YthlkgmdkabelpaaGreatTM
import Derived.Test.YthlkgmdkabelpaaGreatTT
set_option linter.all false
namespace Go.Proofs.YthlkgmdkabelpaaGreat.X
open Go Go.RowKit Go.Proofs.YthlkgmdkabelpaaGreat.St
theorem V4(a:List HB)(ha:a.length<=1000000):Fn Tryz.prog 24 [sl a,sl a] (.ret (.bool true)):=by
 refine ir Tryz.func24 Tryz.results24 (h:=?_);refine rs ?_;refine rS ?_;refine cf ?_;refine sk (rS ?_);refine fo (fun i:Nat=>⟨an [(0,some (sl a)),(1,some (sl a)),(5,some (.int .i64 (i:Nat)))],wd [] 0 [] 0,[]⟩) (fun i=>i<=a.length) (fun i=>a.length-i) 0 (Yq _) (fun i hv h=>?_) (fun i hv h=>?_)
 ·refine bs (rd ?_);refine cf ?_;refine ap ?_;refine rl ?_;exact nx (i+1) (by omega) (by omega)
 refine rs ?_;refine rt ?_;rfl
theorem B7{q:Int}{n:Nat}(hn:0<n):0<q.tmod n+n/\q.tmod n+n<2*n:=by
 have h1:=Int.tmod_lt_of_pos q (show(0:Int)<n by omega);have h2:=Int.lt_tmod_of_pos q (show(0:Int)<n by omega);omega
def q8(q:Int)(n:Nat):Nat:=((q.tmod n+n).tmod n).toNat
theorem xn{q:Int}{n:Nat}(hn:0<n):q8 q n<n/\((q.tmod n+n).tmod n)=(q8 q n:Nat):=by
 have h:=B7 (q:=q) hn;have h1:=Int.tmod_lt_of_pos (q.tmod n+n) (show(0:Int)<n by omega);have h2:=Int.tmod_nonneg (n:Int) (show 0<=q.tmod n+n by omega);unfold q8;omega
theorem Hs(q:Int)(n:Nat)(hn:0<n)(hn2:n<=1000000):Fn Tryz.prog 25 [.int .i64 q,.int .i64 (n:Nat)] (.ret (.int .i64 (q8 q n:Nat))):=by
 refine ir Tryz.func25 Tryz.results25 (h:=?_);refine rs ?_;refine rs ?_;refine rt ?_;have h:=B7 (q:=q) hn;rw[wrap_i64 (by omega) (by omega),(xn hn).2]
theorem Rw:aT Tryz.prog 8 [] (wd [] 0 [] 0) fun e W'=>e=.ret (.pointer (some ⟨0,0,none⟩))/\W'.get 0=some (bT [] 0)/\W'.next<=1:=by
 refine low Tryz.func8 Tryz.results8 (h:=?_);refine rs ?_;refine rs ?_;refine rt ?_;exact⟨rfl,by simp(disch:=decide) only[ae,ab,aa];rfl,Nat.le_refl _⟩
theorem Qd:aT Tryz.prog 9 [] (wd [] 0 [] 0) fun e W'=>e=.ret (.pointer (some ⟨0,0,none⟩))/\W'.get 0=some (.cells [.slice none 0 0] 69 (0,0))/\W'.next<=1:=by
 refine low Tryz.func9 Tryz.results9 (h:=?_);refine rs ?_;refine rs ?_;refine rt ?_;exact⟨rfl,by simp(disch:=decide) only[ae,ab,aa],Nat.le_refl _⟩
theorem iD{P:Program}{k:Nat}{s s2 s':XS}(h:aX P k s s2)(h':aX P k s2 s'):aX P k s s':=fun N ρ0 W0 w0 e ex a w h0 h1 h2 hc=>h' N ρ0 W0 w0 e ex a w h0 h1 h2 (h N ρ0 W0 w0 e ex a w h0 h1 h2 hc)
def X5(l:List Sd):Nat×List Sd ⊕ List Sd->XS
 |.inl x=>⟨an [(0,some (sl l)),(3,some (sl x.2)),(4,some (.int .i64 (x.1:Nat)))],wd [] 0 [] 0,[]⟩
 |.inr o=>⟨an [(0,some (sl l)),(3,some (gs 0 aq o)),(4,some (.int .i64 (l.length:Nat)))],wd [(0,some (ro 60 o))] 5 [] 0,[]⟩
def X1(l:List Sd):Nat×List Sd ⊕ List Sd->Prop
 |.inl x=>x.1<l.length/\x.2.length=x.1/\cL (l.drop x.1) x.2=cL l []
 |.inr o=>o=cL l []
def X0(l:List Sd):Nat×List Sd ⊕ List Sd->Nat
 |.inl x=>l.length-x.1
 |.inr _=>0
theorem Lj(l:List Sd)(hl:l.length<=1000000):Fr Tryz.prog 61 [sl l] 60 (cL l []):=by
 refine Gj Tryz.func61 Tryz.results61 (h:=?_);refine rs ?_;refine rs ?_;refine rS ?_;refine aC ?_;refine lp (X5 l) (X1 l) (X0 l) (if 0<l.length then .inl (0,[])else .inr []) ?_ (fun x hv=>?_) (h0:=?_)
 ·split
  ·rename_i h;exact⟨h,rfl,rfl⟩
  rename_i h;have e:l=[]:=Yx (by omega);show[]=cL l [];rw[e];rfl
 ·cases x with
  |inl x=>
   obtain⟨i,o⟩:=x;obtain⟨h,h2,h3⟩:=hv;simp only at h h2 h3;rw[ei (by omega),cL]at h3;generalize hx:l.getD i default=x at h3;have hp:=sZ x.1 o;have hln:=uA (x:=x) (out:=o);show ay _ _ _ _ ⟨an [(0,some (sl l)),(3,some (sl o)),(4,some (.int .i64 (i:Nat)))],wd [] 0 [] 0,[]⟩ _;refine rS ?_;refine ct ?_;refine ap (bs (rs ?_));refine jP ⟨an [(0,some (sl l)),(3,some (sl o)),(4,some (.int .i64 (i:Nat))),(5,some (.int .i64 (im x.1 o:Nat)))],wd [] 0 [] 0,[]⟩ (aC ?_) ?_
   ·refine lp (fun k:Nat=>⟨an [(0,some (sl l)),(3,some (sl o)),(4,some (.int .i64 (i:Nat))),(5,some (.int .i64 (k:Nat)))],wd [] 0 [] 0,[]⟩) (fun k=>k<=o.length/\k+im x.1 (o.drop k)=im x.1 o) (fun k=>o.length-k) 0 ⟨by omega,by simp⟩ (fun k hv=>?_);obtain⟨h4,h5⟩:=hv;by_cases h6:k<o.length
    ·rw[ei h6,im]at h5;refine rD ?_;refine cp (fun h7=>?_) (fun h7=>?_)
     ·rw[if_pos (hx▸h7)]at h5;refine ap (aC ?_);refine rl ?_;exact nx (k+1) ⟨by omega,by omega⟩
     rw[if_neg (hx▸h7)]at h5;refine xe ?_;exact bg
    rw[YV (by omega),im]at h5;refine rD ?_;refine cf ?_;refine xe ?_;exact bg
   refine rd ?_;refine rl ?_;rw[hx,D7];refine rl ?_;by_cases hlast:i+1=l.length
   ·refine nx (.inr (gP x o)) ?_ (by show 0<l.length-i;omega) ?_
    ·rw[YV (by omega),cL]at h3;exact h3
    show aX _ _ _ ⟨an [(0,some (sl l)),(3,some (gs 0 aq (gP x o))),(4,some (.int .i64 (l.length:Nat)))],wd [(0,some (ro 60 (gP x o)))] 5 [] 0,[]⟩;rw[<-hlast];exact iD (s2:=⟨an [(0,some (sl l)),(3,some (gs 0 aH (gP x o))),(4,some (.int .i64 ((i+1:Nat):Int)))],wd [(0,some (ro 60 (gP x o)))] 5 [] 0,[]⟩) (rn [(4,0)]) bg
   refine nx (.inl (i+1,gP x o)) ⟨by dsimp only;omega,by dsimp only;omega,h3⟩ (by show l.length-(i+1)<l.length-i;omega) ?_;show aX _ _ _ ⟨an [(0,some (sl l)),(3,some (sl (gP x o))),(4,some (.int .i64 ((i+1:Nat):Int)))],wd [] 0 [] 0,[]⟩;exact yV 4 []
  |inr o=>
   have hv:o=cL l []:=hv;show ay _ _ _ _ ⟨an [(0,some (sl l)),(3,some (gs 0 aq o)),(4,some (.int .i64 (l.length:Nat)))],wd [(0,some (ro 60 o))] 5 [] 0,[]⟩ _;refine rS ?_;refine cf ?_;refine xe ?_;show ay _ _ _ _ _ _;refine rs ?_;refine rt ?_;rw[hv];exact⟨0,rfl,by simp(disch:=decide) only[ae,ab,aa]⟩
 split
 ·exact bg
 rename_i h;show aX _ _ _ ⟨an [(0,some (sl l)),(3,some (gs 0 aq ([]:List Sd))),(4,some (.int .i64 (l.length:Nat)))],wd [(0,some (ro 60 ([]:List Sd)))] 5 [] 0,[]⟩;rw[show l.length=0 by omega];exact bg
theorem QR{W:XW}{e:TypeId}{b n len cap s by_:Nat}{C src:List Value}(hg:W.get b=some (.cells C e (0,0)))(hc:aN cap=true)(hl:C.length=len*s)(hn:0<n)(hp:0<s)(hb:by_*(len+n)<=1099511627776)(hb2:len+n<=1099511627776) :
 rj W e s n by_ src (.slice (some ⟨b,0,none⟩) len cap)=some (.mod (.slice (some ⟨W.next,0,none⟩) (len+n) cap) ((W.put b none).push (.cells (C++src) e (0,0)))):=by
 show qT (match W.get b with
  |some (.cells c e' fr)=>bif Nat.beq e e'&&Nat.beq c.length (len*s)then(bif aN cap then(bif Nat.beq n 0&&Nat.ble len cap then ii (W.put b none) (.cells c e fr) len cap else none)else _)else none
  |_=>none) (bif Nat.beq n 0 then _ else bif Nat.blt 0 s then nJ W len n cap s by_ e src (some ⟨b,0,none⟩)else none)=_
 rw[hg];show qT (bif Nat.beq e e&&Nat.beq C.length (len*s)then(bif aN cap then(bif Nat.beq n 0&&Nat.ble len cap then ii (W.put b none) (.cells C e (0,0)) len cap else none)else _)else none) _=_;rw[YC,hl,YC,hc,fi (show n≠0 by omega)];simp only[Bool.and_true,cond_true,Bool.false_and,cond_false];rw[lj hp,cond_true];show nJ W len n cap s by_ e src (some ⟨b,0,none⟩)=_;have h1:Nat.ble (0+(len+n)*s) (mz (W.get b))=false:=by rw[hg];refine s8 ?_;show C.length<_;rw[hl,Nat.zero_add,Zx];have:=Nat.mul_pos hn hp;omega
 show(bif aN cap||_ then(bif Nat.ble (0+(len+n)*s) (mz (W.get b))&&_&&_ then _ else uS W b 0 len n cap s by_ e src (W.get b))else _)=_;rw[hc,Bool.true_or,cond_true,h1,Bool.false_and,Bool.false_and,cond_false,hg];show(bif aN cap&&Nat.beq e e&&Nat.ble (0+len*s) C.length&&ef by_ (len+n)&&!mS (0,0) _ _&&(Nat.beq 0 0||_)&&Nat.beq (0%s) 0 then ii (W.put b none) (.cells ((C.drop 0).take (len*s)++src) e (0,0)) (len+n) cap else none)=_;rw[hc,YC,hl,Nat.zero_add,nk (Nat.le_refl _),oG hb hb2,Nat.zero_mod,List.drop_zero,List.take_of_length_le (by rw[hl];exact Nat.le_refl _)];rfl
theorem P6{W:XW}{n s b cap:Nat}{C:List Value}(hg:ci (W.get b)=some C)(hl:C.length=n*s)(hn:0<n):eZ W s n (.slice (some ⟨b,0,none⟩) n cap)=some C:=by
 cases hw:W.get b with
 |none=>rw[hw]at hg;cases hg
 |some o=>
  rw[hw]at hg;cases o with
  |cells c e fr=>
   cases hg;show(bif Nat.beq n 0 then some []else match W.get b with
    |some (.cells c _ _)=>let q:=(c.drop 0).take (n*s);bif Nat.beq q.length (n*s)then some q else none
    |_=>none)=_
   rw[hw,fi (show n≠0 by omega)];show(bif Nat.beq ((C.drop 0).take (n*s)).length (n*s)then some ((C.drop 0).take (n*s))else none)=_;rw[List.drop_zero,List.take_of_length_le (by rw[hl];exact Nat.le_refl _),hl,YC];rfl
  |_=>cases hg
def vA(b cap:Nat)(C:List Value)(m:Nat):Value:=.slice (some ⟨b,0,none⟩) m cap
theorem RW{W:XW}{e:TypeId}{b n len cap s by_:Nat}{C src:List Value}(hg:ci (W.get b)=some C)(he:W.get b=some (.cells C e (0,0)))(hc:aN cap=true)(hl:C.length=len*s)(hn:0<n)(hp:0<s)(hb:by_*(len+n)<=1099511627776)(hb2:len+n<=1099511627776) :
 rj W e s n by_ src (vA b cap C len)=some (.mod (vA W.next cap (C++src) (len+n)) ((W.put b none).push (.cells (C++src) e (0,0)))):=QR he hc hl hn hp hb hb2
theorem OZ{W:XW}{n s b cap:Nat}{C:List Value}(hg:ci (W.get b)=some C)(hl:C.length=n*s)(hn:0<n):eZ W s n (vA b cap C n)=some C:=P6 hg hl hn
theorem IG{b cap m:Nat}{C:List Value}:(vA b cap C m).cells=#[vA b cap C m]:=rfl
theorem PR{b cap m:Nat}{C:List Value}:de (vA b cap C m)=true:=rfl
theorem Kr{b cap m:Nat}{C:List Value}:nX (vA b cap C m)=some m:=rfl
theorem uF:∀{l o o':List Int},o.length<=9->oS l o=some o'->o'.length<=9
 |[],o,o',h,e=>by cases e;exact h
 |x::l,o,o',h,e=>by
  unfold oS at e;split at e
  ·exact uF h e
  split at e
  ·cases e
  rename_i q;exact uF (by omega) e
theorem Km{l:List Int}:(uE l).1.length<=9:=by
 unfold uE;cases h:oS l []with
 |none=>exact Yq _
 |some o=>exact uF (o:=[]) (Yq _) h
@[go_sem high] theorem fold_sl {t:List Int}:gr (.cells [sl t] 35 (0,0)) 1 1=some (.new (ro 35 [t]) fun k=>gs k 1 [t]):=rfl
@[go_sem high] theorem fold_sl0:gr (.cells [] 35 (0,0)) 0 0=some (.new (ro 35 ([]:List (List Int))) fun k=>gs k 0 ([]:List (List Int))):=rfl
theorem Ds{l:List (List Int)}{s:List Int}:qS l s<=l.length:=BP l.length 0 l.length (by omega) (Yq _)
theorem BO{P:Program}{N k:Nat}{c r:Code}{s:XS}{Q:XQ}{α:Type}(S:α->XS)(V:α->Prop)(h:ay P N k c s fun e s'=>e=.norm/\∃a,V a/\aX P k s' (S a))(q:∀a,V a->ay P N k r (S a) Q):ay P N k (.seq c r) s Q:=
 ak (fh (fun e s' ⟨he,a,hv,hl⟩=>by subst he;exact eD hl (q a hv)) h)
attribute [go_sem high] RW OZ PR Kr
attribute [go_sem ↓ high] IG
abbrev zC:ag:=.cells [.slice none 0 0] 40 (0,0)
def d9(n:Nat)(o1:List Ce)(x:Ce)(o2:List Ce):ag:=.cells (o1.flatMap El.enc++([.int .i64 x.id,.int .i64 x.dim,gs n aq x.sd]++o2.flatMap El.enc)) 58 (0,0)
theorem J9{P:Program}{k m n nl:Nat}{o:ag}{F:List (Nat×Option Value)}{L:List (Nat×Option ag)}{lg:List Nat}{ds:List b9}(hm:n<=m)(hn:m<16383):aX P k ⟨an F,wd L n lg nl,ds⟩ ⟨an F,wd ((m,some o)::L) (m+1) lg nl,ds⟩:=by
 refine De (fun t v h=>⟨v,h,iA⟩) (fun x q h=>?_) (Nat.le_succ_of_le hm) rfl;obtain⟨h1,h2⟩:=cq h;by_cases e:x<n
 ·left;rw[aa (by omega)]at h2;exact(ae e (by omega)).trans h2
 exact .inr (Nat.le_of_not_lt e)
structure Sx where
 j:Nat
 o:List Ce
 h:Option (Ce×List Ce)
def JB(x:Sx):ag:=match x.h with
 |none=>ro 58 x.o
 |some (c,o2)=>d9 3 x.o c o2
def Tz(x:Sx):ag:=match x.h with
 |none=>ro 60 ([]:List Sd)
 |some (c,_)=>ro 60 c.sd
instance {x:Sx}:lA Tryz.prog (Tz x):=⟨by unfold Tz;split<;>exact aF b7.h⟩
theorem DE{ρ:Ren}:∀{a a' b b':List Value},aJ ρ a a'->aJ ρ b b'->aJ ρ (a++b) (a'++b')
 |_,_,_,_,.nil,h=>h
 |_,_,_,_,.cons _ _ _ _ h hs,h'=>.cons _ _ _ _ h (DE hs h')
theorem y9{ρ:Ren}:∀{a b x:List Value},aJ ρ (a++b) x->∃x1 x2,x=x1++x2/\aJ ρ a x1/\aJ ρ b x2
 |[],b,x,h=>⟨[],x,rfl,.nil,h⟩
 |v::a,b,_,.cons _ v' _ l' h hs=>by
  obtain⟨x1,x2,rfl,h1,h2⟩:=y9 (a:=a) (b:=b) hs;exact⟨v'::x1,x2,rfl,.cons _ _ _ _ h h1,h2⟩
theorem np{T:RT}{a a' b b':List Value}(h:is T a a')(h':is T b b'):is T (a++b) (a'++b'):=fun ρ ρ' x ht hv=>by
 obtain⟨x1,x2,rfl,h1,h2⟩:=y9 hv;exact DE (h _ _ _ ht h1) (h' _ _ _ ht h2)
instance {x:Sx}:yF Tryz.prog (JB x) 3:=⟨fun θ h=>by
 unfold JB;split
 ·exact bd aj (aF b7.h)
 exact cg (np ((inferInstance:b7 _).h _ aj) (np (au ((inferInstance:Br (.int .i64 _)).h _ aj) (au ((inferInstance:Br (.int .i64 _)).h _ aj) (au (fR h rfl) aR))) ((inferInstance:b7 _).h _ aj)))⟩
instance {n:Nat}{o1 o2:List Ce}{x:Ce}:yF Tryz.prog (d9 n o1 x o2) n:=⟨fun θ h=>cg (np ((inferInstance:b7 _).h _ aj) (np (au ((inferInstance:Br (.int .i64 _)).h _ aj) (au ((inferInstance:Br (.int .i64 _)).h _ aj) (au (fR h rfl) aR))) ((inferInstance:b7 _).h _ aj)))⟩
theorem DR{θ:Nat->Option Nat}{n m:Nat}{o1 o2:List Ce}{x:Ce}(h:θ n=some m):TO Tryz.prog (aL θ) (d9 n o1 x o2) (d9 m o1 x o2):=cg (np ((inferInstance:b7 _).h _ aj) (np (au ((inferInstance:Br (.int .i64 _)).h _ aj) (au ((inferInstance:Br (.int .i64 _)).h _ aj) (au (fR h rfl) aR))) ((inferInstance:b7 _).h _ aj)))
structure vi(c:Ce):Prop where
 sd:c.sd.length<=9
 id:0<=c.id/\c.id<=4000
abbrev cF(all:List (List Int))(j:Nat)(r:List (Nat×Option Value)):List (Nat×Option Value):=(2,some (.pointer (some ⟨0,0,none⟩)))::(3,some (sl all))::(13,some (.pointer (some ⟨1,0,none⟩)))::(14,some (.int .i64 (j:Nat)))::r
abbrev cA(x:Sx)(r:List (Nat×Option ag)):List (Nat×Option ag):=(0,some zC)::(1,some (.cells [.slice (some ⟨2,0,none⟩) x.j aq] 40 (0,0)))::(2,some (JB x))::(3,some (Tz x))::r
structure Yd(all:List (List Int))(n:Nat)(x:Sx):Prop where
 jl:x.j<=all.length
 ce:∀c∈x.o,vi c
 no:x.h=none->x.o.length=x.j/\x.j<=n
 so:∀c o2,x.h=some (c,o2)->x.o.length=n/\x.j=n+1+o2.length/\vi c/\∀c∈o2,vi c
def KI(nf:Nat->Nat)(e:aZ)(W':XW):Prop:=e=.ret (.agg #[.slice none 0 0])\/e=.ret (kF [])\/∃(o1:List Ce) (x:Ce) (o2:List Ce) (r b:Nat),r≠b/\o1.length=nf (o1.length+1+o2.length)/\o1.length+1+o2.length<=4000/\(∀c∈o1,vi c)/\vi x/\(∀c∈o2,vi c) /\
 e=.ret (.agg #[.slice (some ⟨r,0,none⟩) (o1.length+1+o2.length) aq])/\W'.get r=some (d9 b o1 x o2)/\W'.get b=some (ro 60 x.sd)
abbrev sF(l all:List (List Int))(i:Nat)(r:List (Nat×Option Value)):List (Nat×Option Value):=(0,some (sl l))::(2,some (.pointer (some ⟨0,0,none⟩)))::(3,some (sl all))::(4,some (.int .i64 (i:Nat)))::r
set_option maxHeartbeats 2000000 in
theorem Ts(l:List (List Int))(hl:l.length<=1000000)(hr:∀r∈l,r.length<=1000000)(nf:Nat->Nat)(hnf:∀m,0<m->nf m<m):aT Tryz.prog 31 [sl l] (wd [] 0 [] 0) (KI nf):=by
 refine low Tryz.func31 Tryz.results31 (h:=?_);show ay _ _ 0 _ _ _;refine rs ?_;refine rs ?_;refine rS ?_;refine fo (fun x:Nat×List (List Int)=>⟨an (sF l x.2 x.1 []),wd [(0,some zC)] 1 [] 0,[]⟩) (fun x=>x.1<=l.length/\x.2.length<=4000/\∀t∈x.2,t.length<=9) (fun x=>l.length-x.1) (0,[]) ⟨Yq _,by decide,fun t h=>by cases h⟩ (fun x hv h=>?_) (fun x hv h=>?_)
 ·obtain⟨i,all⟩:=x;obtain⟨h1,h2,h3⟩:=hv;simp only at h h1 h2 h3;have hset:=Re (l.getD i default) (hr _ (bn (by omega)));have hs9:=Km (l:=l.getD i default);generalize uE (l.getD i default)=so at hset hs9;obtain⟨s,ok⟩:=so;simp only at hset hs9;refine bs (rc (b1 hset) ?_);refine BO (fun a:List (List Int)=>⟨an (sF l a i []),wd [(0,some zC)] 1 [] 0,[]⟩) (fun a=>a.length<=4512/\∀t∈a,t.length<=9) ?_ (fun a ha=>?_)
  ·refine rs ?_;refine aC ?_;refine lp (fun y:Nat×List (List Int)=>⟨an (sF l y.2 i [(5,some (sl s)),(6,some (.bool ok)),(7,some (.int .i64 (y.1:Nat)))]),wd [(0,some zC)] 1 [] 0,[]⟩) (fun y=>1<=y.1/\y.1<=512/\y.2.length<=4000+y.1/\∀t∈y.2,t.length<=9) (fun y=>512-y.1) (1,all) ⟨Nat.le_refl _,by show 1<=512;decide,by dsimp only;omega,h3⟩ (fun y hv=>?_);obtain⟨b,al⟩:=y;obtain⟨g1,g2,g3,g4⟩:=hv;simp only at g1 g2 g3 g4;cases ok with
   |false=>
    refine rS ?_;refine cf ?_;refine xe ?_;exact⟨rfl,al,⟨by omega,g4⟩,bg⟩
   |true=>
    refine rS ?_;have hpw:2^s.length<=2^9:=Nat.pow_le_pow_right (by decide) hs9;have hpw:2^s.length<=512:=hpw;generalize 2^s.length=p at hpw ⊢;rw[show IntKind.i64.wrap ((1*p:Nat):Int)=((p:Nat):Int) by rw[Nat.one_mul];exact wrap_i64 (by omega) (by omega)];refine cp (fun hb=>?_) (fun hb=>?_)
    ·refine ap (bs (rs ?_));refine BO (fun t:List Int=>⟨an (sF l al i [(5,some (sl s)),(6,some (.bool true)),(7,some (.int .i64 (b:Nat))),(8,some (sl t))]),wd [(0,some zC)] 2 [] 0,[]⟩) (fun t=>t.length<=9) ?_ (fun t ht=>?_)
     ·refine rs ?_;refine aC ?_;refine lp (fun y:Nat×List Int=>⟨an (sF l al i [(5,some (sl s)),(6,some (.bool true)),(7,some (.int .i64 (b:Nat))),(8,some (gs 1 aq y.2)),(9,some (.int .i64 (y.1:Nat)))]),wd [(0,some zC),(1,some (ro 3 y.2))] 2 [] 0,[]⟩) (fun y=>y.1<=s.length/\y.2.length<=y.1) (fun y=>s.length-y.1) (0,[]) ⟨Yq _,Nat.le_refl _⟩ (fun y hv=>?_);obtain⟨k,t⟩:=y;obtain⟨e1,e2⟩:=hv;simp only at e1 e2;refine rS ?_;refine cp (fun hk=>?_) (fun hk=>?_)
      ·refine ap (bs ?_);refine rs ?_;refine cp (fun hbit=>?_) (fun hbit=>?_)
       ·refine rl ?_;refine rl ?_;exact nx (k+1,t++[s.getD k default]) ⟨by dsimp only;omega,by simp;omega⟩ (h:=rn [(0,0),(3,1)])
       refine ap (rl ?_);exact nx (k+1,t) ⟨by dsimp only;omega,by dsimp only;omega⟩
      refine xe ?_;exact⟨rfl,t,by omega,fz 1⟩
     have hpl:=BR al t (by omega) (by omega) (fun u hu=>by have:=g4 u hu;omega);refine rc (b1 hpl) ?_;refine rs ?_;have hkl:qS al t<=al.length:=Ds;refine cb (fun hp=>?_) (fun hp=>?_)
     ·refine rs ?_;refine rl ?_;refine rl ?_;refine nx (b+1,al.take (qS al t)++t::al.drop (qS al t)) ⟨by dsimp only;omega,by dsimp only;omega,by simp;omega,fun u hu=>?_⟩ (h:=yV 6 [(0,0)]);rcases List.mem_append.1 hu with q|q
      ·exact g4 u (ZJ q)
      rcases List.mem_cons.1 q with q|q
      ·rw[q];exact ht
      exact g4 u (List.mem_of_mem_drop q)
     refine ap (rl ?_);exact nx (b+1,al) ⟨by dsimp only;omega,by dsimp only;omega,by dsimp only;omega,g4⟩ (h:=rn [(0,0)])
    refine xe ?_;exact⟨rfl,al,⟨by omega,g4⟩,bg⟩
  obtain⟨ha1,ha2⟩:=ha;refine rs ?_;refine cp (fun hc=>?_) (fun hc=>?_)
  ·refine rs ?_;refine rt ?_;exact .inl rfl
  refine ap (rl ?_);exact nx (i+1,a) ⟨by dsimp only;omega,by dsimp only;omega,ha2⟩
 obtain⟨i,all⟩:=x;obtain⟨_,h2,h3⟩:=hv;simp only at h2 h3;show ay _ _ _ _ _ _;refine rs ?_;refine rS ?_;refine aC ?_;refine lp (fun x:Sx=>⟨an (cF all x.j []),wd (cA x []) 4 [] 0,[]⟩) (Yd all (nf all.length)) (fun x=>all.length-x.j) ⟨0,[],none⟩ ⟨Yq _,fun c h=>(by cases h),fun _=>⟨rfl,Yq _⟩,fun c o2 h=>(by cases h)⟩ (fun x hv=>?_) (h0:=?_)
 ·have hv0:=hv.jl;refine rS ?_;refine cp (fun hj=>?_) (fun hj=>?_)
  ·have ht9:=h3 _ (bn (l:=all) (i:=x.j) (by omega));generalize hx:all.getD x.j default=t at ht9;refine ap (bs (rf hx ?_));obtain⟨d,hdd⟩:∃d:Int,d=(t.length:Int)-((1:Nat):Int):=⟨_,rfl⟩;rw[<-hdd];refine BO (fun sd:List Sd=>⟨an (cF all x.j [(15,some (.pointer (some ⟨4,0,none⟩)))]),wd (cA x [(4,some (.cells [.int .i64 ((x.j+1:Nat):Int),.int .i64 d,sl sd] 58 (0,0)))]) 6 [] 0,[]⟩) (fun sd=>sd.length<=9) ?_ (fun sd hsd=>?_)
   ·refine rs ?_;refine aC ?_;refine lp (fun y:Nat×List Sd=>⟨an (cF all x.j [(15,some (.pointer (some ⟨4,0,none⟩))),(16,some (.int .i64 (y.1:Nat)))]),wd (cA x [(4,some (.cells [.int .i64 ((x.j+1:Nat):Int),.int .i64 d,gs 5 aq y.2] 58 (0,0))),(5,some (ro 60 y.2))]) 6 [] 0,[]⟩) (fun y=>y.1<=t.length/\y.2.length<=y.1) (fun y=>t.length-y.1) (0,[]) ⟨Yq _,Nat.le_refl _⟩ (fun y hv=>?_) (h0:=?_)
    ·obtain⟨k,sd⟩:=y;obtain⟨e1,e2⟩:=hv;simp only at e1 e2;by_cases hk:k<t.length
     ·refine ak ?_;refine rf hx ?_;refine cp (fun hd=>?_) (fun hd=>?_)
      ·subst hx;refine ap (bs ?_);refine rd ?_ (hk:=by
        refine fK (by kernel_rfl) (by kernel_rfl) ?_;refine aI (by kernel_rfl) (aI (by kernel_rfl) (aI (by kernel_rfl) ?_));refine aI ?hA ?_
        case hA=>refine dj (by with_reducible rfl) (by kernel_rfl) (by kernel_rfl) ?_;simp(disch:=first|decide|omega|(simp only[Yh,List.length_cons,List.length_nil,Yk,Ym,Yo]<;>omega)|(simp(disch:=decide) only[ae,ab,aa,ci.eq_1];done)) only[fq.eq_1,cond_true,go_sem]
        refine aI (by kernel_rfl) (aI (by kernel_rfl) (aI (by kernel_rfl) (aI (by kernel_rfl) (aI (by kernel_rfl) (aI (by kernel_rfl) ?_)))));refine aI ?hB ?_
        case hB=>refine dj (by with_reducible rfl) (by kernel_rfl) (by kernel_rfl) ?_;simp(disch:=first|decide|omega|(simp only[Yh,List.length_cons,List.length_nil,Yk,Ym,Yo]<;>omega)|(simp(disch:=decide) only[ae,ab,aa,ci.eq_1];done)) only[fq.eq_1,cond_true,go_sem]
        refine aI (by kernel_rfl) (aI (by kernel_rfl) (aI (by kernel_rfl) ?_));refine mf [6] (by kernel_rfl) (by kernel_rfl) (by kernel_rfl) rfl ?hC ?_
        case hC=>simp(disch:=first|decide|omega|(simp only[Yh,List.length_cons,List.length_nil,Yk,Ym,Yo]<;>omega)|(simp(disch:=decide) only[ae,ab,aa,ci.eq_1];done)) only[qc,fq.eq_1,go_sem]
        exact aI (by kernel_rfl) (aI (by kernel_rfl) rfl))
       have hrl:((all.getD x.j default).take k++(all.getD x.j default).drop (k+1)).length<=9:=by rw[Yh,Yk,Ym];omega
       have hpl:=BR all ((all.getD x.j default).take k++(all.getD x.j default).drop (k+1)) (by omega) (by omega) (fun u hu=>by have:=h3 u hu;omega);refine cv (cF all x.j [(15,some (.pointer (some ⟨4,0,none⟩))),(16,some (.int .i64 (k:Nat))),(17,some (sl ((all.getD x.j default).take k++(all.getD x.j default).drop (k+1))))]) (cA x [(4,some (.cells [.int .i64 ((x.j+1:Nat):Int),.int .i64 d,gs 5 aq sd] 58 (0,0))),(5,some (ro 60 sd))]) 9 ?_ (hl:=DS 8);generalize(all.getD x.j default).take k++(all.getD x.j default).drop (k+1)=rest at hpl;have hpn:=Ds (l:=all) (s:=rest);refine rc (b1 hpl) ?_;refine rl ?_;refine rl ?_;exact nx (k+1,sd++[(((qS all rest+1:Nat):Int),((1:Nat):Int)-((2*(k%2):Nat):Int))]) ⟨by dsimp only;omega,by simp;omega⟩ (by dsimp only;omega) (kj [(0,0),(1,1),(2,2),(3,3),(4,4),(10,5)])
      refine xe ?_;exact⟨rfl,sd,by omega,DS 5⟩
     refine ak ?_;refine rf hx ?_;refine cf ?_;refine xe ?_;exact⟨rfl,sd,by omega,DS 5⟩
    exact iD (J9 (m:=5) (o:=ro 60 ([]:List Sd)) (by decide) (by decide)) (kj [(0,0),(1,1),(2,2),(3,3),(4,4),(5,5)])
   have hso:=BC sd (by omega);have hsl:(cL sd []).length=sd.length:=by rw[qg];rfl
   obtain⟨j,o,hh⟩:=x;cases hh with
   |none=>
    obtain⟨v1,v2,v3,_⟩:=hv;obtain⟨v4,v5⟩:=v3 rfl;simp only at v1 v2 v4 v5 hj;subst v4;by_cases hjn:o.length<nf all.length
    ·refine cv (cF all o.length [(15,some (.pointer (some ⟨4,0,none⟩)))]) [(0,some zC),(1,some (.cells [gs 2 aq o] 40 (0,0))),(2,some (ro 58 o)),(3,some (ro 60 ([]:List Sd))),(4,some (.cells [.int .i64 ((o.length+1:Nat):Int),.int .i64 d,sl sd] 58 (0,0)))] 6 ?_;refine rc (b1 hso) ?_;refine rl ?_;refine rl ?_;refine nx ⟨o.length+1,o++[⟨((o.length+1:Nat):Int),d,cL sd []⟩],none⟩ ⟨by show o.length+1<=_;omega,fun c hc=>?_,fun _=>⟨by show(o++_).length=_;simp,by show o.length+1<=_;omega⟩,fun c o2 h=>(by cases h)⟩ (by dsimp only;omega) ?_
     ·rcases List.mem_append.1 hc with q|q
      ·exact v2 c q
      rw[List.mem_singleton.1 q];exact⟨by show(cL sd []).length<=9;omega,by show(0:Int)<=((o.length+1:Nat):Int)/\((o.length+1:Nat):Int)<=4000;omega⟩
     show aX _ _ _ ⟨an (cF all (o.length+1) []),wd [(0,some zC),(1,some (.cells [.slice (some ⟨2,0,none⟩) (o.length+1) aq] 40 (0,0))),(2,some (ro 58 (o++[⟨((o.length+1:Nat):Int),d,cL sd []⟩]))),(3,some (ro 60 ([]:List Sd)))] 4 [] 0,[]⟩;rw[show Value.slice (some ⟨2,0,none⟩) (o.length+1) aq=gs 2 aq (o++[(⟨((o.length+1:Nat):Int),d,cL sd []⟩:Ce)]) by unfold gs;rw[Yh];rfl];exact kj [(0,0),(7,2),(1,1),(3,3)]
    have hjn2:o.length=nf all.length:=by omega
    have hfr:=Lj sd (by omega);obtain⟨C,hC⟩:∃C:List Value,C=o.flatMap El.enc:=⟨_,rfl⟩;have hCl:C.length=o.length*3:=by rw[hC];exact cM
    refine cv (cF all o.length [(15,some (.pointer (some ⟨4,0,none⟩)))]) [(0,some zC),(1,some (.cells [vA 2 aq C o.length] 40 (0,0))),(2,some (.cells C 58 (0,0))),(4,some (.cells [.int .i64 ((o.length+1:Nat):Int),.int .i64 d,sl sd] 58 (0,0)))] 6 ?_ (hl:=by rw[hC];exact bg);refine rc (bh (rI hfr)) ?_;refine rl ?_;refine rl ?_;have hrow:ag.cells (C++[.int .i64 ((o.length+1:Nat):Int),.int .i64 d,gs 6 aq (cL sd [])]) 58 (0,0)=d9 6 o ⟨((o.length+1:Nat):Int),d,cL sd []⟩ []:=by rw[hC];rfl
    rw[hrow];refine nx ⟨o.length+1,o,some ((⟨((o.length+1:Nat):Int),d,cL sd []⟩:Ce),[])⟩ ⟨by show o.length+1<=_;omega,v2,fun h=>(by cases h),fun c' o2' h=>?_⟩ (by dsimp only;omega) ?_
    ·cases h;exact⟨hjn2,by show o.length+1=nf all.length+1+0;omega,⟨by show(cL sd []).length<=9;omega,by show(0:Int)<=((o.length+1:Nat):Int)/\((o.length+1:Nat):Int)<=4000;omega⟩,fun c h=>(by cases h)⟩
    show aX _ _ _ ⟨an (cF all (o.length+1) []),wd [(0,some zC),(1,some (.cells [.slice (some ⟨2,0,none⟩) (o.length+1) aq] 40 (0,0))),(2,some (d9 3 o (⟨((o.length+1:Nat):Int),d,cL sd []⟩:Ce) [])),(3,some (ro 60 (cL sd [])))] 4 [] 0,[]⟩;exact kj [(0,0),(8,2),(1,1),(6,3)] (hL:=bY 0 (by repeat (first|exact ab|refine Eq.trans (aa (by decide)) ?_)) (by decide) (by decide) (by repeat (first|exact ab|refine Eq.trans (aa (by decide)) ?_)) (bd aj (aF b7.h)) (bY 1 (by repeat (first|exact ab|refine Eq.trans (aa (by decide)) ?_)) (by decide) (by decide) (by repeat (first|exact ab|refine Eq.trans (aa (by decide)) ?_)) (cg (au (ca (by repeat (first|exact ab|refine Eq.trans (aa (by decide)) ?_))) aR)) (bY 8 (by repeat (first|exact ab|refine Eq.trans (aa (by decide)) ?_)) (by decide) (by decide) (by repeat (first|exact ab|refine Eq.trans (aa (by decide)) ?_)) (DR (by repeat (first|exact ab|refine Eq.trans (aa (by decide)) ?_))) (bY 6 (by repeat (first|exact ab|refine Eq.trans (aa (by decide)) ?_)) (by decide) (by decide) (by repeat (first|exact ab|refine Eq.trans (aa (by decide)) ?_)) (bd aj (aF b7.h)) gT))))
   |some q=>
    obtain⟨c,o2⟩:=q;obtain⟨w1,w2,w3,w4⟩:=hv.so c o2 rfl;have v1:=hv.jl;have v2:=hv.ce;simp only at w1 w2 hj v1 v2;obtain⟨C,hC⟩:∃C:List Value,C=o.flatMap El.enc++([.int .i64 c.id,.int .i64 c.dim,gs 3 aq c.sd]++o2.flatMap El.enc):=⟨_,rfl⟩;have hCl:C.length=j*3:=by have h1:(o.flatMap El.enc).length=o.length*3:=cM;have h2:(o2.flatMap El.enc).length=o2.length*3:=cM;rw[hC,Yh,Yh,h1,h2];show o.length*3+(3+o2.length*3)=j*3;omega
    refine cv (cF all j [(15,some (.pointer (some ⟨4,0,none⟩)))]) [(0,some zC),(1,some (.cells [vA 2 aq C j] 40 (0,0))),(2,some (.cells C 58 (0,0))),(3,some (ro 60 c.sd)),(4,some (.cells [.int .i64 ((j+1:Nat):Int),.int .i64 d,sl sd] 58 (0,0)))] 6 ?_ (hl:=by rw[hC];exact bg);refine rc (b1 hso) ?_;refine rl ?_;refine rl ?_;have hrow:ag.cells (C++List.flatMap El.enc [(⟨((j+1:Nat):Int),d,cL sd []⟩:Ce)]) 58 (0,0)=d9 3 o c (o2++[(⟨((j+1:Nat):Int),d,cL sd []⟩:Ce)]):=by rw[hC];unfold d9;simp only[Y5,YF]
    rw[hrow];refine nx ⟨j+1,o,some (c,o2++[(⟨((j+1:Nat):Int),d,cL sd []⟩:Ce)])⟩ ⟨by show j+1<=_;omega,v2,fun h=>(by cases h),fun c' o2' h=>?_⟩ (by dsimp only;omega) ?_
    ·cases h;refine⟨w1,by show j+1=_+1+(o2++[(⟨((j+1:Nat):Int),d,cL sd []⟩:Ce)]).length;rw[Yh,YN];omega,w3,fun a ha=>?_⟩;rcases List.mem_append.1 ha with q|q
     ·exact w4 a q
     rw[List.mem_singleton.1 q];exact⟨by show(cL sd []).length<=9;omega,by show(0:Int)<=((j+1:Nat):Int)/\((j+1:Nat):Int)<=4000;omega⟩
    show aX _ _ _ ⟨an (cF all (j+1) []),wd [(0,some zC),(1,some (.cells [.slice (some ⟨2,0,none⟩) (j+1) aq] 40 (0,0))),(2,some (d9 3 o c (o2++[(⟨((j+1:Nat):Int),d,cL sd []⟩:Ce)]))),(3,some (ro 60 c.sd))] 4 [] 0,[]⟩;exact kj [(0,0),(7,2),(1,1),(3,3)]
  obtain⟨j,o,hh⟩:=x;obtain⟨v1,v2,v3,v4⟩:=hv;simp only at v1 v2 hj;have hje:j=all.length:=by omega
  cases hh with
  |none=>
   obtain⟨w1,w2⟩:=v3 rfl;simp only at w1 w2;have h0:all.length=0:=by
    rcases Nat.eq_zero_or_pos all.length with q|q
    ·exact q
    have:=hnf _ q;omega
   have ho:o=[]:=Yx (by omega);subst ho;rw[show j=0 by omega];refine xe ?_;show ay _ _ _ _ _ _;refine cv [(2,some (.pointer (some ⟨0,0,none⟩))),(3,some (sl all)),(13,some (.pointer (some ⟨1,0,none⟩)))] [(0,some zC),(1,some (.cells [gs 2 aq ([]:List Ce)] 40 (0,0))),(2,some (ro 58 ([]:List Ce)))] 4 ?_;refine cv [(2,some (.pointer (some ⟨0,0,none⟩))),(3,some (sl all)),(13,some (.pointer (some ⟨1,0,none⟩)))] [(0,some zC),(1,some (.cells [sl ([]:List Ce)] 40 (0,0)))] 4 ?_ (hl:=DS 2);refine rs ?_;refine rt ?_;exact .inr (.inl rfl)
  |some q=>
   obtain⟨c,o2⟩:=q;obtain⟨w1,w2,w3,w4⟩:=v4 c o2 rfl;simp only at w1 w2;refine xe ?_;show ay _ _ _ _ _ _;refine rs ?_;refine rt ?_;have hlen:o.length+1+o2.length=j:=by omega
   refine .inr (.inr ⟨o,c,o2,2,3,by decide,by rw[hlen,hje];exact w1,by omega,v2,w3,w4,by rw[hlen],?_,?_⟩)
   ·simp(disch:=decide) only[ae,ab,aa];rfl
   simp(disch:=decide) only[ae,ab,aa];rfl
 show aX _ _ _ ⟨an (cF all 0 []),wd [(0,some zC),(1,some (.cells [gs 2 aq ([]:List Ce)] 40 (0,0))),(2,some (ro 58 ([]:List Ce))),(3,some (ro 60 ([]:List Sd)))] 4 [] 0,[]⟩;exact iD (J9 (m:=2) (o:=ro 58 ([]:List Ce)) (by decide) (by decide)) (iD (J9 (m:=3) (o:=ro 60 ([]:List Sd)) (by decide) (by decide)) (kj [(0,0),(1,1),(2,2),(3,3)]))
structure Mt(nf:Nat->Nat)(o1:List Ce)(x:Ce)(o2:List Ce):Prop where
 nf:o1.length=nf (o1.length+1+o2.length)
 len:o1.length+1+o2.length<=4000
 h1:∀c∈o1,vi c
 h:vi x
 h2:∀c∈o2,vi c
def Xg(nf:Nat->Nat)(W:XW)(e:aZ)(W':XW):Prop:=(e=.ret (kF [])/\W'=W)\/∃(o1:List Ce) (x:Ce) (o2:List Ce),Mt nf o1 x o2 /\
 e=.ret (.agg #[.slice (some ⟨W.next,0,none⟩) (o1.length+1+o2.length) aq])/\W'=(W.push (d9 (W.next+1) o1 x o2)).push (ro 60 x.sd)
theorem HV{f:FuncId}{args:List Value}{nf:Nat->Nat}{W:XW}(ha:cV args)(h:aT Tryz.prog f args (wd [] 0 [] 0) (KI nf)):aT Tryz.prog f args W (Xg nf W):=by
 refine SW (k:=0) (fun _=>0) (fun _=>none) rfl (fun m _ h=>by omega) (fun m h=>by omega) (fun n m h=>by cases h) (fun m oL h=>by rw[XW.get_ge (Yq _)]at h;cases h) (ha _ aj) h fun eL WL' hS=>?_
 rcases hS with rfl|rfl|⟨o1,x,o2,r,b,hrb,h1,h2,h3,h4,h5,rfl,g1,g2⟩
 ·exact⟨fun _=>none,_,W,.inl ⟨rfl,rfl⟩,fun m x h=>(by cases h),fun m m' x h=>(by cases h),fun x o' h=>.inr ⟨h,aM h,fun m hm=>by omega⟩,Bk (au (fun ρ ρ' x _ hv=>by rw[hv.of_flat 1 rfl];exact .frzE _ _) aR),Nat.le_refl _⟩
 ·exact⟨fun _=>none,_,W,.inl ⟨rfl,rfl⟩,fun m x h=>(by cases h),fun m m' x h=>(by cases h),fun x o' h=>.inr ⟨h,aM h,fun m hm=>by omega⟩,(inferInstance:Br (kF [])).h _ aj,Nat.le_refl _⟩
 obtain⟨θ,hθ⟩:∃θ:Nat->Option Nat,θ=fun m=>if m=r then some W.next else if m=b then some (W.next+1)else none:=⟨_,rfl⟩
 have tr:θ r=some W.next:=by rw[hθ];exact if_pos rfl
 have tb:θ b=some (W.next+1):=by rw[hθ];simp only[if_neg (Ne.symm hrb),if_pos]
 have tc:∀m y,θ m=some y->(m=r/\y=W.next)\/(m=b/\y=W.next+1):=fun m y h=>by
  rw[hθ]at h;simp only at h;split at h
  ·rename_i q;cases h;exact .inl ⟨q,rfl⟩
  split at h
  ·rename_i q;cases h;exact .inr ⟨q,rfl⟩
  cases h
 refine⟨θ,_,_,.inr ⟨o1,x,o2,⟨h1,h2,h3,h4,h5⟩,rfl,rfl⟩,fun m y h=>?_,fun m m' y h h'=>?_,fun y o' h=>?_,?_,Nat.le_succ_of_le (Zm _)⟩
 ·show _\/(0<=m/\W.next<=y/\y<W.next+1+1);rcases tc m y h with⟨_,q⟩|⟨_,q⟩<;>omega
 ·rcases tc m y h with⟨q,q1⟩|⟨q,q1⟩<;>rcases tc m' y h' with⟨p,p1⟩|⟨p,p1⟩<;>omega
 ·rcases XW.get_push h with⟨rfl,rfl⟩|⟨q1,q2⟩
  ·exact .inl ⟨b,_,tb,g2,bd aj (aF (inferInstance:b7 (x.sd.flatMap El.enc)).h)⟩
  rcases XW.get_push q2 with⟨rfl,rfl⟩|⟨q3,q4⟩
  ·exact .inl ⟨r,_,tr,g1,DR tb⟩
  exact .inr ⟨q4,aM q4,fun m hm=>by omega⟩
 exact Bk (au (ca tr) aR)
section
variable {P:Program} [hM:kJ P] {N k:Nat} {all:Array Oper} {l:List Oper} {o:Oper} {s s1:XS} {Q:XQ}
theorem xo(q:gt P N k all l s1 Q)(h:nW P (cd P (bc [] []) 1) N none all s o=some (.on s1):=by simp(disch:=first|decide|omega|(simp only[Yh,List.length_cons,List.length_nil,Yk,Ym,Yo]<;>omega)|(simp(disch:=decide) only[ae,ab,aa,ci.eq_1];done)) only[go_sem]<;>with_reducible rfl):gt P N k all (o::l) s Q:=bq b0 1 h q
theorem xc{f:FuncId}{args:List Value}{S:aZ->XW->Prop}(he:cT P f)(hl:aT P f args s.W S)
 (q:∀e W',S e W'->∃v fr',e=.ret v/\cO N s.fr o.dst (some v)=some fr'/\gt P N k all l ⟨fr',W',s.ds⟩ Q) (hw:ia all s.fr o=some true:=by rfl)
 (hx:bU P s.fr s.W o.type o.op=some (.enter f args):=by simp(disch:=first|decide|omega|(simp only[Yh,List.length_cons,List.length_nil,Yk,Ym,Yo]<;>omega)|(simp(disch:=decide) only[ae,ab,aa,ci.eq_1];done)) only[go_sem]<;>with_reducible rfl):gt P N k all (o::l) s Q:=e8 he hw hx hl q
theorem xz(q:Q .norm s):gt P N k all [] s Q:=cQ q
end
set_option maxHeartbeats 2000000 in
theorem RY(a:List Int)(nf:Nat->Nat)(hnf:∀m,0<m->nf m<m):aT Tryz.prog 16 [sl a] (wd [] 0 [] 0) (KI nf):=by
 refine low Tryz.func16 Tryz.results16 (h:=?_);show ay _ _ 0 _ _ _;refine rs ?_;refine rs ?_;refine BO (fun ls:List (List Int)=>⟨an [(2,some (.pointer (some ⟨0,0,none⟩))),(3,some (sl ls))],wd [(0,some zC)] 1 [] 0,[]⟩) (fun ls=>ls.length<=12/\∀t∈ls,t.length<=4) ?_ (fun ls hls=>?_)
 ·refine rs ?_;refine aC ?_;refine lp (fun y:Nat×List (List Int)=>⟨an [(0,some (sl a)),(2,some (.pointer (some ⟨0,0,none⟩))),(3,some (gs 1 aq y.2)),(4,some (.int .i64 (y.1:Nat)))],wd [(0,some zC),(1,some (ro 35 y.2))] 2 [] 0,[]⟩) (fun y=>y.1<=a.length/\y.2.length=y.1/\y.1<=12/\∀t∈y.2,t.length<=4) (fun y=>a.length-y.1) (0,[]) ⟨Yq _,rfl,by decide,fun t h=>(by cases h)⟩ (fun y hv=>?_);obtain⟨k,ls⟩:=y;obtain⟨h1,h2,h3,h4⟩:=hv;simp only at h1 h2 h3 h4;by_cases hk:k<a.length
  ·by_cases hk2:k<12
   ·refine rS ?_;refine ct ?_;refine ap (bs (rs ?_));refine BO (fun t:List Int=>⟨an [(0,some (sl a)),(2,some (.pointer (some ⟨0,0,none⟩))),(3,some (gs 1 aq ls)),(4,some (.int .i64 (k:Nat))),(5,some (sl t))],wd [(0,some zC),(1,some (ro 35 ls))] 2 [] 0,[]⟩) (fun t=>t.length<=4) ?_ (fun t ht=>?_)
    ·refine rs ?_;refine aC ?_;refine lp (fun y:Nat×List Int=>⟨an [(0,some (sl a)),(2,some (.pointer (some ⟨0,0,none⟩))),(3,some (gs 1 aq ls)),(4,some (.int .i64 (k:Nat))),(5,some (gs 2 aq y.2)),(6,some (.int .i64 (y.1:Nat)))],wd [(0,some zC),(1,some (ro 35 ls)),(2,some (ro 3 y.2))] 3 [] 0,[]⟩) (fun y=>y.1<=6/\y.2.length<=4) (fun y=>6-y.1) (0,[]) ⟨by decide,by decide⟩ (fun y hv=>?_);obtain⟨v,t⟩:=y;obtain⟨e1,e2⟩:=hv;simp only at e1 e2;by_cases hv6:v<6
     ·by_cases ht4:t.length<4
      ·refine rS ?_;refine ct ?_;refine ap (bs ?_);refine rs ?_;refine cb (fun hb=>?_) (fun hb=>?_)
       ·refine rl ?_;refine rl ?_;exact nx (v+1,t++[((v:Nat):Int)]) ⟨by dsimp only;omega,by simp;omega⟩ (h:=rn [(0,0),(1,1),(4,2)])
       refine ap (rl ?_);exact nx (v+1,t) ⟨by dsimp only;omega,e2⟩
      refine rS ?_;refine cf ?_;refine xe ?_;exact⟨rfl,t,e2,yV 2 [(0,0),(1,1)]⟩
     refine rS ?_;refine cf ?_;refine xe ?_;exact⟨rfl,t,e2,yV 2 [(0,0),(1,1)]⟩
    refine rl ?_;refine rl ?_;refine nx (k+1,ls++[t]) ⟨by dsimp only;omega,by simp;omega,by dsimp only;omega,fun u hu=>?_⟩ (h:=rn [(0,0),(3,1)]);rcases List.mem_append.1 hu with q|q
    ·exact h4 u q
    rw[List.mem_singleton.1 q];exact ht
   refine rS ?_;refine cf ?_;refine xe ?_;exact⟨rfl,ls,⟨by omega,h4⟩,yV 1 [(0,0)]⟩
  refine rS ?_;refine cf ?_;refine xe ?_;exact⟨rfl,ls,⟨by omega,h4⟩,yV 1 [(0,0)]⟩
 obtain⟨hl1,hl2⟩:=hls;refine ak (cm ?_);refine xo ?_;refine xc (f:=31) (args:=[sl ls]) (enters_of (by kernel_rfl)) (HV (nf:=nf) b7.h (Ts ls (by omega) (fun r hr=>by have:=hl2 r hr;omega) nf hnf)) fun e W' hS=>?_
 rcases hS with⟨rfl,rfl⟩|⟨o1,x,o2,hv,rfl,rfl⟩
 ·refine⟨_,_,rfl,cu (by decide),?_⟩;refine xo (xz ?_);refine rt ?_;exact .inr (.inl rfl)
 refine⟨_,_,rfl,cu (by decide),?_⟩;simp only[fx,cU];refine xo (xz ?_);refine rt ?_;exact .inr (.inr ⟨o1,x,o2,1,2,by decide,hv.nf,hv.len,hv.h1,hv.h,hv.h2,rfl,by simp(disch:=decide) only[ae,ab,aa],by simp(disch:=decide) only[ae,ab,aa]⟩)
end Go.Proofs.YthlkgmdkabelpaaGreat.X
