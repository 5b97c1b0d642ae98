/-
  Packed by program (tools/pack.py) out of the texts F12 F13 F14 F15 F16 F17 F18 F19 F20 F21 F22 F23 F24 F25. No condition.
-/
import Derived.Test.YthlkgmdkabelpaaGreatZB
import Derived.RangeFuncLeaves
import Derived.RecoverIn
import Derived.Test.YthlkgmdkabelpaaGreatZA
set_option linter.all false
namespace Go.Proofs.YthlkgmdkabelpaaGreat.X
open Go Go.RowKit
structure bC(W W':XW):Prop where
 next:W.next<=W'.next
 log:∃l,W'.log=l++W.log/\W'.nlog=W.nlog+l.length/\∀n,n∉l->n<W.next->W'.get n=W.get n
theorem bC.refl(W:XW):bC W W:=⟨Nat.le_refl _,[],rfl,rfl,fun _ _ _=>rfl⟩
theorem bC.trans{a b c:XW}(h:bC a b)(k:bC b c):bC a c:=by
 obtain⟨l,h1,h2,h3⟩:=h.log;obtain⟨m,k1,k2,k3⟩:=k.log;refine⟨acx h.next k.next,m++l,by rw[k1,h1,acg],by rw[k2,h2,abP];omega,fun n hn hl=>?_⟩;rw[List.mem_append]at hn;rw[k3 n (fun e=>hn (.inl e)) (acW hl h.next),h3 n (fun e=>hn (.inr e)) hl]
theorem bC.put(W:XW)(n:Nat)(o:Option ah):bC W (W.put n o):=
 ⟨Nat.le_refl _,[n],rfl,rfl,fun m hm _=>XW.get_put_ne (by simpa using hm)⟩
theorem bC.push(W:XW)(o:ah):bC W (W.push o):=
 ⟨acU _,[],rfl,rfl,fun m _ hm=>XW.get_push_ne (by omega)⟩
section
variable {P:Program} {W W':XW} {fr:XF} {v:Value}
theorem o6{o:Option Value}(h:rV o=some (.mod v W')):bC W W':=by cases o<;>cases h
theorem pD{o:Option Value}(h:mt o=some (.mod v W')):bC W W':=by
 cases o with
 |none=>cases h
 |some u=>simp only[mt]at h;cases hq:cy u<;>rw[hq]at h<;>cases h
theorem sK{u:Value}{o:Option XW}(ho:∀W1,o=some W1->bC W W1)(h:mW u o=some (.mod v W')):bC W W':=by
 cases o with
 |none=>cases h
 |some W1=>cases h;exact ho _ rfl
theorem lU{n o:Nat}{vs:List Value}{W1:XW}(h:eI W n o vs=some W1):bC W W1:=by
 obtain⟨c,e,f,_,_,_,_,rfl⟩:=oy h;exact .put _ _ _
theorem bb{b:Bool}{x y:Option XR}(hx:x=some (.mod v W')->bC W W')(hy:y=some (.mod v W')->bC W W')(h:(bif b then x else y)=some (.mod v W')):bC W W':=by
 cases b
 ·exact hy h
 exact hx h
theorem af(h:(none:Option XR)=some (.mod v W')):bC W W':=by cases h
theorem bP{u:Value}(h:val u=some (.mod v W')):bC W W':=by cases h
theorem nw{W1:XW}{o:ah}{l c:Nat}(hW:bC W W1)(h:iQ W1 o l c=some (.mod v W')):bC W W':=by cases h;exact hW.trans (.push _ _)
theorem Ff{a x:Value}{d:Option TypeDesc}(h:oR P W a x d=some (.mod v W')):bC W W':=by
 unfold oR at h;split at h
 ·unfold I8 at h;split at h
  ·refine bb (fun h=>?_) af h;unfold CG at h;split at h
   ·refine bb (fun h=>?_) af h;unfold tW at h;split at h
    ·rename_i base len cap _ _;unfold Hz at h;cases hN:sX W len _ cap _ _ _ _ (xC W base) base with
     |some r'=>
      rw[hN]at h;cases h;unfold sX at hN;split at hN
      ·unfold BP at hN;split at hN
       ·exact bb (fun h=>bb (fun h=>bb (fun h=>nw (.put _ _ _) h) af h) (fun h=>bb (fun h=>nw (.put _ _ _) h) af h) h) af hN
       exact af hN
      exact af hN
     |none=>
     rw[hN]at h;replace h:=(show(bif Nat.beq _ 0 then(bif Nat.ble len cap then val (.slice base len cap)else none)else bif Nat.blt 0 _ then pa W len _ cap _ _ _ _ base else none)=some _ from h);refine bb (fun h=>bb bP af h) (fun h=>bb (fun h=>?_) af h) h;unfold pa at h;split at h
     ·exact bb (fun h=>nw (.refl _) h) af h
     ·refine bb (fun h=>bb (fun h=>sK (fun _ q=>lU q) h) (fun h=>?_) h) (fun h=>?_) h
      ·unfold wZ at h;split at h
       ·exact bb (fun h=>nw (.put _ _ _) h) af h
       exact af h
      unfold EG at h;split at h
      ·exact bb (fun h=>nw (.refl _) h) af h
      exact af h
     exact af h
    exact af h
   exact af h
  exact af h
 exact af h
theorem FD{b:Builtin}{ats:Array TypeId}{ty:TypeId}{args:List Value}(h:eD P W b ats ty args=some (.mod v W')):bC W W':=by
 unfold eD at h;split at h
 ·unfold nY at h;split at h
  ·split at h<;>first|exact bP h|exact af h
  ·unfold yu at h;split at h<;>first|exact bP h|exact af h
  ·split at h<;>first|exact bP h|exact af h
  ·exact bP h
  exact af h
 ·exact bb Ff af h
 ·unfold DO at h;split at h
  ·split at h
   ·unfold Iy at h;split at h
    ·unfold DZ at h;split at h
     ·refine bb bP (fun h=>?_) h;unfold H5 at h;split at h
      ·exact sK (fun _ q=>lU q) h
      exact af h
     exact af h
    exact af h
   exact af h
  exact af h
 ·unfold HW at h;split at h
  ·split at h
   ·unfold ON at h;split at h
    ·refine bb (fun h=>?_) af h;unfold WM at h;split at h
     ·cases h;exact .put _ _ _
     ·exact bP h
     exact af h
    exact af h
   exact af h
  exact af h
 ·unfold Je at h;split at h
  ·split at h
   ·refine bb bP (fun h=>?_) h;unfold NM at h;split at h
    ·exact sK (fun _ q=>lU q) h
    exact af h
   exact af h
  exact af h
 ·exact bb pD af h
 ·exact bb pD af h
 ·unfold Gw at h;split at h
  ·exact bb af bP h
  ·exact bP h
  exact af h
 ·unfold wt at h;split at h
  ·split at h
   ·exact bP h
   ·unfold zQ at h;split at h
    ·refine bb (fun h=>?_) af h;unfold zi at h;split at h
     ·cases h;exact .put _ _ _
     exact af h
    exact af h
   exact af h
  exact af h
 exact af h
theorem Qa{d:Option TypeDesc}{m k x:Option Value}(h:wX P W d m k x=some (.mod v W')):bC W W':=by
 unfold wX at h;split at h
 ·unfold m5 at h;split at h
  ·refine bb (fun h=>?_) af h;unfold sj at h;split at h
   ·unfold wT at h;split at h
    ·exact bb (fun h=>by cases h;exact .put _ _ _) af h
    exact af h
   ·cases h;exact .put _ _ _
   exact af h
  exact af h
 exact af h
theorem SX{d:Option TypeDesc}{m k:Option Value}(h:CO P W d m k=some (.mod v W')):bC W W':=by
 unfold CO at h;split at h
 ·unfold M2 at h;split at h
  ·refine bb (fun h=>?_) af h;unfold NI at h;split at h
   ·unfold M8 at h;split at h
    ·exact bb (fun h=>by cases h;exact .put _ _ _) af h
    exact af h
   ·cases h;exact .put _ _ _
   exact af h
  exact af h
 exact af h
theorem RQ{m s x:Option Value}(h:CL W m s x=some (.mod v W')):bC W W':=by
 unfold CL at h;split at h
 ·unfold NB at h;split at h
  ·unfold OB at h;split at h
   ·unfold TK at h;split at h
    ·cases h;exact .put _ _ _
    exact af h
   exact af h
  exact af h
 exact af h
theorem Rr{b:Bool}{x:Option Value}(h:Dx W b x=some (.mod v W')):bC W W':=by
 unfold Dx at h;split at h
 ·unfold OL at h;split at h
  ·unfold M7 at h;split at h
   ·refine bb af (fun h=>?_) h;unfold NN at h;split at h
    ·exact bP h
    ·exact bb (fun h=>by cases h;exact .put _ _ _) af h
    exact af h
   exact af h
  exact af h
 exact af h
theorem Vk{a x:Option Value}{s:Option Nat}(h:vq W a x s=some (.mod v W')):bC W W':=by
 unfold vq at h;split at h
 ·exact bb (fun h=>sK (fun _ q=>lU q) h) af h
 exact af h
theorem y9{ty:TypeId}{op:Op}(h:cj P fr W ty op=some (.mod v W')):bC W W':=by
 cases op<;>simp only[cj]at h;all_goals first
  |exact af h
  |exact Vk h
  |exact Qa h
  |exact SX h
  |exact RQ h
  |exact Rr h
  |skip
 case move=>cases h
 case assign=>cases h
 case pick=>unfold yj at h;split at h<;>cases h
 case alloc=>unfold uF at h;split at h<;>cases h
 case box=>unfold Cy at h;split at h<;>cases h
 case build=>unfold Ci at h;split at h<;>first|exact o6 h|cases h
 case buildSlice=>
  unfold zO at h;split at h
  ·unfold IJ at h;split at h
   ·unfold CB at h;split at h
    ·exact bb (fun h=>by cases h) af h
    exact af h
   exact af h
  exact af h
 case load=>unfold F5 at h;split at h<;>first|exact o6 h|cases h
 case nilCheck=>unfold C8 at h;split at h<;>first|exact bP h|cases h
 case binOp=>
  unfold dH at h;split at h
  ·refine bb pD (fun h=>?_) h;unfold FT at h;split at h<;>first|exact bP h|exact af h
  exact af h
 case unOp=>unfold Ao at h;split at h<;>first|exact bb pD af h|exact af h
 case convert=>
  unfold jp at h;split at h
  ·unfold rY at h;split at h<;>cases h
  ·unfold pc at h;split at h
   ·unfold C7 at h;split at h<;>first|exact bP h|exact af h
   exact af h
  ·unfold rF at h;split at h<;>first|exact bb pD af h|exact af h
  exact af h
 case sliceToArrayPointer=>unfold Dp at h;split at h<;>first|exact bb bP af h|exact af h
 case makeInterface=>unfold ui at h;split at h<;>first|exact af h|exact bP h
 case makeFunc=>unfold Ih at h;split at h<;>first|exact af h|exact bP h
 case makeMap=>unfold C4 at h;split at h<;>cases h
 case makeSlice=>
  unfold Aj at h;split at h
  ·unfold zD at h;split at h<;>first|exact bb (fun h=>by cases h) af h|exact af h
  exact af h
 case slice=>
  unfold uq at h;split at h
  ·unfold ir at h;split at h
   ·split at h
    ·unfold PW at h;split at h<;>first|exact bb bP af h|exact af h
    exact af h
   ·split at h
    ·split at h
     ·unfold LD at h;split at h<;>first|exact bb bP af h|exact af h
     refine bb (fun h=>?_) af h;unfold PL at h;split at h<;>first|exact bb bP af h|exact af h
    ·unfold LB at h;split at h<;>first|exact bb bP af h|exact af h
    exact af h
   ·split at h
    ·unfold P4 at h;split at h<;>first|exact bb bP af h|exact af h
    exact af h
   exact af h
  exact af h
 case fieldAddr=>
  unfold sR at h;split at h
  ·unfold yS at h;split at h
   ·unfold I7 at h;split at h<;>first|exact bP h|exact af h
   exact af h
  ·unfold yE at h;split at h
   ·unfold Nv at h;split at h<;>first|exact bP h|exact af h
   exact af h
  exact af h
 case field=>
  unfold Ew at h;split at h
  ·unfold Hy at h;split at h<;>first|exact o6 h|exact af h
  exact af h
 case indexAddr=>
  unfold kY at h;split at h
  ·unfold qu at h;split at h<;>first|exact bb bP af h|exact af h
  ·unfold qu at h;split at h<;>first|exact bb bP af h|exact af h
  ·unfold m3 at h;split at h<;>first|exact bb bP af h|exact af h
  ·unfold m3 at h;split at h<;>first|exact bb bP af h|exact af h
  exact af h
 case index=>
  unfold wj at h;split at h
  ·unfold CA at h;split at h<;>first|exact bb o6 af h|exact af h
  ·unfold xU at h;split at h<;>first|exact bP h|exact af h
  exact af h
 case lookup=>
  unfold zc at h;split at h
  ·unfold mY at h;split at h
   ·refine bb (fun h=>?_) af h;unfold y8 at h;split at h<;>first|exact bP h|exact af h
   exact af h
  exact af h
 case range=>
  unfold wv at h;split at h
  ·unfold z8 at h;split at h<;>cases h
  exact af h
 case entry=>
  unfold we at h;split at h
  ·unfold yL at h;split at h
   ·unfold yY at h;split at h
    ·refine bb (fun h=>?_) af h;unfold EF at h;split at h<;>first|exact bP h|exact af h
    exact af h
   exact af h
  exact af h
 case typeAssert=>
  unfold yI at h;split at h
  ·exact af h
  ·refine bb bP (fun h=>?_) h;unfold Et at h;split at h<;>first|exact bP h|exact af h
  exact af h
 case extract=>unfold HQ at h;split at h<;>first|exact o6 h|exact af h
 case call c=>
  unfold tT at h;split at h
  ·unfold Dn at h;split at h<;>first|exact FD h|exact af h
  ·unfold x5 at h;split at h
   ·cases h
   ·exact bb (fun h=>by cases h) af h
   exact af h
  exact af h
 case defer=>
  unfold wV at h;split at h
  ·unfold Di at h;split at h<;>cases h
  exact af h
 case panic=>unfold Eo at h;split at h<;>cases h
def FY(W W':XW):Prop:=∀n o,W.get n=some o->W'.get n=some o
theorem nv(W:XW):∀l,FY (dJ W l) W
 |[]=>fun _ _ h=>h
 |n::l=>fun m o h=>by
  rcases XW.get_put (nv (W.put n none) l m o h)with⟨_,q⟩|⟨_,q⟩
  ·cases q
  exact q
theorem vt(W:XW):∀l n,n∈l->(dJ W l).get n=none
 |m::l,n,h=>by
  by_cases hm:n∈l
  ·exact vt _ l n hm
  rcases List.mem_cons.1 h with rfl|h
  ·cases e:(dJ (W.put n none) l).get n with
   |none=>exact e
   |some o=>
    rcases XW.get_put (nv _ l n o e)with⟨_,q⟩|⟨q,_⟩
    ·cases q
    exact absurd rfl q
  exact absurd h hm
theorem HE{t:TypeId}{p u:Value}(hs:FY W W')(h:jB P W t p=some u):jB P W' t p=some u:=by
 unfold jB at h ⊢;split at h
 ·rename_i n o;split at h
  ·rename_i c e f hg;simp only[hs _ _ hg];exact h
  cases h
 ·exact h
 cases h
theorem MG{s n:Nat}{x:Value}{l:List Value}(hs:FY W W')(h:fE W s n x=some l):fE W' s n x=some l:=by
 unfold fE at h ⊢;split at h
 ·exact h
 ·rename_i b o;simp only;cases q:Nat.beq n 0 with
  |true=>rw[q]at h;exact h
  |false=>
   rw[q]at h;simp only[cond_false]at h ⊢;split at h
   ·rename_i c e f hg;simp only[hs _ _ hg];exact h
   cases h
 ·exact h
 ·exact h
 cases h
theorem vY{x:Value}{q:List MapEntry×Nat}(hs:FY W W')(h:jD W x=some q):jD W' x=some q:=by
 unfold jD at h ⊢;split at h
 ·exact h
 ·rename_i r;split at h
  ·rename_i es c hg;simp only[hs _ _ hg];exact h
  cases h
 cases h
theorem Ji{cap:Nat}{t:TypeId}{a:Option Addr}(hs:FY W W')(h:kg W cap t a=true):kg W' cap t a=true:=by
 unfold kg at h ⊢;split at h
 ·exact h
 rename_i a;cases q:bd cap with
 |false=>rfl
 |true=>
  rw[q]at h;simp only[Bool.not_true,Bool.false_or]at h ⊢;split at h
  ·rename_i c e f hg;simp only[hs _ _ hg];exact h
  cases h
theorem O3{ty:TypeId}{op:Op}{r:XR}(hs:FY W W')(hc:DA op=true)(h:cj P fr W ty op=some r):cj P fr W' ty op=some r:=by
 cases op<;>first|(exact absurd hc acf)|exact h|skip
 case load t a=>
  simp only[cj,F5]at h ⊢;cases ha:ev fr a with
  |none=>rw[ha]at h;cases h
  |some p=>
   rw[ha]at h;simp only at h ⊢;cases hl:jB P W t p with
   |none=>rw[hl]at h;cases h
   |some u=>rw[hl]at h;rw[HE hs hl];exact h
 case convert s d x=>
  simp only[cj,jp]at h ⊢;split at h
  ·exact h
  ·unfold pc at h ⊢;split at h
   ·rename_i a n c _ _;cases hl:fE W 1 n (.slice a n c)with
    |none=>rw[hl]at h;cases h
    |some u=>rw[hl]at h;rw[MG hs hl];exact h
   cases h
  ·rename_i q1 q2 q3 q4 q5 q6;exact h
  cases h
 case slice t x lo hi mx=>
  simp only[cj,uq]at h ⊢;split at h
  ·rename_i v hv;simp only[ir]at h ⊢;split at h
   ·exact h
   ·rename_i el ht;split at h
    ·rename_i a len cap;split at h
     ·simp only[LD]at h ⊢;split at h
      ·rename_i s l hh q1 q2 q3;cases hq:kg W cap el a with
       |false=>rw[hq]at h;simp only[Bool.false_and,cond_false]at h;cases h
       |true=>rw[hq]at h;rw[Ji hs hq];exact h
      cases h
     exact h
    ·exact h
    cases h
   ·exact h
   cases h
  cases h
 case lookup t m k ok=>
  simp only[cj,zc]at h ⊢;split at h
  ·rename_i kt el mv kv q1 q2 q3;simp only[mY]at h ⊢;cases hl:jD W mv with
   |none=>rw[hl]at h;cases h
   |some u=>rw[hl]at h;rw[vY hs hl];exact h
  cases h
 case call c=>
  obtain⟨cl,args,ats⟩:=c;simp only[cj,tT]at h ⊢;cases cl<;>first|(exact absurd hc acf)|skip
  rename_i b;cases b<;>first|(exact absurd hc acf)|skip
  simp only[Dn]at h ⊢;split at h
  ·rename_i vs hv;simp only[eD]at h ⊢;split at h;all_goals first|(cases h;done)|skip
   ·rename_i x _;simp only[nY]at h ⊢;split at h
    ·exact h
    ·cases hl:jD W x with
     |none=>rw[hl]at h;cases h
     |some u=>rw[hl]at h;rw[vY hs hl];exact h
    ·exact h
    ·exact h
    cases h
   all_goals first|(rename_i hb;cases hb;done)|(rename_i hb _;cases hb;done)|(rename_i hb _ _;cases hb;done)|contradiction
  cases h
end
def inW:XT->XW
 |.code _ _ _ s=>s.W
 |.call _ _ W=>W
def ue:XO->XW
 |.code _ s=>s.W
 |.fin _ W=>W
def O1.W:O1->XW
 |.on s=>s.W
 |.out _ s=>s.W
structure IU(H:ci):Prop where
 call:∀f h args W v W',H.call f=some h->h args W=some (v,W')->bC W W'
 defd:∀f h args p W p' W',H.defd f=some h->h args p W=some (p',W')->bC W W'
def f9(R:XK):Prop:=∀t o,R t=some o->bC (inW t) (ue o)
section
variable {P:Program} {R:XK} {N:Nat} {rd:Option Nat} {all:Array Oper}
theorem s9{W:XW}{ds:List cq}{o:Option XF}{r:O1}(h:iG W ds o=some r):r.W=W:=by
 unfold iG at h;split at h<;>cases h;rfl
theorem NG{fr:XF}{d:Option Tmp}{ds:List cq}{lp:Nat}{W:XW}{j:Option (LoopState×Option Code×Bool)}{o:Option ah}{r:O1}(h:og N fr d ds lp W j o=some r):bC W r.W:=by
 unfold og at h;split at h
 ·rw[s9 h];exact .put _ _ _
 cases h
theorem QZ(hR:f9 R){s:XS}{d:Option Tmp}{x:Option XR}{r:O1}(hm:∀v W',x=some (.mod v W')->bC s.W W')(h:ku R N rd s d x=some r):bC s.W r.W:=by
 unfold ku at h;split at h
 ·rw[s9 h];exact .refl _
 ·rw[s9 h];exact .push _ _
 ·rw[s9 h];exact hm _ _ rfl
 ·cases h;exact .refl _
 ·unfold Ey at h;split at h
  ·rw[s9 h];exact .refl _
  cases h
 ·rename_i f args;unfold mD at h;split at h
  ·rename_i v W hq;rw[s9 h];exact hR _ _ hq
  ·rename_i v W hq;cases h;exact hR _ _ hq
  cases h
 ·rename_i lp args;unfold qg at h;split at h
  ·unfold pI at h;split at h
   ·unfold pC at h;split at h
    ·rename_i s1 hq;have e1:bC s.W s1.W:=hR _ _ hq;refine e1.trans ?_;unfold pM at h;split at h
     ·unfold oW at h;split at h
      ·rename_i e s2 hq2;have e2:=hR _ _ hq2;exact(bC.put _ _ _).trans (e2.trans (NG h))
      cases h
     cases h
    cases h
   cases h
  cases h
 cases h
theorem oO(hR:f9 R){s:XS}{o:Oper}{r:O1}(h:iu P R N rd all s o=some r):bC s.W r.W:=by
 unfold iu oC at h;split at h
 ·exact QZ hR (fun v W' q=>y9 q) h
 ·rw[s9 h];exact .refl _
 cases h
theorem wO(hR:f9 R):∀(l:List Oper) (s:XS) (o:XO),fR P R N rd all l s=some o->bC s.W (ue o)
 |[],s,o,h=>by cases h;exact .refl _
 |x::l,s,o,h=>by
  unfold fR ze at h;split at h
  ·rename_i s1 hq;exact(oO hR hq).trans (wO hR l s1 o h)
  ·rename_i v s1 hq;cases h;exact oO hR hq
  cases h
theorem xH(hR:f9 R):∀(l:List Oper) (s:XS) (rs:List bp) (s':XS),aY P R N rd all l s=some (rs,s')->bC s.W s'.W
 |[],s,rs,s',h=>by cases h;exact .refl _
 |x::l,s,rs,s',h=>by
  unfold aY fV at h;split at h
  ·rename_i s1 hq;unfold cW at h;split at h
   ·rename_i l1 t hq2;cases h;exact(oO hR hq).trans (xH hR l s1 l1 _ hq2)
   cases h
  cases h
theorem Cq{W:XW}{k:XS->Option XO}{x:Option XO}{o:XO}(hx:∀q,x=some q->bC W (ue q))(hk:∀s q,k s=some q->bC s.W (ue q))(h:mr k x=some o):bC W (ue o):=by
 unfold mr at h;split at h
 ·rename_i s;exact(hx _ rfl).trans (hk _ _ h)
 exact hx _ h
theorem GQ{s:XS}{c:Option Code}{o:XO}(h:BH s c=some o):ue o=s.W:=by
 unfold BH at h;split at h<;>cases h<;>rfl
theorem MA(hR:f9 R){s:XS}{c:Code}{o:XO}(h:cD P R N rd s c=some o):bC s.W (ue o):=by
 unfold cD at h;split at h
 ·cases h;exact .refl _
 ·cases h;exact .refl _
 ·cases h;exact .refl _
 ·exact Cq (fun q e=>hR (.code N rd _ s) q e) (fun s q e=>hR (.code N rd _ s) q e) h
 ·unfold mB at h;split at h
  ·exact hR _ _ h
  cases h
 ·unfold nC at h;split at h
  ·rename_i i s1 hq;have e1:=hR _ _ hq;cases hb:Nat.beq i _<;>rw[hb]at h<;>cases h<;>exact e1
  exact hR _ _ h
 ·exact Cq (fun q e=>hR (.code N rd _ s) q e) (fun s q e=>hR (.code N rd _ s) q e) h
 ·exact wO hR _ _ _ h
 ·unfold BK at h;split at h
  ·rename_i rs s1 hq;cases hb:jG P _ s.ds.length rs<;>rw[hb]at h<;>cases h;exact xH hR _ _ _ _ hq
  cases h
 ·unfold Wq at h;split at h
  ·rename_i g a cap;unfold OZ at h;split at h
   ·rename_i d mk W hq;have e0:bC s.W W:=by
     unfold xY at hq;split at hq
     ·cases hq;exact .push _ _
     split at hq
     ·cases hq;exact .refl _
     cases hq
    refine e0.trans ?_;unfold Ox at h;split at h
    ·rename_i v W1 hq2;have e1:=hR _ _ hq2;refine(bC.push _ _).trans (e1.trans ?_);unfold zf at h;split at h
     ·rename_i st pend tm N' ps' asg' body' d' hq3;cases hb:nG st<;>rw[hb]at h
      ·rw[GQ h];exact .put _ _ _
      cases h
     cases h
    cases h
   cases h
  cases h
 cases h
theorem kn{H:ci}(hH:IU H):∀(ds:List cq) (p:Option Value) (W:XW) (p':Option Value) (W':XW),cU H ds p W=some (p',W')->bC W W'
 |[],p,W,p',W',h=>by cases h;exact .refl _
 |.mark r::ds,p,W,p',W',h=>by
  unfold cU at h;split at h
  ·exact(bC.put _ _ _).trans (kn hH ds _ _ _ _ h)
  cases h
 |.call f args cap::ds,p,W,p',W',h=>by
  unfold cU at h;split at h
  ·rename_i k hk;split at h
   ·rename_i p1 W1 hq;exact(hH.defd _ _ _ _ _ _ _ hk hq).trans (kn hH ds _ _ _ _ h)
   cases h
  cases h
theorem LM{H:ci}(hH:IU H)(hR:f9 R){f:FuncId}{args:List Value}{W:XW}{o:XO}(h:tq P H R f args W (H.call f)=some o):bC W (ue o):=by
 unfold tq at h;split at h
 ·rename_i k hk;unfold xZ at h;split at h
  ·rename_i v W1 hq;cases h;exact hH.call _ _ _ _ _ _ hk hq
  cases h
 unfold OV at h;split at h
 ·rename_i fn hf;refine(fun(q:JD P H R fn args W fn.body=some o)=>?_) (by cases hn:fh fn<;>rw[hn]at h<;>first|cases h|exact h);unfold JD at q;split at q
  ·rename_i c hc;cases hb:Nat.ble args.length fn.ntmps<;>rw[hb]at q
   ·cases q
   simp only[cond_true]at q;unfold BF at q;split at q
   ·rename_i e s hq;have e1:bC W s.W:=hR _ _ hq;refine e1.trans ?_;unfold Nl at q;split at q
    ·rename_i p hp;unfold pK at q;split at q
     ·rename_i v W1 hs;cases q;exact kn hH _ _ _ _ _ hs
     ·rename_i W1 hs;unfold wI at q;split at q
      ·cases q;exact kn hH _ _ _ _ _ hs
      cases q
     cases q
    cases q
   cases q
  cases q
 cases h
theorem jV{H:ci}(hH:IU H):∀n,f9 (bc P H n)
 |0=>fun t o h=>by cases h
 |n+1=>fun t o h=>by
  cases t with
  |code N rd c s=>exact MA (jV hH n) h
  |call f args W=>exact LM hH (jV hH n) h
end
inductive gy(ρ:Ren):List cq->List Deferred->Prop
 |nil:gy ρ [] []
 |call (f:FuncId) (args cap args' cap':List Value) (ds:List cq) (ds':List Deferred) (h1:aU ρ args args') (h2:aU ρ cap cap') (h:gy ρ ds ds') :
  gy ρ (.call f args cap::ds) (⟨.fn (.func f) cap'.toArray,args'.toArray⟩::ds')
 |mark (r:Nat) (i:RI) (ds:List cq) (ds':List Deferred) (hr:ρ r=some i) (h:gy ρ ds ds'):gy ρ (.mark r::ds) (⟨.collected i.b,#[]⟩::ds')
theorem gy.mono{ρ ρ':Ren}(hr:ρ.le ρ'):∀{ds:List cq} {ds':List Deferred},gy ρ ds ds'->gy ρ' ds ds'
 |_,_,.nil=>.nil
 |_,_,.call f a c a' c' ds ds' h1 h2 h=>.call f a c a' c' ds ds' (h1.mono hr) (h2.mono hr) (h.mono hr)
 |_,_,.mark r i ds ds' hq h=>.mark r i ds ds' (hr _ _ hq) (h.mono hr)
def tz(ρ:Ren):gV->Exit->Prop
 |.norm,.normal=>True
 |.exit i,.exit j=>i=j
 |.ret,.ret=>True
 |.pan v,.panic ch=>∃v',VR ρ v v'/\ch=[{ v:=v',recovered:=false }]
 |_,_=>False
def OT(ρ:Ren):aW->Ending->Prop
 |.ret v,.returned v'=>VR ρ v v'
 |.pan v,.panicked ch=>∃v',VR ρ v v'/\ch=[{ v:=v',recovered:=false }]
 |_,_=>False
def jo(ρ:Ren):Option Nat->Option Nat->Prop
 |none,none=>True
 |some l,some b=>∃i,ρ l=some i/\i.b=b
 |_,_=>False
theorem jo.mono{ρ ρ':Ren}(hr:ρ.le ρ'){a b:Option Nat}(h:jo ρ a b):jo ρ' a b:=by
 cases a<;>cases b<;>first|exact h|(obtain⟨i,h1,h2⟩:=h;exact⟨i,hr _ _ h1,h2⟩)
def FW(rb:Option Nat):Fence:={ Fence.wide with round:=rb }
def mF(P:Program)(ρ:Ren)(W:XW)(w:World)(N:Nat)(s':XS)(ρ':Ren)(a':Act)(w':World):Prop:=
 ca ρ W.get W.next w ρ' s'.W.get s'.W.next w'/\HR P ρ' s'.W.get w'/\FR ρ' N s'.fr a'.tmps/\gy ρ' s'.ds a'.defers
def QX(P:Program)(ρ:Ren)(W:XW)(w:World)(N:Nat)(e:gV)(s':XS)(ex:Exit)(a':Act)(w':World):Prop:=∃ρ',mF P ρ W w N s' ρ' a' w'/\tz ρ' e ex
def QF(P:Program)(ρ:Ren)(W:XW)(w:World)(e:aW)(W':XW)(en:Ending)(w':World):Prop:=
 ∃ρ',ca ρ W.get W.next w ρ' W'.get W'.next w'/\HR P ρ' W'.get w'/\OT ρ' e en
def cS(P:Program)(f:FuncId):Prop:=∃fn,P.funcs[f]?=some fn/\fh fn=true/\fn.body.isSome=true
def ji(P:Program)(R:XK):Prop:=∀N rd c s e s',R (.code N rd c s)=some (.code e s')->∀ρ rb a w m,jo ρ rd rb->cJ ρ s.W.next s'.W.next->HR P ρ s.W.get w ->
 FR ρ N s.fr a.tmps->gy ρ s.ds a.defers->c.wpIn (FW rb) m P (QX P ρ s.W w N e s') a w
def n9(P:Program)(R:XK):Prop:=∀f args W e W',R (.call f args W)=some (.fin e W')->cS P f/\∀ρ args' w m,cJ ρ W.next W'.next->HR P ρ W.get w->aU ρ args args' ->
 CallsIn Fence.wide m P f args'.toArray w (QF P ρ W w e W')
section
variable {P:Program} {ρ:Ren} {N:Nat}
theorem lv{f:FuncId}{args:Array Value}{w:World}(h:cS P f):(callFunc f args).run P w=.ok (.enter f args) w:=by
 obtain⟨fn,h1,h2,h3⟩:=h;unfold callFunc;rw[abU,wQ,abQ,h1];simp only;unfold fh at h2;have h2:(fn.name== "runtime.NumGoroutine")=false:=by simpa using h2
 have h3:fn.body.isNone=false:=by cases e:fn.body<;>rw[e]at h3<;>first|rfl|cases h3
 rw[if_neg (by rw[h2];exact acf),if_neg (by rw[h3];exact acf)];rfl
theorem tB{rb:Option Nat}{m:Nat}{f:FuncId}{args:Array Value}{w:World}{R:Ending->World->Prop}(h:CallsIn Fence.wide m P f args w R):CallsIn (FW rb) m P f args w R:=h
theorem FR.putT{fr fr':XF}{a:Act}{d:Option Tmp}{v:Option Value}{u:Value}(h:FR ρ N fr a.tmps)(hv:∀x,v=some x->VR ρ x u)(hp:cw N fr d v=some fr'):FR ρ N fr' (a.put d u).tmps:=by
 unfold cw at hp;split at hp
 ·cases hp;exact h
 rename_i t;cases ht:Nat.blt t N with
 |false=>rw[ht]at hp;cases hp
 |true=>
  rw[ht]at hp;cases hp;have hlt:t<N:=oU.1 ht;refine⟨by simpa[Act.put]using h.size,fun n x hx=>?_⟩;simp only[Act.put];rcases PT.set_some hx with⟨rfl,hq⟩|⟨hne,hq⟩
  ·have:n<a.tmps.size:=by rw[h.size];exact hlt
   simpa[Array.getD,this]using hv x hq
  have:=h.rep n x hq;have e:(a.tmps.setIfInBounds t u).getD n undef=a.tmps.getD n undef:=by simp only[acj,acB (Ne.symm hne)]
  rw[e];exact this
theorem cE(a:Act)(d:Option Tmp)(u:Value):(a.put d u).defers=a.defers:=by cases d<;>rfl
theorem kW{W:XW}{ds:List cq}{o:Option XF}{r:O1}(h:iG W ds o=some r):∃fr',o=some fr'/\r=.on ⟨fr',W,ds⟩:=by
 unfold iG at h;split at h<;>cases h;exact⟨_,rfl,rfl⟩
theorem sY{rb:Option Nat}{m:Nat}{o:Oper}{a:Act}{w w':World}{u:Value}{K:Act->World->Prop}{Q:Exit->Act->World->Prop}{S:Sem Next}(h:qj P S w u w')(hk:K (a.put o.dst u) w') :
 o.uponIn (FW rb) m P a K Q (S.run P w):=by
 rcases h with h|⟨h,rfl⟩<;>(rw[h];exact hk)
theorem Oq{o:Oper}{rd rb:Option Nat}{e:Operand->Value}(hrd:jo ρ rd rb)(h:rd=none\/∀c,o.op≠.defer c):o.semAt rb e=execOp e o:=by
 cases rb with
 |none=>rfl
 |some b=>
  rcases h with rfl|h
  ·exact hrd.elim
  exact Oper.semAt_eq _ _ _ h
theorem uz{fr:XF}{W:XW}{ty:TypeId}{c:Call}{r:XR}(h:cj P fr W ty (.defer c)=some r):∃f args cap,r=.defer f args cap:=by
 simp only[cj,wV]at h;split at h
 ·unfold Di at h;split at h
  ·cases h;exact⟨_,_,_,rfl⟩
  cases h
 cases h
theorem kJ{w:World}{b:Nat}{r:Loop}(h:w.heap[b]?=some (.loop r)):(Instr.getLoop b).run P w=.ok r w:=by
 unfold Instr.getLoop;rw[abU];simp only[getObj,Sem.run,h,abQ];rfl
theorem qO{w:World}{b:Nat}{r:Loop}{o:Obj}(h:w.heap[b]?=some (.loop r)):(setObj b o).run P w=.ok () (gH w b o):=by
 simp only[setObj,Sem.run,h,gH]
theorem zv{w:World}{b:Nat}{r:Loop}(h:w.heap[b]?=some (.loop r))(hs:r.state=.ready):(Instr.beginRound b).run P w=.ok () (gH w b (.loop { r with state:=.busy })):=by
 unfold Instr.beginRound;rw[abU,kJ h,abQ,abU,qO h,abQ,hs];rfl
theorem Cz{w:World}{b:Nat}{r:Loop}(j:Option Code)(h:w.heap[b]?=some (.loop r)):(Instr.endRound b j).run P w=.ok (.bool j.isNone) (gH w b (.loop { r with state:=if j.isNone then .ready else .done,pending:=j })):=by
 unfold Instr.endRound;rw[abU,kJ h,abQ,abU,qO h,abQ];rfl
theorem v8{w:World}{b:Nat}{r:Loop}(h:w.heap[b]?=some (.loop r))(hs:(r.state==.busy)=false):(Instr.endLoop b).run P w=.ok r.pending (gH w b (.loop { r with state:=.exhausted })):=by
 unfold Instr.endLoop;rw[abU,kJ h,abQ,hs];rw[if_neg acf];show Sem.run P (do setObj b _;pure r.pending) w=_;rw[abU,qO h,abQ];rfl
theorem vr:∀{ps:List Tmp} {vs us:List Value} {fr fr':XF} {tm:Array Value},FR ρ N fr tm->aU ρ vs us->lM N fr ps vs=some fr' ->
 FR ρ N fr' ((ps.zip us).foldl (fun tmps (t,a)=>tmps.setIfInBounds t a) tm)/\us.length=ps.length
 |[],_,_,fr,fr',tm,hF,.nil,h=>by cases h;exact⟨hF,rfl⟩
 |[],_,_,fr,fr',tm,hF,.cons v u vs us hv hs,h=>by cases h
 |t::ps,_,_,fr,fr',tm,hF,.nil,h=>by cases h
 |t::ps,_,_,fr,fr',tm,hF,.cons v u vs us hv hs,h=>by
  unfold lM at h;split at h
  ·rename_i fr1 h1;have:=FR.putT (a:={ tmps:=tm,defers:=[] }) (u:=u) hF (fun x e=>by cases e;exact hv) h1;obtain⟨q1,q2⟩:=vr this hs h;exact⟨q1,by simp[q2]⟩
  cases h
end
section
variable {P:Program} {ρ:Ren} {N:Nat} {R:XK}
theorem C3{W:XW}{w:World}{lp:Nat}{i:RI}{st0:LoopState}{pd0:Option Code}{tm:XF}{N':Nat}{ps:List Tmp}{asg body:Code}{df:Nat}(hH:HR P ρ W.get w)(hi:ρ lp=some i)
 (hg:W.get lp=some (.loop st0 pd0 tm N' ps asg body df)) (j:Option Code) :
 ∃w3,(Instr.endRound i.b j).run P w=.ok (.bool j.isNone) w3/\HR P ρ (W.put lp (some (.loop (if j.isNone then .ready else .done) j tm N' ps asg body df))).get w3 /\
  ca ρ W.get W.next w ρ (W.put lp (some (.loop (if j.isNone then .ready else .done) j tm N' ps asg body df))).get W.next w3:=by
 obtain⟨ob,hb,hor⟩:=hH.obj lp i _ hi hg;cases hor with
 |loop _ _ _ _ _ _ _ _ q fn tmps hd hFt=>
  obtain⟨p1,p2⟩:=hH.put hi (by rw[hg];simp) (.loop (if j.isNone then .ready else .done) j tm N' ps asg body df) (gO w i.b _) (ka hb) (.loop _ j tm N' ps asg body df q fn tmps hd hFt);exact⟨_,Cz j hb,p1,p2⟩
theorem XP(hR:f9 R)(hC:ji P R){fr:XF}{ds:List cq}{lp:Nat}{args args':List Value}{W:XW}{w:World}{i:RI}{r:O1}{a:Act}{rb:Option Nat}{m:Nat}{K:Act->World->Prop}{Q:Exit->Act->World->Prop}{o:Oper}
 (h:qg R N fr o.dst ds lp args W (W.get lp)=some r) (hi:ρ lp=some i) (hH:HR P ρ W.get w) (hargs:aU ρ args args') (hF:FR ρ N fr a.tmps) (hD:gy ρ ds a.defers) (hfr:cJ ρ W.next r.W.next)
 (hK:∀s',r=.on s'->∀ρ' a' w',(∃u,a'.tmps=(a.put o.dst u).tmps)->mF P ρ W w N s' ρ' a' w'->K a' w'):o.uponIn (FW rb) m P a K Q ((Instr.yield i.b args'.toArray).run P w):=by
 unfold qg at h;split at h
 ·rename_i pend tm N' ps asg body df hg;obtain⟨ob,hb,hor⟩:=hH.obj lp i _ hi hg;cases hor with
  |loop _ _ _ _ _ _ _ _ q fn tmps hd hFt=>
   unfold pI at h;split at h
   ·rename_i fr1 h1;obtain⟨hF1,hlen⟩:=vr hFt hargs h1;have hy:(Instr.yield i.b args'.toArray).run P w=.ok (.round i.b fn ((ps.zip args').foldl (fun tmps (t,a)=>tmps.setIfInBounds t a) tmps) asg body) w:=by
     unfold Instr.yield;rw[abU,kJ hb,abQ];simp only[List.size_toArray];rw[if_neg (by rw[hlen];exact fun e=>e rfl)];show Result.ok (Next.round _ _ _ _ _) w=_;congr 2;simp
    rw[hy,Oper.uponIn_round];refine⟨fun h=>(by cases h),roundIn_of_wpIn (F:=FW rb) trivial ?_⟩;unfold pC at h;split at h
    ·rename_i s1 hq1;unfold pM at h;split at h
     ·rename_i pend2 tm2 N2 ps2 asg2 body2 df2 hg2;unfold oW at h;split at h
      ·rename_i e s2 hq2;unfold og at h;split at h
       ·rename_i st pd rr st3 pd3 tm3 N3 ps3 asg3 body3 df3 hj hg3;obtain⟨fr',hp,rfl⟩:=kW h;have n1:W.next<=s1.W.next:=(hR _ _ hq1).next;have n2:s1.W.next<=s2.W.next:=(hR _ _ hq2).next;have hfr:cJ ρ W.next s2.W.next:=hfr;refine wpIn_mono (hC _ _ _ _ _ _ hq1 ρ (some i.b) { tmps:=_,defers:=[] } w _ ⟨i,hi,rfl⟩ (hfr.left n2) hH hF1 .nil) ?_;intro ex a1 w1 hq;obtain⟨ρ1,⟨hs1,hH1,hF1',hD1⟩,hex⟩:=hq;cases ex<;>first|exact hex.elim|skip
        have hi1:=hs1.le _ _ hi;obtain⟨ob1,hb1,hor1⟩:=hH1.obj lp i _ hi1 hg2;cases hor1 with
        |loop _ _ _ _ _ _ _ _ q1 fn1 tmps1 hd1 hFt1=>
         refine⟨_,zv hb1 rfl,?_⟩;obtain⟨p1,p2⟩:=hH1.put hi1 (by rw[hg2];simp) (.loop .busy pend2 tm2 N2 ps2 asg2 body2 df2) (gO w1 i.b _) (ka hb1) (.loop _ _ tm2 N2 ps2 asg2 body2 df2 q1 fn1 tmps1 hd1 hFt1);refine wpIn_mono (hC _ _ _ _ _ _ hq2 ρ1 (some i.b) a1 _ _ ⟨i,hi1,rfl⟩ (hfr.right hs1) p1 hF1' hD1) ?_;intro ex2 a2 w2 hq';obtain⟨ρ2,⟨hs2,hH2,hF2,hD2⟩,hex2⟩:=hq';have hi2:=hs2.le _ _ hi1;have hst:=(hs1.trans p2).trans hs2;have fin:∀(j:Option Code),st=(if j.isNone then .ready else .done)->pd=j->rr=j.isNone ->
          ∃v w',(Instr.endRound i.b j).run P w2=.ok v w'/\K (a.put o.dst v) w':=fun j e1 e2 e3=>by
          subst e1 e2 e3;obtain⟨w3,q1,q2,q3⟩:=C3 hH2 hi2 hg3 pd;exact⟨_,w3,q1,hK _ rfl ρ2 _ w3 ⟨_,rfl⟩ ⟨hst.trans q3,q2,FR.putT (hF.mono hst.le) (fun x e=>by cases e;exact .flat 1 _ rfl) hp,by rw[cE];exact hD.mono hst.le⟩⟩
         cases e<;>cases ex2<;>first|exact hex2.elim|skip
         ·cases hj;exact fin none rfl rfl rfl
         ·have hex2:=hex2;simp only[tz]at hex2;subst hex2;cases hj;exact fin (some (.exit _)) rfl rfl rfl
         ·cases hj;exact fin (some .ret) rfl rfl rfl
         cases hj
       cases h
      cases h
     cases h
    cases h
   cases h
 cases h
theorem jJ{all:Array Oper}{fr:XF}{tm:Array Value}{o:Oper}{b:Bool}(hF:FR ρ N fr tm)(h:gQ all fr o=some b):Region.wanted o (yielded all tm)=b:=by
 unfold gQ at h;unfold Region.wanted;cases hg:o.guard with
 |none=>rw[hg]at h;cases h;rfl
 |some jw=>
  obtain⟨j,w⟩:=jw;rw[hg]at h;simp only at h ⊢;unfold yielded;cases ht:(all[j]?).bind (·.dst)with
  |none=>rw[ht]at h;cases h
  |some t=>
   rw[ht]at h;simp only at h;cases hv:fr.get t with
   |none=>rw[hv]at h;cases h
   |some v=>
    rw[hv]at h;have hr:=hF.rep t v hv;simp only[Option.bind_some];cases v with
    |bool c=>
     have e:tm.getD t undef=.bool c:=hr.of_flat 1 rfl;have e2:tm[t]?=some (.bool c):=by
      rw[acj]at e;cases q:tm[t]? with
      |none=>rw[q]at e;cases e
      |some u=>rw[q]at e;simp at e;rw[e]
     rw[e2];simp only[va,Option.some.injEq]at h;subst h;cases c<;>cases w<;>rfl
    |_=>
     simp only[va,Option.some.injEq]at h;subst h;have hn:∀c,tm[t]?≠some (.bool c):=fun c q=>by
      have e:tm.getD t undef=.bool c:=by rw[acj,q];rfl
      rw[e]at hr;cases hr
     cases q:tm[t]? with
     |none=>rfl
     |some u=>cases u<;>first|rfl|exact absurd q (hn _)
theorem yJ(hR:f9 R)(hC:ji P R)(hF:n9 P R){rd rb:Option Nat}{s:XS}{o:Oper}{x:XR}{r:O1}{a:Act}{w:World}{m:Nat}{K:Act->World->Prop}{Q:Exit->Act->World->Prop}
 (hrd:jo ρ rd rb) (hd:rd=none\/∀c,o.op≠.defer c) (hX:cV P ρ s.W w (execOp a.eval o) x) (h:ku R N rd s o.dst (some x)=some r) (hfr:cJ ρ s.W.next r.W.next)
 (hH:HR P ρ s.W.get w) (hFR:FR ρ N s.fr a.tmps) (hD:gy ρ s.ds a.defers)
 (hK:∀s',r=.on s'->∀ρ' a' w',(∃u,a'.tmps=(a.put o.dst u).tmps)->mF P ρ s.W w N s' ρ' a' w'->K a' w')
 (hQ:∀v s',r=.out v s'->∀ρ' ex a' w',mF P ρ s.W w N s' ρ' a' w'->tz ρ' (.pan v) ex->Q ex a' w'):o.wpIn (FW rb) m P a w K Q:=by
 refine⟨fun _ _=>trivial,?_⟩;have hsem:o.semAt (FW rb).round a.eval=execOp a.eval o:=Oq hrd hd;rw[hsem];cases x with
 |val v=>
  obtain⟨u,hg,hv⟩:=hX;obtain⟨fr',hp,rfl⟩:=kW h;exact sY hg (hK _ rfl ρ _ _ ⟨_,rfl⟩ ⟨.refl _ _ _ _,hH,FR.putT hFR hv hp,by rw[cE];exact hD⟩)
 |new ob k=>
  obtain⟨fr',hp,rfl⟩:=kW h;obtain⟨u,ρ',w',hg,hs,hh,hv⟩:=hX (hfr _ (Nat.le_refl _) (aci _));exact sY hg (hK _ rfl ρ' _ _ ⟨_,rfl⟩ ⟨hs,hh,FR.putT (hFR.mono hs.le) (fun x e=>by cases e;exact hv) hp,by rw[cE];exact hD.mono hs.le⟩)
 |mod v W'=>
  obtain⟨fr',hp,rfl⟩:=kW h;obtain⟨u,ρ',w',hg,hs,hh,hv⟩:=hX hfr;exact sY hg (hK _ rfl ρ' _ _ ⟨_,rfl⟩ ⟨hs,hh,FR.putT (hFR.mono hs.le) (fun x e=>by cases e;exact hv) hp,by rw[cE];exact hD.mono hs.le⟩)
 |pan v=>
  cases h;obtain⟨v',hr,hv⟩:=hX;rw[hr];exact hQ _ _ rfl ρ _ a w ⟨.refl _ _ _ _,hH,hFR,hD⟩ ⟨v',hv,rfl⟩
 |«defer» f args cap=>
  obtain⟨as',cs',hr,h1,h2⟩:=hX;cases rd with
  |some l=>cases h
  |none=>
   obtain⟨fr',hp,rfl⟩:=kW h;rw[hr];refine hK _ rfl ρ _ w ⟨undef,by cases o.dst<;>rfl⟩ ⟨.refl _ _ _ _,hH,?_,?_⟩
   ·exact FR.putT (a:={ a with defers:=_::a.defers }) hFR (fun x e=>by cases e;exact pg) hp
   rw[cE];exact .call _ _ _ _ _ _ _ h1 h2 hD
 |enter f args=>
  obtain⟨args',hr,ha⟩:=hX;rw[hr];have h:mD N s.fr o.dst s.ds (R (.call f args s.W))=some r:=h;unfold mD at h;split at h
  ·rename_i v W1 hq;obtain⟨fr',hp,rfl⟩:=kW h;obtain⟨he,hc⟩:=hF _ _ _ _ _ hq;rw[lv he,Oper.uponIn_enter];refine⟨fun h=>(by cases h),CallsIn.mono (hc ρ args' w (m-1) hfr hH ha) fun en w' hq=>?_⟩;obtain⟨ρ',hs,hh,hen⟩:=hq;cases en<;>first|exact hen.elim|skip
   exact hK _ rfl ρ' _ _ ⟨_,rfl⟩ ⟨hs,hh,FR.putT (hFR.mono hs.le) (fun x e=>by cases e;exact hen) hp,by rw[cE];exact hD.mono hs.le⟩
  ·rename_i v W1 hq;cases h;obtain⟨he,hc⟩:=hF _ _ _ _ _ hq;rw[lv he,Oper.uponIn_enter];refine⟨fun h=>(by cases h),CallsIn.mono (hc ρ args' w (m-1) hfr hH ha) fun en w' hq=>?_⟩;obtain⟨ρ',hs,hh,hen⟩:=hq;cases en<;>first|exact hen.elim|skip
   exact hQ _ _ rfl ρ' _ a w' ⟨hs,hh,hFR.mono hs.le,hD.mono hs.le⟩ hen
  cases h
 |round l args=>
  obtain⟨i,args',hi,hr,ha⟩:=hX;rw[hr];exact XP hR hC h hi hH ha hFR hD hfr hK
theorem zS(hR:f9 R)(hC:ji P R)(hF:n9 P R){all:Array Oper}{rd rb:Option Nat}{s:XS}{o:Oper}{r:O1}{a:Act}{w:World}{m:Nat}{K:Act->World->Prop}{Q:Exit->Act->World->Prop}
 (hrd:jo ρ rd rb) (h:iu P R N rd all s o=some r) (hfr:cJ ρ s.W.next r.W.next) (hH:HR P ρ s.W.get w) (hFR:FR ρ N s.fr a.tmps) (hD:gy ρ s.ds a.defers)
 (hK:∀s',r=.on s'->∀ρ' a' w',(∃u,a'.tmps=(a.put o.dst u).tmps)->mF P ρ s.W w N s' ρ' a' w'->K a' w')
 (hQ:∀v s',r=.out v s'->∀ρ' ex a' w',mF P ρ s.W w N s' ρ' a' w'->tz ρ' (.pan v) ex->Q ex a' w') :
 if Region.wanted o (yielded all a.tmps)=true then o.wpIn (FW rb) m P a w K Q else(∀f,o.about P w a.eval=some f->(FW rb).fn f)/\K (a.put o.dst undef) w:=by
 unfold iu oC at h;split at h
 ·rename_i hw;rw[if_pos (jJ hFR hw)];cases hx:cj P s.fr s.W o.type o.op with
  |none=>rw[hx]at h;cases h
  |some x=>
   rw[hx]at h;refine yJ hR hC hF hrd ?_ (rj hH hFR.ev hx) h hfr hH hFR hD hK hQ;cases rd with
   |none=>exact .inl rfl
   |some l=>
    refine .inr fun c hc=>?_
    rw[hc]at hx;obtain⟨f,as,cap,rfl⟩:=uz hx;cases h
 ·rename_i hw;rw[if_neg (by rw[jJ hFR hw];exact acf)];obtain⟨fr',hp,rfl⟩:=kW h;exact⟨fun _ _=>trivial,hK _ rfl ρ _ _ ⟨_,rfl⟩ ⟨.refl _ _ _ _,hH,FR.putT hFR (fun x e=>by cases e;exact pg) hp,by rw[cE];exact hD⟩⟩
 cases h
theorem mF.trans'{W W1:XW}{w w1:World}{s':XS}{ρ1 ρ2:Ren}{a':Act}{w':World}(k:mF P ρ1 W1 w1 N s' ρ2 a' w')(h:ca ρ W.get W.next w ρ1 W1.get W1.next w1):mF P ρ W w N s' ρ2 a' w':=
 ⟨h.trans k.1,k.2⟩
theorem B9(hR:f9 R)(hC:ji P R)(hF:n9 P R){all:Array Oper}{rd rb:Option Nat}{m:Nat}{Q:Exit->Act->World->Prop}:∀(l:List Oper) (s:XS) (e:gV) (s':XS),fR P R N rd all l s=some (.code e s') ->
 ∀(ρ:Ren) (a:Act) (w:World),jo ρ rd rb->cJ ρ s.W.next s'.W.next->HR P ρ s.W.get w->FR ρ N s.fr a.tmps->gy ρ s.ds a.defers->(∀ex a' w',QX P ρ s.W w N e s' ex a' w'->Q ex a' w')->wpListIn (FW rb) m P all Q l a w
 |[],s,e,s',h,ρ,a,w,hrd,hfr,hH,hFR,hD,hQ=>by
  cases h;exact hQ .normal a w ⟨ρ,⟨.refl _ _ _ _,hH,hFR,hD⟩,trivial⟩
 |o::l,s,e,s',h,ρ,a,w,hrd,hfr,hH,hFR,hD,hQ=>by
  unfold fR ze at h;refine wpListIn_step fun K hK=>?_
  split at h
  ·rename_i s1 hq;have n1:s.W.next<=s1.W.next:=(oO hR hq).next;have n2:s1.W.next<=s'.W.next:=(wO hR _ _ _ h).next;refine zS hR hC hF hrd hq (hfr.left n2) hH hFR hD (fun s2 e2 ρ' a' w' _ ho=>?_) (fun v s2 e2=>by cases e2);cases e2;obtain⟨h1,h2,h3,h4⟩:=ho;refine hK _ _ (B9 hR hC hF l s1 e s' h ρ' a' w' (hrd.mono h1.le) (hfr.right h1) h2 h3 h4 fun ex a2 w2 hx=>?_);obtain⟨ρ2,k1,k2⟩:=hx;exact hQ _ _ _ ⟨ρ2,k1.trans' h1,k2⟩
  ·rename_i v s1 hq;cases h;exact zS hR hC hF hrd hq hfr hH hFR hD (fun s2 e2=>by cases e2) (fun v s2 e2 ρ' ex a' w' ho hx=>by cases e2;exact hQ _ _ _ ⟨ρ',ho,hx⟩)
  cases h
end
def pY(F:Fence)(n:Nat)(P:Program)(c:Code)(Q:Exit->Act->World->Prop)(a:Act)(w:World):Prop:=
 ∀(b:Frame) (k:List Item) (cs:List Frame),b.roundOf=F.round->F.fn b.fn->F.room (cs.length+1+n) ->
  ∃e a' w',Q e a' w'/\ArrivesIn (Machine.fenced P F) P (lone (b.atR a (.code c::.inLoop c::k)) cs w) b k cs e a' w'
section
variable {F:Fence} {n:Nat} {P:Program} {c:Code} {Q:Exit->Act->World->Prop} {a:Act} {w:World}
theorem yx(h:c.wpIn F n P (Exit.then (pY F n P c Q) Q) a w):pY F n P c Q a w:=by
 intro b k cs hro hb hr;obtain⟨e,a₁,w₁,hq,harr⟩:=h b (.inLoop c::k) cs hro hb hr;cases e with
 |normal=>
  obtain⟨e₂,a₂,w₂,hq₂,harr₂⟩:=hq b k cs hro hb hr;exact⟨e₂,a₂,w₂,hq₂,.of_steps (StepsIn.trans harr (.one (fenced_calm hb hr rfl) stepR_inLoop)) harr₂⟩
 |exit id=>exact⟨_,a₁,w₁,hq,.pass (x:=.inLoop c) rfl (fun _ _=>.inl (by simp)) harr⟩
 |goto l=>exact⟨_,a₁,w₁,hq,.pass (x:=.inLoop c) rfl (fun _ _=>.inl (by simp)) harr⟩
 |ret=>exact⟨_,a₁,w₁,hq,.pass (x:=.inLoop c) rfl (fun _ _=>.inl (by simp)) harr⟩
 |panic ch=>exact⟨_,a₁,w₁,hq,.pass (x:=.inLoop c) rfl (fun _ _=>.inl (by simp)) harr⟩
 |outgrown=>exact⟨_,a₁,w₁,hq,.pass (x:=.inLoop c) rfl (fun _ _=>.inl (by simp)) harr⟩
theorem EA(h:pY F n P c Q a w):(Code.loop c).wpIn F n P Q a w:=by
 intro b k cs hro hb hr;obtain⟨e,a',w',hq,harr⟩:=h b k cs hro hb hr;exact⟨e,a',w',hq,.of_steps (.one (fenced_calm hb hr rfl) stepR_loop) harr⟩
theorem IS{Q':Exit->Act->World->Prop}(h:pY F n P c Q a w)(hq:∀e a w,Q e a w->Q' e a w):pY F n P c Q' a w:=fun b k cs hro hb hr=>
 let⟨e,a',w',q,r⟩:=h b k cs hro hb hr
 ⟨e,a',w',hq _ _ _ q,r⟩
end
def W9(P:Program)(R:XK):Prop:=∀N rd b s e s',R (.code N rd (.loop b) s)=some (.code e s')->∀ρ rb a w m,jo ρ rd rb->cJ ρ s.W.next s'.W.next->HR P ρ s.W.get w ->
 FR ρ N s.fr a.tmps->gy ρ s.ds a.defers->pY (FW rb) m P b (QX P ρ s.W w N e s') a w
def OU(P:Program)(R:XK):Prop:=∀N rd id ops s rs s',aY P R N rd ops ops.toList s=some (rs,s')->jG P ops s.ds.length rs=true->∀ρ rb a w m,jo ρ rd rb->cJ ρ s.W.next s'.W.next->HR P ρ s.W.get w ->
 FR ρ N s.fr a.tmps->gy ρ s.ds a.defers->(Code.region id ops true).wpIn (FW rb) m P (QX P ρ s.W w N .norm s') a w
section
variable {P:Program} {ρ:Ren} {N:Nat} {R:XK}
theorem QX.trans'{W W1:XW}{w w1:World}{e:gV}{s':XS}{ρ1:Ren}{ex:Exit}{a':Act}{w':World}(k:QX P ρ1 W1 w1 N e s' ex a' w')(h:ca ρ W.get W.next w ρ1 W1.get W1.next w1):QX P ρ W w N e s' ex a' w':=by
 obtain⟨ρ2,k1,k2⟩:=k;exact⟨ρ2,k1.trans' h,k2⟩
theorem Bg{s:XS}{rd rb:Option Nat}{a:Act}{w:World}{fn:FuncId}{ps:List Tmp}{asg body:Code}{d:Nat}{mk:List cq}{W1:XW}(hrd:jo ρ rd rb)(he:xY s.W rd=some (d,mk,W1))
 (hfr:cJ ρ s.W.next (W1.next+1)) (hH:HR P ρ s.W.get w) (hFR:FR ρ N s.fr a.tmps) :
 ∃l mark w2 ρ2 i2,(Instr.enterLoop fn a.tmps ps.toArray asg body rb).run P w=.ok (l,mark) w2/\HR P ρ2 (W1.push (.loop .ready none s.fr N ps asg body d)).get w2 /\
  ca ρ s.W.get s.W.next w ρ2 (W1.push (.loop .ready none s.fr N ps asg body d)).get (W1.next+1) w2/\ρ2 W1.next=some i2/\i2.b=l/\gy ρ2 mk mark:=by
 cases rd with
 |none=>
  cases rb with
  |some b=>exact hrd.elim
  |none=>
   cases he;have h0:ρ s.W.next=none:=hfr _ (Nat.le_refl _) (by show s.W.next<s.W.next+1+1;omega);obtain⟨p1,p2⟩:=hH.push h0 (.defd false) (.deferred (some [])) ⟨w.heap.size,0,0,0,0⟩ rfl .defd0;have hfr1:cJ _ (s.W.push (.defd false)).next (s.W.next+2):=hfr.right p2;have h1:=hfr1 _ (Nat.le_refl _) (by show s.W.next+1<s.W.next+2;omega);obtain⟨q1,q2⟩:=p1.push h1 (.loop .ready none s.fr N ps asg body s.W.next) (.loop { state:=.ready,pending:=none,fn,tmps:=a.tmps,params:=ps.toArray,assign:=asg,body,defers:=w.heap.size })
    ⟨(w.alloc (.deferred (some []))).heap.size,0,0,0,0⟩ rfl (.loop _ _ _ _ _ _ _ _ ⟨w.heap.size,0,0,0,0⟩ fn a.tmps (gj _ h1 _ _ (cG _ _ _)) ((hFR.mono p2.le).mono (gj _ h1)))
   refine⟨_,_,_,_,_,rfl,q1,p2.trans q2,cG _ _ _,rfl,?_⟩;exact .mark _ ⟨w.heap.size,0,0,0,0⟩ _ _ (gj _ h1 _ _ (cG _ _ _)) .nil
 |some l=>
  cases rb with
  |none=>exact hrd.elim
  |some b=>
   obtain⟨i,hi,hib⟩:=hrd;subst hib;simp only[xY]at he;split at he
   ·rename_i hg;cases he;obtain⟨ob,hb,hor⟩:=hH.obj l i _ hi hg;cases hor with
    |loop _ _ _ _ _ _ _ _ q fn' tmps hd hFt=>
     have h1:ρ s.W.next=none:=hfr _ (Nat.le_refl _) (aci _);obtain⟨q1,q2⟩:=hH.push h1 (.loop .ready none s.fr N ps asg body d) (.loop { state:=.ready,pending:=none,fn,tmps:=a.tmps,params:=ps.toArray,assign:=asg,body,defers:=q.b })
      ⟨w.heap.size,0,0,0,0⟩ rfl (.loop _ _ _ _ _ _ _ _ q fn a.tmps (gj _ h1 _ _ hd) (hFR.mono (gj _ h1)))
     refine⟨_,[],_,_,_,?_,q1,q2,cG _ _ _,rfl,.nil⟩;unfold Instr.enterLoop;simp only[abU,kJ hb,abQ];rfl
   cases he
theorem gy.append{ds1 ds2:List cq}{l1 l2:List Deferred}(h:gy ρ ds1 l1)(k:gy ρ ds2 l2):gy ρ (ds1++ds2) (l1++l2):=by
 induction h with
 |nil=>exact k
 |call f a c a' c' ds ds' h1 h2 _ ih=>exact .call f a c a' c' _ _ h1 h2 ih
 |mark r i ds ds' hr _ ih=>exact .mark r i _ _ hr ih
theorem Dk(hm:P.follows .mixedOrders=true)(hR:f9 R)(hC:ji P R)(hF:n9 P R)(hL:W9 P R)(hDr:OU P R){rd rb:Option Nat}{s:XS}{c:Code}{e:gV}{s':XS}{a:Act}{w:World}{m:Nat}
 (h:cD P R N rd s c=some (.code e s')) (hrd:jo ρ rd rb) (hfr:cJ ρ s.W.next s'.W.next) (hH:HR P ρ s.W.get w) (hFR:FR ρ N s.fr a.tmps) (hD:gy ρ s.ds a.defers) :
 c.wpIn (FW rb) m P (QX P ρ s.W w N e s') a w/\∀b,c=.loop b->pY (FW rb) m P b (QX P ρ s.W w N e s') a w:=by
 have self:∀ex,tz ρ e ex->s'=s->QX P ρ s.W w N e s' ex a w:=fun ex hx hs=>⟨ρ,by subst hs;exact⟨.refl _ _ _ _,hH,hFR,hD⟩,hx⟩
 have sq:∀(x y:Code),mr (fun s=>R (.code N rd y s)) (R (.code N rd x s))=some (.code e s') ->
  ∀{K:Act->World->Prop},(∀s1 ρ1 a1 w1,R (.code N rd y s1)=some (.code e s')->jo ρ1 rd rb->cJ ρ1 s1.W.next s'.W.next->HR P ρ1 s1.W.get w1->FR ρ1 N s1.fr a1.tmps->gy ρ1 s1.ds a1.defers ->
   ca ρ s.W.get s.W.next w ρ1 s1.W.get s1.W.next w1->K a1 w1)->x.wpIn (FW rb) m P (Exit.then K (QX P ρ s.W w N e s')) a w:=by
  intro x y hq K hK;unfold mr at hq;split at hq
  ·rename_i s1 h1;have n1:s.W.next<=s1.W.next:=(hR _ _ h1).next;have n2:s1.W.next<=s'.W.next:=(hR _ _ hq).next;refine wpIn_mono (hC _ _ _ _ _ _ h1 ρ rb a w m hrd (hfr.left n2) hH hFR hD) fun ex a1 w1 hx=>?_
   obtain⟨ρ1,⟨k1,k2,k3,k4⟩,hex⟩:=hx;cases ex<;>first|exact hex.elim|skip
   exact hK s1 ρ1 a1 w1 hq (hrd.mono k1.le) (hfr.right k1) k2 k3 k4 k1
  rename_i hne;refine wpIn_mono (hC _ _ _ _ _ _ hq ρ rb a w m hrd hfr hH hFR hD) fun ex a1 w1 hx=>?_
  cases ex with
  |normal=>
   obtain⟨ρ1,hk,hex⟩:=hx;cases e<;>first|exact hex.elim|skip
   exact absurd hq (hne _)
  |_=>exact hx
 unfold cD at h;split at h
 ·cases h;exact⟨wpIn_skip (self .normal trivial rfl),fun b hb=>by cases hb⟩
 ·cases h;exact⟨wpIn_ret (self .ret trivial rfl),fun b hb=>by cases hb⟩
 ·cases h;exact⟨wpIn_exit (self (.exit _) rfl rfl),fun b hb=>by cases hb⟩
 ·rename_i x y;refine⟨wpIn_seq (sq x y h fun s1 ρ1 a1 w1 g1 g2 g3 g4 g5 g6 g7=>?_),fun b hb=>by cases hb⟩;exact wpIn_mono (hC _ _ _ _ _ _ g1 ρ1 rb a1 w1 m g2 g3 g4 g5 g6) fun ex a2 w2 hx=>hx.trans' g7
 ·rename_i c x y;unfold mB at h;split at h
  ·rename_i t ht;have e1:a.eval c=.bool t:=(hFR.ev c _ ht).of_flat 1 rfl;refine⟨wpIn_cond e1 ?_,fun b hb=>by cases hb⟩;have h:=hC _ _ _ _ _ _ h ρ rb a w m hrd hfr hH hFR hD;cases t<;>exact h
  cases h
 ·rename_i id b;refine⟨wpIn_block ?_,fun b hb=>by cases hb⟩;unfold nC at h;split at h
  ·rename_i i s1 hq;cases hb:Nat.beq i id with
   |true=>
    rw[hb]at h;cases h;have hid:i=id:=abY hb;refine wpIn_mono (hC _ _ _ _ _ _ hq ρ rb a w m hrd hfr hH hFR hD) fun ex a1 w1 hx=>?_
    obtain⟨ρ1,k1,k2⟩:=hx;cases ex<;>first|exact k2.elim|skip
    simp only[tz]at k2;subst k2;simp only[Exit.inBlock,hid,if_true];exact⟨ρ1,k1,trivial⟩
   |false=>
    rw[hb]at h;cases h;have hid:i≠id:=Nat.ne_of_beq_eq_false hb;refine wpIn_mono (hC _ _ _ _ _ _ hq ρ rb a w m hrd hfr hH hFR hD) fun ex a1 w1 hx=>?_
    obtain⟨ρ1,k1,k2⟩:=hx;cases ex<;>first|exact k2.elim|skip
    simp only[tz]at k2;subst k2;simp only[Exit.inBlock,hid,if_false];exact⟨ρ1,k1,rfl⟩
  rename_i hne;refine wpIn_mono (hC _ _ _ _ _ _ h ρ rb a w m hrd hfr hH hFR hD) fun ex a1 w1 hx=>?_
  cases ex with
  |exit id'=>
   obtain⟨ρ1,hk,hex⟩:=hx;cases e<;>first|exact hex.elim|skip
   exact absurd h (hne _ _)
  |_=>exact hx
 ·rename_i b;have hl:pY (FW rb) m P b (QX P ρ s.W w N e s') a w:=yx (sq b (.loop b) h fun s1 ρ1 a1 w1 g1 g2 g3 g4 g5 g6 g7=>
   IS (hL _ _ _ _ _ _ g1 ρ1 rb a1 w1 m g2 g3 g4 g5 g6) fun ex a2 w2 hx=>hx.trans' g7)
  exact⟨EA hl,fun b' hb=>by cases hb;exact hl⟩
 ·refine⟨wpIn_region_list (B9 hR hC hF _ _ _ _ h ρ a w hrd hfr hH hFR hD fun _ _ _ hx=>hx),fun b hb=>by cases hb⟩
 ·rename_i id ops;unfold BK at h;split at h
  ·rename_i rs s1 hq;cases hb:jG P ops s.ds.length rs<;>rw[hb]at h<;>cases h;exact⟨hDr _ _ id _ _ _ _ hq hb ρ rb a w m hrd hfr hH hFR hD,fun b hb=>by cases hb⟩
  cases h
 ·rename_i f ps asg body;refine⟨?_,fun b hb=>by cases hb⟩;unfold Wq at h;split at h
  ·rename_i g xs cap hv;obtain⟨xs',cs',hx,hv1,hv2⟩:=(hFR.ev f _ hv).funcInv;unfold OZ at h;split at h
   ·rename_i d mk W1 he;unfold Ox at h;split at h
    ·rename_i v W2 hq;unfold zf at h;split at h
     ·rename_i st pend tm N2 ps2 asg2 body2 d2 hg;cases hbz:nG st<;>rw[hbz]at h
      ·simp only[cond_false]at h;have hW:s'.W=W2.put W1.next (some (.loop .exhausted pend tm N2 ps2 asg2 body2 d2)):=by
        have:=GQ h;exact this
       have n1:W1.next+1<=W2.next:=(hR _ _ hq).next;have n2:s'.W.next=W2.next:=by rw[hW];rfl
       rw[n2]at hfr;refine wpIn_rangeFunc fun fn _=>?_
       obtain⟨l,mark,w1,ρ1,i1,e1,e2,e3,e4,e5,e6⟩:=Bg (ps:=ps.toList) (asg:=asg) (body:=body) (fn:=fn) hrd he (hfr.left n1) hH hFR;rw[acR]at e1;obtain⟨hen,hcall⟩:=hF _ _ _ _ _ hq;have hres:(resolve a.eval (rangeCall f l) 0).run P w1=.ok ⟨.fn (.func g) cs'.toArray,xs'.toArray++#[Value.func (.yield l) #[] #[]]⟩ w1:=by show(Deferred.ofValue (a.eval f) (#[Operand.const (.func (.yield l) #[] #[])].map a.eval)).run P w1=_;rw[hx];simp only[List.map_toArray,ack,acI,Act.eval];rfl
       refine⟨l,mark,w1,_,w1,g,xs'.toArray++#[Value.func (.yield l) #[] #[]]++cs'.toArray,w1,e1,hres,fun _ _=>trivial,lv hen,fun h=>(by cases h),?_⟩;have hvr:aU ρ1 (xs.toList++[Value.func (.yield W1.next) #[] #[]]++cap.toList) (xs'++[Value.func (.yield l) #[] #[]]++cs'):=by refine((hv1.mono e3.le).append (.cons _ _ _ _ ?_ .nil)).append (hv2.mono e3.le);rw[<-e5];exact .yield _ i1 e4
       have hc:=hcall ρ1 _ w1 (m-1) (hfr.right e3) e2 hvr;have ea:(xs'.toArray++#[Value.func (.yield l) #[] #[]]++cs'.toArray)=(xs'++[Value.func (.yield l) #[] #[]]++cs').toArray:=by apply Array.ext';simp
       rw[<-ea]at hc;refine CallsIn.mono (tB hc) fun en w2 hqf=>?_
       obtain⟨ρ2,s2,h2,hen⟩:=hqf;cases en<;>first|exact hen.elim|skip
       have hi2:=s2.le _ _ e4;obtain⟨ob,hb,hor⟩:=h2.obj _ i1 _ hi2 hg;cases hor with
       |loop _ _ _ _ _ _ _ _ q fn2 tmps2 hd2 hFt2=>
        obtain⟨p1,p2⟩:=h2.put hi2 (by rw[hg];simp) (.loop .exhausted pend tm N2 ps2 asg2 body2 d2) (gO w2 i1.b _) (ka hb) (.loop _ pend tm N2 ps2 asg2 body2 d2 q fn2 tmps2 hd2 hFt2);have hend:=v8 (P:=P) hb (show(st==LoopState.busy)=false by cases st<;>first|rfl|cases hbz);rw[e5]at hend p1 p2;refine⟨_,_,hend,?_⟩;have hst:=(e3.trans s2).trans p2;have fin:∀ex,tz ρ2 e ex->s'=⟨s.fr,W2.put W1.next (some (.loop .exhausted pend tm N2 ps2 asg2 body2 d2)),mk++s.ds⟩ ->
         QX P ρ s.W w N e s' ex { a with defers:=mark++a.defers } _:=fun ex hx hs=>⟨ρ2,by
         subst hs;exact⟨hst,p1,hFR.mono hst.le,((e6.mono s2.le).append (hD.mono hst.le))⟩,hx⟩
        unfold BH at h;split at h
        ·cases h;exact fin .normal trivial rfl
        ·cases h;exact wpIn_ret (fin .ret trivial rfl)
        ·cases h;exact wpIn_exit (fin (.exit _) rfl rfl)
        cases h
      cases h
     cases h
    cases h
   cases h
  cases h
 cases h
end
theorem Ca{α β γ:Type}(x:Sem α)(f:α->Sem β)(g:β->Sem γ):(x.bind f).bind g=x.bind (fun a=>(f a).bind g):=by
 induction x<;>simp only[Sem.bind, *]
theorem E0{α:Type}(x:Sem α):x.bind Sem.pure=x:=by
 induction x<;>simp only[Sem.bind, *]
theorem AA:LawfulMonad Sem:=LawfulMonad.mk' Sem (id_map:=fun x=>E0 x) (pure_bind:=fun _ _=>rfl) (bind_assoc:=fun x f g=>Ca x f g)
def ix(ρ:Ren):Option Value->FrameMode->Prop
 |none,.returning=>True
 |some v,.panicking ch=>∃v',VR ρ v v'/\ch=[{ v:=v',recovered:=false }]
 |_,_=>False
structure wK(P:Program)(H:ci):Prop where
 ext:IU H
 enters:∀f h,H.call f=some h->cS P f
 call:∀f h args W e W',H.call f=some h->h args W=some (e,W')->∀ρ args' w m,cJ ρ W.next W'.next->HR P ρ W.get w->aU ρ args args'->CallsIn Fence.wide m P f args'.toArray w (QF P ρ W w e W')
 entersD:∀f h,H.defd f=some h->cS P f
 defd:∀f h args p W p' W',H.defd f=some h->h args p W=some (p',W')->∀ρ args' w m u,cJ ρ W.next W'.next->HR P ρ W.get w->aU ρ args args'->ix ρ p u ->
  CallsDIn Fence.wide m P f args'.toArray u w fun en u' w'=>(∃v,en=.returned v)/\∃ρ',ca ρ W.get W.next w ρ' W'.get W'.next w'/\HR P ρ' W'.get w'/\ix ρ' p' (settle u')
section
variable {P:Program} {ρ:Ren}
theorem Of{W:XW}{w:World}{fr:XF}{N:Nat}{tm:Array Value}{g:ResultVar->Sem Value}(hg1:∀t,g (.tmp t)=pure (tm.getD t undef))(hg2:∀a t,g (.cell a t)=do loadVar t (<-asAddr (tm.getD a undef)))
 {r:ResultVar} {v:Value} (hH:HR P ρ W.get w) (hF:FR ρ N fr tm) (h:Dg P W fr r=some v):∃u,(g r).run P w=.ok u w/\VR ρ v u:=by
 unfold Dg at h;split at h
 ·rw[hg1];exact⟨_,rfl,hF.rep _ _ h⟩
 rename_i a t;split at h
 ·rename_i p hp;obtain⟨b,u,h1,h2,h3⟩:=AM hH (hF.rep _ _ hp) h;refine⟨u,?_,h3⟩;rw[hg2,h1];exact h2
 cases h
theorem B8{W:XW}{w:World}{fr:XF}{N:Nat}{tm:Array Value}{g:ResultVar->Sem Value}(hg1:∀t,g (.tmp t)=pure (tm.getD t undef))(hg2:∀a t,g (.cell a t)=do loadVar t (<-asAddr (tm.getD a undef)))
 (hH:HR P ρ W.get w) (hF:FR ρ N fr tm):∀(l:List ResultVar) (vs:List Value),rL P W fr l=some vs->∃us,(l.mapM g).run P w=.ok us w/\aU ρ vs us
 |[],vs,h=>by cases h;exact⟨[],rfl,.nil⟩
 |r::l,vs,h=>by
  unfold rL at h;split at h
  ·rename_i v us h1 h2;cases h;obtain⟨u,q1,q2⟩:=Of hg1 hg2 hH hF h1;obtain⟨us',q3,q4⟩:=B8 hg1 hg2 hH hF l us h2;refine⟨u::us',?_,.cons _ _ _ _ q2 q4⟩;have:=AA;rw[List.mapM_cons,abU,q1,abQ,abU,q3,abQ];rfl
  cases h
theorem KO{vs us:List Value}(h:aU ρ vs us):VR ρ (uL vs) (if h:us.toArray.size=1 then us.toArray[0]else .tuple us.toArray):=by
 cases h with
 |nil=>exact .tuple [] [] .nil
 |cons v u l l' hv hs=>
  cases hs with
  |nil=>exact hv
  |cons v2 u2 l2 l2' hv2 hs2=>
   rw[dif_neg (by simp)];exact .tuple _ _ (.cons _ _ _ _ hv (.cons _ _ _ _ hv2 hs2))
def Wi(tm:Array Value):ResultVar->Sem Value
 |.tmp t=>pure (tm.getD t undef)
 |.cell a t=>do loadVar t (<-asAddr (tm.getD a undef))
theorem IM(fn:Func)(tm:Array Value):results fn tm=(do let vs <-fn.results.mapM (Wi tm);pure (if h:vs.size=1 then vs[0]else .tuple vs)):=rfl
theorem qt{W:XW}{w:World}{fr:XF}{N:Nat}{tm:Array Value}{fn:Func}{vs:List Value}(hH:HR P ρ W.get w)(hF:FR ρ N fr tm)(h:rL P W fr fn.results.toList=some vs) :
 ∃u,(results fn tm).run P w=.ok u w/\VR ρ (uL vs) u:=by
 have:=AA;obtain⟨us,h1,h2⟩:=B8 (g:=Wi tm) (fun _=>rfl) (fun _ _=>rfl) hH hF _ _ h;refine⟨_,?_,KO h2⟩;rw[IM,Array.mapM_eq_mapM_toList,map_eq_pure_bind,abU,abU,h1];rfl
theorem run_takeDeferred{w:World}{b:Nat}(h:w.heap[b]?=some (.deferred (some []))):(Instr.takeDeferred b).run P w=.ok [] (gH w b (.deferred none)):=by
 unfold Instr.takeDeferred;rw[abU];simp only[getObj,Sem.run,h,abQ];rw[abU];simp only[setObj,Sem.run,h,abQ];rfl
theorem Gd{p:Option Value}{u:FrameMode}(h:ix ρ p u):u≠.run:=by
 rintro rfl;cases p<;>exact h
theorem ix.mono{ρ':Ren}(hr:ρ.le ρ'){p:Option Value}{u:FrameMode}(h:ix ρ p u):ix ρ' p u:=by
 cases p with
 |none=>cases u<;>exact h
 |some v=>
  cases u<;>first|exact h|skip
  obtain⟨v',h1,h2⟩:=h;exact⟨v',h1.mono hr,h2⟩
theorem ou{H:ci}(hS:wK P H){fn:Func}{tm:Array Value}{T:Ending->World->Prop}{m:Nat}{p':Option Value}{W':XW}:∀(ds:List cq) (p:Option Value) (W:XW),cU H ds p W=some (p',W') ->
 ∀(ρ:Ren) (l:List Deferred) (w:World) (u:FrameMode),cJ ρ W.next W'.next->HR P ρ W.get w->gy ρ ds l->ix ρ p u ->
 (∀ρ' u' w',ca ρ W.get W.next w ρ' W'.get W'.next w'->HR P ρ' W'.get w'->ix ρ' p' u'->LeavesIn Fence.wide m P fn tm T [] u' w')->LeavesInM Fence.wide m P fn tm T l u w
 |[],p,W,h,ρ,l,w,u,hfr,hH,hD,hp,hk=>by
  cases h;cases hD;exact hk ρ u w (.refl _ _ _ _) hH hp
 |.mark r::ds,p,W,h,ρ,l,w,u,hfr,hH,hD,hp,hk=>by
  cases hD with
  |mark _ i _ ds' hr hD=>
   unfold cU at h;split at h
   ·rename_i hg;obtain⟨ob,hb,hor⟩:=hH.obj r i _ hr hg;cases hor;obtain⟨p1,p2⟩:=hH.put hr (by rw[hg];simp) (.defd true) (gO w i.b _) (ka hb) .defd1;refine⟨Gd hp,.inl ⟨i.b,_,rfl,run_takeDeferred hb,?_⟩⟩;exact ou hS ds p _ h ρ ds' _ u hfr p1 hD hp fun ρ' u' w' g1 g2 g3=>hk ρ' u' w' (p2.trans g1) g2 g3
   cases h
 |.call f args cap::ds,p,W,h,ρ,l,w,u,hfr,hH,hD,hp,hk=>by
  cases hD with
  |call _ _ _ args' cap' _ ds' h1 h2 hD=>
   unfold cU at h;split at h
   ·rename_i k hkk;split at h
    ·rename_i p1 W1 hq;have n1:W.next<=W1.next:=(hS.ext.defd _ _ _ _ _ _ _ hkk hq).next;have n2:W1.next<=W'.next:=(kn hS.ext _ _ _ _ _ h).next;have hen:=hS.entersD _ _ hkk;have ea:args'.toArray++cap'.toArray=(args'++cap').toArray:=by simp
     refine⟨Gd hp,.inr ⟨fun h=>(by cases h),.func f,cap'.toArray,f,args'.toArray++cap'.toArray,rfl,lv hen,fun _ _=>trivial,?_⟩⟩;rw[ea];refine CallsDIn.mono (hS.defd _ _ _ _ _ _ _ hkk hq ρ _ w (m-1) u (hfr.left n2) hH (h1.append h2) hp) fun en u' w' g=>?_
     obtain⟨⟨v,rfl⟩,ρ1,g1,g2,g3⟩:=g;exact ou hS ds p1 W1 h ρ1 ds' w' (settle u') (hfr.right g1) g2 (hD.mono g1.le) g3 fun ρ' u2 w2 k1 k2 k3=>hk ρ' u2 w2 (g1.trans k1) k2 k3
    cases h
   cases h
theorem x7:∀(l:List Value) (fr:XF) (n t:Nat) (v:Value),(xD fr n l).get t=some v->(n<=t/\l[t-n]?=some v)\/fr.get t=some v
 |[],fr,n,t,v,h=>.inr h
 |u::l,fr,n,t,v,h=>by
  rcases x7 l _ _ t v h with⟨h1,h2⟩|h
  ·refine .inl ⟨by omega,?_⟩;have:t-n=t-(n+1)+1:=by omega
   rw[this];simpa using h2
  rcases PT.set_some h with⟨rfl,hq⟩|⟨_,hq⟩
  ·exact .inl ⟨Nat.le_refl _,by simpa using hq⟩
  exact .inr hq
theorem wG{args args':List Value}{N:Nat}(h:aU ρ args args')(hN:args.length<=N):FR ρ N (yK args) (args'.toArray++Array.replicate (N-args'.toArray.size) undef):=by
 have hl:=h.length;refine⟨by simp;omega,fun t v hv=>?_⟩;rcases x7 _ _ _ _ _ hv with⟨_,h1⟩|h1
 ·obtain⟨u,q1,q2⟩:=h.get t v (by simpa using h1);have:(args'.toArray++Array.replicate (N-args'.toArray.size) undef).getD t undef=u:=by
   rw[acj,Array.getElem?_append_left (by
    have:=(List.getElem?_eq_some_iff.1 q1).1;simpa using this)]
   simp[q1]
  rw[this];exact q2
 rw[PT.get_full]at h1;cases h1
theorem N0{H:ci}{R:XK}(hS:wK P H)(hR:f9 R)(hC:ji P R){f:FuncId}{args:List Value}{W:XW}{e:aW}{W':XW}(h:tq P H R f args W (H.call f)=some (.fin e W')) :
 cS P f/\∀ρ args' w m,cJ ρ W.next W'.next->HR P ρ W.get w->aU ρ args args'->CallsIn Fence.wide m P f args'.toArray w (QF P ρ W w e W'):=by
 unfold tq at h;split at h
 ·rename_i k hk;unfold xZ at h;split at h
  ·rename_i v W1 hq;cases h;exact⟨hS.enters _ _ hk,hS.call _ _ _ _ _ _ hk hq⟩
  cases h
 unfold OV at h;split at h
 ·rename_i fn hf;cases hn:fh fn<;>rw[hn]at h
  ·cases h
  have h:JD P H R fn args W fn.body=some (.fin e W'):=h;unfold JD at h;split at h
  ·rename_i c hc;cases hb:Nat.ble args.length fn.ntmps<;>rw[hb]at h
   ·cases h
   have h:BF P H fn (R (.code fn.ntmps none c ⟨yK args,W,[]⟩))=some (.fin e W'):=h;refine⟨⟨fn,hf,hn,by rw[hc];rfl⟩,fun ρ args' w m hfr hH hA=>?_⟩;unfold BF at h;split at h
   ·rename_i ex s hq;unfold Nl at h;split at h
    ·rename_i p hp;have n1:W.next<=s.W.next:=(hR _ _ hq).next;have key:∀W2 p2,cU H s.ds p s.W=some (p2,W2)->W'.next=W2.next->(∀ρ' u' w',ca ρ W.get W.next w ρ' W2.get W2.next w'->HR P ρ' W2.get w'->ix ρ' p2 u'->∀tm,FR ρ' fn.ntmps s.fr tm->LeavesIn Fence.wide m P fn tm (QF P ρ W w e W') [] u' w') ->
      CallsIn Fence.wide m P f args'.toArray w (QF P ρ W w e W'):=fun W2 p2 hs hW hk=>by
      rw[hW]at hfr;have n2:s.W.next<=W2.next:=(kn hS.ext _ _ _ _ _ hs).next;refine callsIn_of_wp_marks hf hc trivial (wpIn_mono (hC _ _ _ _ _ _ hq ρ none { tmps:=_,defers:=[] } w m trivial (hfr.left n2) hH (wG hA (Nat.le_of_ble_eq_true hb)) .nil) fun x a1 w1 hx=>?_) rfl;obtain⟨ρ1,⟨g1,g2,g3,g4⟩,hx⟩:=hx;have go:∀u,ix ρ1 p u->LeavesInM Fence.wide m P fn a1.tmps (QF P ρ W w e W') a1.defers u w1:=fun u hu=>
       ou hS _ _ _ hs ρ1 _ w1 u (hfr.right g1) g2 g4 hu fun ρ' u' w' k1 k2 k3=>hk ρ' u' w' (g1.trans k1) k2 k3 _ (g3.mono k1.le)
      cases ex<;>cases x<;>first|exact hx.elim|skip
      ·cases hp;exact go .returning trivial
      ·cases hp
      ·cases hp;exact go .returning trivial
      cases hp;obtain⟨v',h1,rfl⟩:=hx;exact go (.panicking _) ⟨v',h1,rfl⟩
     unfold pK at h;split at h
     ·rename_i v W1 hs;cases h;refine key _ _ hs rfl fun ρ' u' w' g1 g2 g3 tm hF=>?_
      cases u'<;>first|exact g3.elim|skip
      exact⟨ρ',g1,g2,g3⟩
     ·rename_i W1 hs;unfold wI at h;split at h
      ·rename_i vs hr;cases h;refine key _ _ hs rfl fun ρ' u' w' g1 g2 g3 tm hF=>?_
       cases u'<;>first|exact g3.elim|skip
       obtain⟨u,q1,q2⟩:=qt g2 hF hr;exact⟨u,q1,ρ',g1,g2,q2⟩
      cases h
     cases h
    cases h
   cases h
  cases h
 cases h
theorem kS{H:ci}(hm:P.follows .mixedOrders=true)(hS:wK P H)(hD:∀R,f9 R->ji P R->n9 P R->OU P R):∀n,ji P (bc P H n)/\n9 P (bc P H n)/\W9 P (bc P H n)
 |0=>⟨fun _ _ _ _ _ _ h=>(by cases h),fun _ _ _ _ _ h=>(by cases h),fun _ _ _ _ _ _ h=>(by cases h)⟩
 |n+1=>by
  obtain⟨hC,hF,hL⟩:=kS hm hS hD n;have hR:=jV (P:=P) hS.ext n;have hDr:=hD _ hR hC hF;exact⟨fun N rd c s e s' h ρ rb a w m h1 h2 h3 h4 h5=>(Dk hm hR hC hF hL hDr h h1 h2 h3 h4 h5).1,
   fun f args W e W' h=>N0 hS hR hC h,
   fun N rd b s e s' h ρ rb a w m h1 h2 h3 h4 h5=>(Dk (c:=.loop b) hm hR hC hF hL hDr (show cD P (bc P H n) N rd s (.loop b)=_ from h) h1 h2 h3 h4 h5).2 b rfl⟩
end
def PT.room{α:Type}:PT α->Nat->Bool
 |.lf,_=>false
 |.nd l v r,n=>bif Nat.beq n 0 then true else bif Nat.beq (n%2) 1 then l.room (n/2)else r.room (n/2-1)
theorem PT.get_set_room{α:Type}:∀(t:PT α) (n:Nat) (x:Option α),(t.set n x).get n=if t.room n=true then x else none
 |.lf,n,x=>by simp[PT.set,PT.get,PT.room]
 |.nd l v r,n,x=>by
  unfold PT.set PT.room;cases h0:Nat.beq n 0 with
  |true=>simp[PT.get,h0]
  |false=>
   cases h1:Nat.beq (n%2) 1 with
   |true=>
    simp only[cond_false,cond_true,PT.get,h0,h1];exact PT.get_set_room l _ x
   |false=>
    simp only[cond_false,PT.get,h0,h1];exact PT.get_set_room r _ x
theorem PT.room_set{α:Type}:∀(t:PT α) (n m:Nat) (x:Option α),(t.set m x).room n=t.room n
 |.lf,n,m,x=>rfl
 |.nd l v r,n,m,x=>by
  unfold PT.set;cases h0:Nat.beq m 0 with
  |true=>rfl
  |false=>
   cases h1:Nat.beq (m%2) 1 with
   |true=>
    simp only[cond_false,cond_true,PT.room];rw[PT.room_set l]
   |false=>
    simp only[cond_false,PT.room];rw[PT.room_set r]
section
variable {P:Program} {W:XW} {fr fr':XF}
theorem nV:∀{l:List Operand},(∀x∈l,ev fr' x=ev fr x)->evs fr' l=evs fr l
 |[],_=>rfl
 |x::l,h=>by
  have e1:=h x (by simp);have e2:=nV (l:=l) fun y hy=>h y (by simp[hy])
  simp only[evs,e1,e2]
theorem um:∀{l:List (Nat×Operand)},(∀x∈l.map (·.2),ev fr' x=ev fr x)->evP fr' l=evP fr l
 |[],_=>rfl
 |(i,x)::l,h=>by
  have e1:=h x (by simp);have e2:=um (l:=l) fun y hy=>h y (by simp only[ack,acd];exact .inr hy)
  simp only[evP,e1,e2]
theorem qq{d:Nat}{x:Option Operand}(h:∀y∈x.toList,ev fr' y=ev fr y):cR fr' d x=cR fr d x:=by
 cases x with
 |none=>rfl
 |some y=>simp only[cR,h y (by simp)]
theorem Fj{v:Value}{lo hi mx:Option Operand}{d:Option TypeDesc}(h1:∀y∈lo.toList,ev fr' y=ev fr y)(h2:∀y∈hi.toList,ev fr' y=ev fr y)(h3:∀y∈mx.toList,ev fr' y=ev fr y) :
 ir P fr' W v lo hi mx d=ir P fr W v lo hi mx d:=by
 have b1:∀n,cR fr' n lo=cR fr n lo:=fun n=>qq h1
 have b2:∀n,cR fr' n hi=cR fr n hi:=fun n=>qq h2
 unfold ir;cases mx with
 |none=>simp only[b1,b2]
 |some m=>
  have b3:∀n,cR fr' n (some m)=cR fr n (some m):=fun n=>qq h3
  simp only[b1,b2,b3]
theorem Ar{ty:TypeId}{op:Op}(h:∀x∈op.operands,ev fr' x=ev fr x):cj P fr' W ty op=cj P fr W ty op:=by
 cases op<;>simp only[Op.operands]at h<;>simp only[cj]<;>(try rw[h _ (by simp)])<;>(try rw[h _ (by simp)])<;>(try rw[h _ (by simp)])
 case pick c a b=>
  have e:∀t:Bool,ev fr' (bif t then a else b)=ev fr (bif t then a else b):=fun t=>by cases t<;>exact h _ (by simp)
  unfold yj;simp only[e]
 case build t ps=>rw[um fun x hx=>h x (by simpa using hx)]
 case buildSlice t n ps=>unfold zO;rw[um fun x hx=>h x (by simpa using hx)]
 case makeFunc f a c=>rw[nV (l:=a.toList) fun x hx=>h x (by simp at hx;simp[hx]),nV (l:=c.toList) fun x hx=>h x (by simp at hx;simp[hx])]
 case makeMap t r=>
  have:jI fr' r=jI fr r:=by
   cases r with
   |none=>rfl
   |some x=>simp only[jI,h x (by simp)]
  rw[this]
 case slice t x lo hi mx=>
  unfold uq;have e1:∀y∈lo.toList,ev fr' y=ev fr y:=fun y hy=>h y (by simp at hy;simp[hy])
  have e2:∀y∈hi.toList,ev fr' y=ev fr y:=fun y hy=>h y (by simp at hy;simp[hy])
  have e3:∀y∈mx.toList,ev fr' y=ev fr y:=fun y hy=>h y (by simp at hy;simp[hy])
  split
  ·exact Fj e1 e2 e3
  rfl
 case call c=>
  obtain⟨cl,args,ats⟩:=c;have e:evs fr' args.toList=evs fr args.toList:=nV fun x hx=>h x (by simp at hx;simp[Call.operands,hx])
  simp only[tT,e];cases cl with
  |value f=>simp only;rw[h f (by simp[Call.operands])]
  |_=>rfl
 case «defer» c=>
  obtain⟨cl,args,ats⟩:=c;have e:evs fr' args.toList=evs fr args.toList:=nV fun x hx=>h x (by simp at hx;simp[Call.operands,hx])
  simp only[wV,e];cases cl with
  |value f=>simp only;rw[h f (by simp[Call.operands])]
  |_=>rfl
theorem uk{W:XW}{ds:List cq}{o:Option XF}{s:XS}(h:iG W ds o=some (.on s)):o=some s.fr/\W=s.W/\ds=s.ds:=by
 unfold iG at h;split at h<;>cases h;exact⟨rfl,rfl,rfl⟩
def It(k:XF->Option O1)(N:Nat)(d:Option Tmp)(s':XS)(n:Nat):Prop:=∃v,cw N fr d v=some s'.fr/\(s'.ds.length=n\/s'.ds.length=n+1)/\∀f f',cw N f d v=some f'->k f=some (.on ⟨f',s'.W,s'.ds⟩)
theorem lH{N:Nat}{d:Option Tmp}{W:XW}{ds:List cq}{n:Nat}(hn:ds.length=n\/ds.length=n+1){v:Option Value}{s':XS}(h:iG W ds (cw N fr d v)=some (.on s')):It (fr:=fr) (fun f=>iG W ds (cw N f d v)) N d s' n:=by
 obtain⟨h1,rfl,rfl⟩:=uk h;exact⟨v,h1,hn,fun f f' h=>by simp only[h];rfl⟩
theorem Le{R:XK}{N:Nat}{d:Option Tmp}{ds:List cq}{lp:Nat}{args:List Value}{o:Option ah}{s':XS}(h:qg R N fr d ds lp args W o=some (.on s')) :
 It (fr:=fr) (fun f=>qg R N f d ds lp args W o) N d s' ds.length:=by
 unfold qg at h;split at h
 ·rename_i pend tm N' ps asg body df;unfold pI at h;split at h
  ·rename_i fr1 h1;unfold pC at h;split at h
   ·rename_i s1 hq1;unfold pM at h;split at h
    ·rename_i pend2 tm2 N2 ps2 asg2 body2 df2 hg2;unfold oW at h;split at h
     ·rename_i e s2 hq2;unfold og at h;split at h
      ·rename_i st pd rr st3 pd3 tm3 N3 ps3 asg3 body3 df3 hj hg3;obtain⟨v,b1,b2,b3⟩:=lH (.inl rfl) h;refine⟨v,b1,b2,fun f f' hf=>?_⟩;have:=b3 f f' hf;simp only[qg,h1,pI,hq1,pC,hg2,pM,hq2,oW,hg3,hj,og];exact this
      cases h
     cases h
    cases h
   cases h
  cases h
 cases h
theorem Mm{R:XK}{N:Nat}{rd:Option Nat}{ds:List cq}{d:Option Tmp}{x:Option XR}{s':XS}(h:ku R N rd ⟨fr,W,ds⟩ d x=some (.on s')) :
 It (fr:=fr) (fun f=>ku R N rd ⟨f,W,ds⟩ d x) N d s' ds.length:=by
 unfold ku at h;split at h
 ·exact lH (.inl rfl) h
 ·exact lH (.inl rfl) h
 ·exact lH (.inl rfl) h
 ·cases h
 ·unfold Ey at h;split at h
  ·exact lH (.inr rfl) h
  cases h
 ·rename_i f args;unfold mD at h;split at h
  ·rename_i v W1 hq;obtain⟨u,b1,b2,b3⟩:=lH (.inl rfl) h;refine⟨u,b1,b2,fun f f' hf=>?_⟩;have:=b3 f f' hf;simp only[ku,mD,hq];exact this
  ·cases h
  cases h
 ·exact Le h
 cases h
def drop:XF->List Tmp->XF
 |f,[]=>f
 |f,t::l=>drop (f.set t none) l
theorem DF:∀(l:List Tmp) (f:XF) (t:Nat) (v:Value),(drop f l).get t=some v->t∉l/\f.get t=some v
 |[],f,t,v,h=>⟨by simp,h⟩
 |u::l,f,t,v,h=>by
  obtain⟨h1,h2⟩:=DF l _ t v h;rcases PT.set_some h2 with⟨_,q⟩|⟨q1,q2⟩
  ·cases q
  exact⟨by simp[q1,h1],q2⟩
theorem sE:∀(l:List Tmp) (f:XF) (t:Nat),t∉l->(drop f l).get t=f.get t
 |[],f,t,h=>rfl
 |u::l,f,t,h=>by
  simp only[acd,not_or]at h;show(drop (f.set u none) l).get t=_;rw[sE l _ t h.2,PT.get_set_ne _ _ _ _ h.1]
theorem tL:∀(l:List Tmp) (f:XF) (t:Nat),(drop f l).room t=f.room t
 |[],f,t=>rfl
 |u::l,f,t=>by
  show(drop (f.set u none) l).room t=_;rw[tL l,PT.room_set]
end
theorem aaP{P:Program}{ρ ρ':Ren}{V V' G G':GH}{nx nx':Nat}{w w':World}(hV:HR P ρ V w)(hsub:∀n o,ρ n≠none->G n=some o->V n=some o)(hS:ca ρ G nx w ρ' G' nx' w')(hG':HR P ρ' G' w')
 (hV':∀n o,ρ' n≠none->V' n=some o->G' n=some o\/(ρ n≠none/\V n=some o/\G n=none/\G' n=none)):HR P ρ' V' w'/\ca ρ V nx w ρ' V' nx' w':=by
 have hlive:∀n,ρ n≠none->G n≠none->V n≠none:=fun n h1 h2=>by
  cases e:G n with
  |none=>exact absurd e h2
  |some o=>rw[hsub n o h1 e];simp
 have notImg:∀n i,ρ n=some i->V n≠none->G n=none->¬d9 ρ G i.b:=fun n i h1 h2 h3=>by
  rintro ⟨m,j,k1,k2,k3⟩;have:=hV.inj m n j i k1 h1 (hlive m (by rw[k1];simp) k2) h2 k3;subst this;exact k2 h3
 have live':∀n i,ρ' n=some i->V' n≠none->G' n≠none\/(ρ n=some i/\V n≠none/\G n=none):=fun n i h1 h2=>by
  cases e:V' n with
  |none=>exact absurd e h2
  |some o=>
   rcases hV' n o (by rw[h1];simp) e with h|⟨k1,k2,k3,k4⟩
   ·exact .inl (by rw[h];simp)
   cases e2:ρ n with
   |none=>exact absurd e2 k1
   |some j=>
    have:=hS.le n j e2;rw[h1]at this;cases this;exact .inr ⟨rfl,by rw[k2];simp,k3⟩
 have cross:∀n m i j,ρ' n=some i->G' n≠none->ρ m=some j->V m≠none->G m=none->i.b=j.b->False:=fun n m i j h1 h2 h3 h4 h5 h6=>by
  rcases hS.img i.b ⟨n,i,h1,h2,rfl⟩with q|q
  ·rw[h6]at q;exact notImg m j h3 h4 h5 q
  have:=hV.live h3 h4;omega
 have himg:∀b,d9 ρ G b->d9 ρ V b:=fun b ⟨n,i,k1,k2,k3⟩=>⟨n,i,k1,hlive n (by rw[k1];simp) k2,k3⟩
 refine⟨⟨fun n i o h1 h2=>?_,fun n m i j h1 h2 h3 h4 h5=>?_,fun b o hb=>⟨(hG'.frz b o hb).1,fun⟨n,i,k1,k2,k3⟩=>?_⟩⟩,⟨hS.le,hS.keeps.mono fun b _ hb=>?_,fun b hb=>?_,hS.dom,hS.next,fun b o e=>(hS.fzn b o e).imp id (Or.imp (himg b) id)⟩⟩
 ·rcases hV' n o (by rw[h1];simp) h2 with h|⟨k1,k2,k3,k4⟩
  ·exact hG'.obj n i o h1 h
  cases e2:ρ n with
  |none=>exact absurd e2 k1
  |some j=>
   have:=hS.le n j e2;rw[h1]at this;cases this;obtain⟨ob,q1,q2⟩:=hV.obj n i o e2 k2;exact⟨ob,hS.keeps.heap q1 (notImg n i e2 (by rw[k2];simp) k3),q2.mono hS.le⟩
 ·rcases live' n i h1 h3 with a|⟨a1,a2,a3⟩
  ·rcases live' m j h2 h4 with b|⟨b1,b2,b3⟩
   ·exact hG'.inj n m i j h1 h2 a b h5
   exact(cross n m i j h1 a b1 b2 b3 h5).elim
  rcases live' m j h2 h4 with b|⟨b1,b2,b3⟩
  ·exact(cross m n j i h2 b a1 a2 a3 h5.symm).elim
  exact hV.inj n m i j a1 b1 a2 b2 h5
 ·rcases live' n i k1 k2 with a|⟨a1,a2,a3⟩
  ·exact(hG'.frz b o hb).2 ⟨n,i,k1,a,k3⟩
  rcases hS.fzn b o hb with q|q|q
  ·exact(hV.frz b o q).2 ⟨n,i,a1,a2,k3⟩
  ·exact notImg n i a1 a2 a3 (by rw[k3];exact q)
  have:=hV.live a1 a2;omega
 ·obtain⟨n,i,k1,k2,k3⟩:=hb;exact⟨n,i,k1,hlive n (by rw[k1];simp) k2,k3⟩
 obtain⟨n,i,k1,k2,k3⟩:=hb;rcases live' n i k1 k2 with a|⟨a1,a2,a3⟩
 ·rcases hS.img b ⟨n,i,k1,a,k3⟩with⟨m,j,q1,q2,q3⟩|q
  ·exact .inl ⟨m,j,q1,hlive m (by rw[q1];simp) q2,q3⟩
  exact .inr q
 exact .inl ⟨n,i,a1,a2,k3⟩
open Classical in
noncomputable def pick(p:Nat->Prop):Nat->Nat
 |0=>0
 |k+1=>if p k then k+1 else pick p k
theorem rQ{p:Nat->Prop}{k:Nat}(h:p k):pick p (k+1)=k+1:=if_pos h
theorem sm{p:Nat->Prop}{k:Nat}(h:¬p k):pick p (k+1)=pick p k:=if_neg h
theorem ov{p q:Nat->Prop}:∀{k:Nat},(∀j,j<k->(p j↔q j))->pick p k=pick q k
 |0,_=>rfl
 |k+1,h=>by
  have ih:=ov (k:=k) fun j hj=>h j (Nat.lt_succ_of_lt hj)
  by_cases hp:p k
  ·rw[rQ hp,rQ ((h k (aci _)).1 hp)]
  rw[sm hp,sm (fun e=>hp ((h k (aci _)).2 e)),ih]
theorem jX{p:Nat->Prop}:∀{k i:Nat},i<=k->(∀j,i<=j->j<k->¬p j)->pick p k=pick p i
 |0,i,h,_=>by rw[Nat.le_zero.1 h]
 |k+1,i,h,hn=>by
  rcases ab8 i (k+1)with q|q
  ·rw[sm (hn k (by omega) (aci _))];exact jX (by omega) fun j h1 h2=>hn j h1 (by omega)
  have:i=k+1:=by omega
  rw[this]
theorem uD{p:Nat->Prop}{k i:Nat}(hi:i<k)(h:p i)(hl:∀j,j<k->p j->j<=i):pick p k=i+1:=by
 rw[jX (i:=i+1) hi fun j h1 h2 h3=>by have:=hl j h2 h3;omega,rQ h]
theorem vM{α:Type}{f:Nat->α}{τ:Nat->Prop}:∀{i:Nat},(∀j,j<i->¬τ j->f (j+1)=f j)->f (pick τ i)=f i
 |0,_=>rfl
 |i+1,h=>by
  by_cases hp:τ i
  ·rw[rQ hp]
  rw[sm hp,h i (aci _) hp];exact vM fun j hj=>h j (Nat.lt_succ_of_lt hj)
theorem qT{α:Type}{f:Nat->α}{p τ:Nat->Prop}{k i:Nat}(hi:i<=k)(hst:∀j,j<k->¬τ j->f (j+1)=f j)(h:∀j,j<k->(p j↔j<i/\τ j)):f (pick p k)=f i:=by
 rw[jX hi fun j h1 h2 h3=>by have:=((h j h2).1 h3).1;omega,ov (q:=τ) fun j hj=>⟨fun e=>((h j (by omega)).1 e).2,fun e=>(h j (by omega)).2 ⟨hj,e⟩⟩];exact vM fun j hj=>hst j (by omega)
theorem FA(e j:Nat):(2^e).testBit j=decide (e=j):=Nat.testBit_two_pow
theorem yc{acc:List Nat}:∀{es:List Nat} {j:Nat},(qV acc es).testBit j=true->∃e∈es,e=j\/(acc.getD e 0).testBit j=true
 |[],j,h=>by simp[qV]at h
 |e::es,j,h=>by
  unfold qV at h;rw[Nat.testBit_or,Nat.testBit_or,FA]at h;simp only[acs,decide_eq_true_eq]at h;rcases h with(h|h)|h
  ·exact⟨e,by simp,.inl h⟩
  ·exact⟨e,by simp,.inr h⟩
  obtain⟨e',h1,h2⟩:=yc h;exact⟨e',by simp[h1],h2⟩
theorem qP{ops:Array Oper}{D:Nat->Prop}(hc:∀i o,ops[i]?=some o->D i->∀e∈fa o,D e):∀(l:List Oper) (acc:List Nat),(∀j,l[j]?=ops[acc.length+j]?) ->
 (∀i o,i<acc.length->ops[i]?=some o->(∀e∈fa o,D e)->∀j,(acc.getD i 0).testBit j=true->D j) ->
 ∀i o,ops[i]?=some o->i<acc.length+l.length->(∀e∈fa o,D e)->∀j,((tI l acc).getD i 0).testBit j=true->D j
 |[],acc,hl,ha,i,o,ho,hi,he,j,hj=>ha i o (by simpa using hi) ho he j hj
 |x::l,acc,hl,ha,i,o,ho,hi,he,j,hj=>by
  refine qP hc l (acc++[qV acc (fa x)]) (fun j=>?_) (fun i o hi ho he j hj=>?_) i o ho (by simp at hi ⊢;omega) he j hj
  ·have:=hl (j+1);simp only[List.getElem?_cons_succ]at this;rw[this,abP];congr 1;simp;omega
  simp only[abP,ab5]at hi;rcases ab8 i acc.length with q|q
  ·refine ha i o q ho he j ?_;rw[abV,acz q]at hj;rwa [abV]
  have e1:i=acc.length:=by omega
  subst e1;have e2:ops[acc.length]?=some x:=by have:=hl 0;simpa using this.symm
  rw[e2]at ho;cases ho;rw[abV,act (Nat.le_refl _)]at hj;simp only[Nat.sub_self,List.getElem?_cons_zero,acP]at hj;obtain⟨e,h1,h2|h2⟩:=yc hj
  ·subst h2;exact he e h1
  rcases ab8 e acc.length with q2|q2
  ·cases ho2:ops[e]? with
   |none=>
    have h3:ops.size<=e:=Array.getElem?_eq_none_iff.1 ho2;have h4:=(Array.getElem?_eq_some_iff.1 e2).1;omega
   |some o2=>exact ha e o2 q2 ho2 (hc e o2 ho2 (he e h1)) j h2
  rw[abV,ab9 q2]at h2;simp at h2
theorem l5{ops:Array Oper}{D:Nat->Prop}(hc:∀i o,ops[i]?=some o->D i->∀e∈fa o,D e){i:Nat}{o:Oper}(ho:ops[i]?=some o)(he:∀e∈fa o,D e){j:Nat}(hj:((bG ops).getD i 0).testBit j=true):D j:=
 qP hc ops.toList [] (fun j=>by simp) (fun i o h=>by simp at h) i o ho (by simpa using(Array.getElem?_eq_some_iff.1 ho).1) he j hj
theorem tQ{ms:List Nat}{i n:Nat}:∀{l:List bp} {j0 d:Nat} {r:bp},l[d]?=some r->i≠j0+d->fe ms i (j0+d)=false->n∈iY r->n∈dg ms i l j0
 |[],j0,d,r,h,_,_,_=>by simp at h
 |x::l,j0,0,r,h,h1,h2,h3=>by
  simp at h;subst h;unfold dg;have e1:Nat.beq i j0=false:=by cases e:Nat.beq i j0 with|false=>rfl|true=>exact absurd (abY e) (by simpa using h1)
  rw[e1,show fe ms i j0=false by simpa using h2];exact ac4 _ h3
 |x::l,j0,d+1,r,h,h1,h2,h3=>by
  have h1':i≠j0+1+d:=fun e=>h1 (by omega)
  have:=tQ (ms:=ms) (n:=n) (j0:=j0+1) (l:=l) (d:=d) (r:=r) (by simpa using h) h1' (by rw[show j0+1+d=j0+(d+1) by omega];exact h2) h3;unfold dg;cases Nat.beq i j0||fe ms i j0
  ·exact ac3 _ this
  exact this
theorem Bf{ms:List Nat}{i n:Nat}:∀{l:List bp} {j0 d:Nat} {r:bp},l[d]?=some r->i≠j0+d->fe ms i (j0+d)=false->n∈iY r->(j0+d,r)∈jr ms i l j0
 |[],j0,d,r,h,_,_,_=>by simp at h
 |x::l,j0,0,r,h,h1,h2,h3=>by
  simp at h;subst h;unfold jr;have e1:Nat.beq i j0=false:=by cases e:Nat.beq i j0 with|false=>rfl|true=>exact absurd (abY e) (by simpa using h1)
  have e2:(iY x).isEmpty=false:=by cases e:iY x with|nil=>rw[e]at h3;cases h3|cons _ _=>rfl
  rw[e1,show fe ms i j0=false by simpa using h2,e2];exact ab4
 |x::l,j0,d+1,r,h,h1,h2,h3=>by
  have h1':i≠j0+1+d:=fun e=>h1 (by omega)
  have:=Bf (ms:=ms) (n:=n) (j0:=j0+1) (l:=l) (d:=d) (r:=r) (by simpa using h) h1' (by rw[show j0+1+d=j0+(d+1) by omega];exact h2) h3;rw[show j0+1+d=j0+(d+1) by omega]at this;unfold jr;cases Nat.beq i j0||fe ms i j0||(iY x).isEmpty
  ·exact aca _ this
  exact this
theorem wm{ms:List Nat}{i:Nat}:∀{l:List bp} {j0 j:Nat} {r:bp},(j,r)∈jr ms i l j0->∃d,j=j0+d/\l[d]?=some r/\i≠j/\fe ms i j=false
 |[],j0,j,r,h=>by cases h
 |x::l,j0,j,r,h=>by
  unfold jr at h;cases e:(Nat.beq i j0||fe ms i j0||(iY x).isEmpty)with
  |true=>
   rw[e]at h;obtain⟨d,h1,h2,h3⟩:=wm (l:=l) h;exact⟨d+1,by omega,by simpa using h2,h3⟩
  |false=>
   rw[e]at h;rcases List.mem_cons.1 h with h|h
   ·cases h;simp only[Bool.or_eq_false_iff]at e;exact⟨0,rfl,rfl,Nat.ne_of_beq_eq_false e.1.1,e.1.2⟩
   obtain⟨d,h1,h2,h3⟩:=wm (l:=l) h;exact⟨d+1,by omega,by simpa using h2,h3⟩
def fO(W W':XW):List Nat:=(W'.log.take (W'.nlog-W.nlog)).filter fun n=>Nat.blt n W.next
theorem bC.mods{W W':XW}(h:bC W W'):∃l,W'.log=l++W.log/\W'.nlog=W.nlog+l.length/\W'.log.take (W'.nlog-W.nlog)=l:=by
 obtain⟨l,h1,h2,_⟩:=h.log;exact⟨l,h1,h2,by rw[h1,h2,Nat.add_sub_cancel_left,List.take_left]⟩
theorem bC.same{W W':XW}(h:bC W W'){n:Nat}(hn:n∉fO W W')(hr:¬(W.next<=n/\n<W'.next)):W'.get n=W.get n:=by
 obtain⟨l,h1,h2,h3⟩:=h.log;obtain⟨l',k1,k2,k3⟩:=h.mods;have e:l'=l:=List.append_cancel_right (k1.symm.trans h1);subst e;rcases ab8 n W.next with q|q
 ·refine h3 n (fun e=>hn ?_) q;unfold fO;rw[k3,List.mem_filter];exact⟨e,mj q⟩
 rw[XW.get_ge q,XW.get_ge (by have:=h.next;omega)]
theorem CD{W W':XW}{n:Nat}(h:n∈fO W W'):n<W.next:=oU.1 (List.mem_filter.1 h).2
section
variable {P:Program} {R:XK} {N:Nat} {rd:Option Nat} {ops:Array Oper}
theorem zP{s s':XS}{o:Oper}(h:iu P R N rd ops s o=some (.on s')):∃v,cw N s.fr o.dst v=some s'.fr/\(s'.ds.length=s.ds.length->s'.ds=s.ds):=by
 have key:∀{W:XW} {ds:List cq} {v:Option Value},(ds=s.ds\/ds.length=s.ds.length+1)->iG W ds (cw N s.fr o.dst v)=some (.on s')->∃v,cw N s.fr o.dst v=some s'.fr/\(s'.ds.length=s.ds.length->s'.ds=s.ds):=by
  intro W ds v hd hq;obtain⟨h1,rfl,rfl⟩:=uk hq;refine⟨v,h1,fun e=>?_⟩;rcases hd with hd|hd
  ·exact hd
  omega
 unfold iu oC at h;split at h
 ·unfold ku at h;split at h
  ·exact key (.inl rfl) h
  ·exact key (.inl rfl) h
  ·exact key (.inl rfl) h
  ·cases h
  ·unfold Ey at h;split at h
   ·exact key (.inr rfl) h
   cases h
  ·unfold mD at h;split at h
   ·exact key (.inl rfl) h
   ·cases h
   cases h
  ·rename_i lp args;unfold qg at h;split at h
   ·unfold pI at h;split at h
    ·unfold pC at h;split at h
     ·unfold pM at h;split at h
      ·unfold oW at h;split at h
       ·unfold og at h;split at h
        ·exact key (.inl rfl) h
        cases h
       cases h
      cases h
     cases h
    cases h
   cases h
  cases h
 ·exact key (.inl rfl) h
 cases h
theorem QM{fr fr':XF}{d:Option Tmp}{v:Option Value}{t:Tmp}(h:cw N fr d v=some fr')(ht:d≠some t):fr'.get t=fr.get t:=by
 unfold cw at h;split at h
 ·cases h;rfl
 rename_i u;cases hb:Nat.blt u N<;>rw[hb]at h<;>cases h;exact PT.get_set_ne _ _ _ _ fun e=>ht (by rw[e])
theorem ve{fr fr':XF}{t:Tmp}{v:Option Value}(h:cw N fr (some t) v=some fr'):fr'.get t=if fr.room t=true then v else none:=by
 simp only[cw]at h;cases hb:Nat.blt t N<;>rw[hb]at h<;>cases h;exact PT.get_set_room _ _ _
theorem yd{fr fr' f:XF}{d:Option Tmp}{v:Option Value}(h:cw N fr d v=some fr'):∃f',cw N f d v=some f':=by
 unfold cw at h ⊢;split at h
 ·exact⟨_,rfl⟩
 rename_i u;cases hb:Nat.blt u N<;>rw[hb]at h<;>cases h;exact⟨_,rfl⟩
theorem vR:∀(l:List Oper) (s:XS) (rs:List bp) (s':XS),aY P R N rd ops l s=some (rs,s')->∃σ:Nat->XS,σ 0=s/\σ l.length=s'/\rs.length=l.length /\
 ∀i o,l[i]?=some o->iu P R N rd ops (σ i) o=some (.on (σ (i+1)))/\rs[i]?=some ⟨o,σ i,σ (i+1)⟩
 |[],s,rs,s',h=>by cases h;exact⟨fun _=>s,rfl,rfl,rfl,fun i o h=>by simp at h⟩
 |x::l,s,rs,s',h=>by
  unfold aY fV at h;split at h
  ·rename_i s1 hq;unfold cW at h;split at h
   ·rename_i l1 t hq2;cases h;obtain⟨σ,h1,h2,h3,h4⟩:=vR l s1 l1 _ hq2;refine⟨fun i=>match i with|0=>s|i+1=>σ i,rfl,h2,by simp[h3],fun i o ho=>?_⟩;cases i with
    |zero=>
     simp at ho;subst ho;simp only[h1];exact⟨hq,rfl⟩
    |succ i=>simpa using h4 i o (by simpa using ho)
   cases h
  cases h
theorem pk{o:Oper}{e:Nat}:e∈fa o↔∃x∈o.after,Region.binds .any x=true/\x.on=e:=by
 unfold fa;simp only[List.mem_map,List.mem_filter,Array.mem_toList_iff];exact⟨fun⟨x,⟨h1,h2⟩,h3⟩=>⟨x,h1,h2,h3⟩,fun⟨x,h1,h2,h3⟩=>⟨x,⟨h1,h2⟩,h3⟩⟩
theorem pG:∀(fuel k:Nat) (listed:Array Bool),listed.size=ops.size->(∀j,j<ops.size->listed[j]?=some (decide (j<k)))->fuel+k=ops.size->Region.lexFrom .any ops fuel k listed=true ->
 ∀i o,k<=i->ops[i]?=some o->(∀e∈fa o,e<i)/\∀j oj,ops[j]?=some oj->i<j->i∈fa oj\/o.apart ops oj=true
 |0,k,listed,hs,hl,hf,h,i,o,hi,ho=>by
  have:=(Array.getElem?_eq_some_iff.1 ho).1;omega
 |fuel+1,k,listed,hs,hl,hf,h,i,o,hi,ho=>by
  unfold Region.lexFrom at h;simp only[abZ]at h;obtain⟨⟨h1,h2⟩,h3⟩:=h;by_cases hik:i=k
  ·subst hik;obtain⟨hr0,o',ho',hr⟩:=mem_ready.1 (by simpa using h1);rw[ho]at ho';cases ho';refine⟨fun e he=>?_,fun j oj hj hij=>?_⟩
   ·obtain⟨x,q1,q2,rfl⟩:=pk.1 he;have:=hr x q1 q2;rw[acj]at this;rcases ab8 x.on ops.size with q|q
    ·rw[hl _ q]at this;simpa using this
    rw[Array.getElem?_eq_none (by omega)]at this;simp at this
   by_cases hm:i∈fa oj
   ·exact .inl hm
   refine .inr (Region.free_spec ho h2 j oj hj (by omega) ?_ fun e he hb heq=>hm (pk.2 ⟨e,he,hb,heq⟩));have hjs:=(Array.getElem?_eq_some_iff.1 hj).1;rw[acj,hl _ hjs];simp;omega
  refine pG fuel (k+1) _ (by simpa using hs) (fun j hj=>?_) (by omega) h3 i o (by omega) ho;by_cases hjk:k=j
  ·subst hjk;rw[Array.getElem?_setIfInBounds_self_of_lt (by omega)];simp
  rw[acB hjk,hl j hj];congr 1;rw[decide_eq_decide];omega
end
structure iD(P:Program)(R:XK)(N:Nat)(rd:Option Nat)(ops:Array Oper)(J:Nat->Bool)(σ:Nat->XS)(rs:List bp):Prop where
 step:∀i o,ops[i]?=some o->(J i=false->iu P R N rd ops (σ i) o=some (.on (σ (i+1))))/\rs[i]?=some ⟨o,σ i,σ (i+1)⟩
 put:∀i o,ops[i]?=some o->∃v,cw N (σ i).fr o.dst v=some (σ (i+1)).fr
 ext:∀i,i<ops.size->bC (σ i).W (σ (i+1)).W
 lex:∀i o,ops[i]?=some o->∀e∈fa o,e<i
 apart:∀i j oi oj,ops[i]?=some oi->ops[j]?=some oj->i<j->i∈fa oj\/oi.apart ops oj=true
 cond:∀i o,ops[i]?=some o->J i=false->gQ ops (σ i).fr o=some true->dg (bG ops) i rs 0=[]\/nc P ⟨o,σ i,σ (i+1)⟩ i (dg (bG ops) i rs 0) (jr (bG ops) i rs 0) (some true)=true
 ds:∀i,i<=ops.size->(σ i).ds=(σ 0).ds
 len:rs.length=ops.size
section
variable {P:Program} {R:XK} {N:Nat} {rd:Option Nat} {ops:Array Oper} {rs:List bp}
theorem vV{ms:List Nat}:∀(l:List bp) (i0 d:Nat) (r:bp),jY P ops ms rs l i0=true->l[d]?=some r->nc P r (i0+d) (dg ms (i0+d) rs 0) (jr ms (i0+d) rs 0) (gQ ops r.s.fr r.o)=true
 |[],i0,d,r,h,hr=>by simp at hr
 |x::l,i0,0,r,h,hr=>by
  simp at hr;subst hr;unfold jY at h;simp only[abZ]at h;exact h.1
 |x::l,i0,d+1,r,h,hr=>by
  unfold jY at h;simp only[abZ]at h;have:=vV l (i0+1) d r h.2 (by simpa using hr);rwa [show i0+1+d=i0+(d+1) by omega]at this
theorem vO{ms:List Nat}{i:Nat}:∀{l:List bp} {j:Nat},EM l=true->dg ms i l j=[]
 |[],j,h=>rfl
 |x::l,j,h=>by
  unfold EM at h;simp only[List.all_cons,abZ]at h;unfold dg;have e:iY x=[]:=by simpa using h.1
  have ih:=vO (ms:=ms) (i:=i) (l:=l) (j:=j+1) h.2;cases(Nat.beq i j||fe ms i j)<;>simp[ih,e]
theorem qN:∀(l:List bp) (n d:Nat) (r:bp),iR l n=true->l[d]?=some r->r.s'.ds.length=n
 |[],n,d,r,h,hr=>by simp at hr
 |x::l,n,0,r,h,hr=>by
  simp at hr;subst hr;unfold iR at h;simp only[abZ]at h;exact abY h.1
 |x::l,n,d+1,r,h,hr=>by
  unfold iR at h;simp only[abZ]at h;exact qN l n d r h.2 (by simpa using hr)
theorem UV(hR:f9 R){s s':XS}(h:aY P R N rd ops ops.toList s=some (rs,s'))(hk:jG P ops s.ds.length rs=true):∃σ,σ 0=s/\σ ops.size=s'/\iD P R N rd ops (fun _=>false) σ rs:=by
 obtain⟨σ,h1,h2,h3,h4⟩:=vR _ _ _ _ h;have h4:∀i o,ops[i]?=some o->iu P R N rd ops (σ i) o=some (.on (σ (i+1)))/\rs[i]?=some ⟨o,σ i,σ (i+1)⟩:=fun i o ho=>h4 i o (by simpa using ho)
 unfold jG at hk;simp only[abZ,acs]at hk;obtain⟨⟨k1,k2⟩,k3⟩:=hk;unfold Region.lexB at k1;simp only[abZ]at k1;have lx:=pG ops.size 0 _ (by simp) (fun j hj=>by simp[hj]) (by omega) k1.2;refine⟨σ,h1,by simpa using h2,⟨fun i o ho=>⟨fun _=>(h4 i o ho).1,(h4 i o ho).2⟩,fun i o ho=>(zP (h4 i o ho).1).imp fun v hv=>hv.1,fun i hi=>?_,fun i o ho=>(lx i o (abW _) ho).1,fun i j oi oj hi hj hij=>(lx i oi (abW _) hi).2 j oj hj hij,fun i o ho _ hw=>?_,fun i hi=>?_,by simpa using h3⟩⟩
 ·exact oO hR (h4 i _ (acl hi)).1
 ·rcases k3 with k3|k3
  ·exact .inl (vO k3)
  right;have:=vV rs 0 i _ k3 (h4 i o ho).2;simp only[Nat.zero_add,hw]at this;exact this
 induction i with
 |zero=>rfl
 |succ i ih=>
  have ih:=ih (by omega);obtain⟨g1,g2⟩:=h4 i _ (acl (show i<ops.size by omega));obtain⟨v,_,g3⟩:=zP g1;have g4:=qN _ _ _ _ k2 g2;rw[g3 (by rw[ih,h1];exact g4),ih]
end
def lz(σ:Nat->XS)(j n:Nat):Prop:=n∈fO (σ j).W (σ (j+1)).W\/((σ j).W.next<=n/\n<(σ (j+1)).W.next)
def Wr(ops:Array Oper)(j:Nat)(t:Tmp):Prop:=∃o,ops[j]?=some o/\o.dst=some t
noncomputable def VD(ops:Array Oper)(σ:Nat->XS)(D:Nat->Prop):GH:=fun n=>(σ (pick (fun j=>D j/\lz σ j n) ops.size)).W.get n
noncomputable def TD(ops:Array Oper)(σ:Nat->XS)(D:Nat->Prop)(t:Tmp):Option Value:=(σ (pick (fun j=>D j/\Wr ops j t) ops.size)).fr.get t
def Dq(ops:Array Oper)(D:Nat->Prop):Prop:=∀j o,ops[j]?=some o->D j->∀e∈fa o,D e
structure qc(P:Program)(N:Nat)(ops:Array Oper)(σ:Nat->XS)(ρ0:Ren)(w0:World)(D:Nat->Prop)(ρ:Ren)(a:Act)(w:World):Prop where
 hr:HR P ρ (VD ops σ D) w
 le:ρ0.le ρ
 keeps:ak (d9 ρ0 (σ 0).W.get) w0 w
 img:∀b,d9 ρ (VD ops σ D) b->d9 ρ0 (σ 0).W.get b\/w0.heap.size<=b
 dom:∀n,ρ n≠none->ρ0 n≠none\/∃j,D j/\j<ops.size/\(σ j).W.next<=n/\n<(σ (j+1)).W.next
 sz:a.tmps.size=N
 tm:∀t v,TD ops σ D t=some v->VR ρ v (a.tmps.getD t undef)
 ds:gy ρ (σ 0).ds a.defers
 fzn:∀b o,ρ.fz b=some o->ρ0.fz b=some o\/d9 ρ0 (σ 0).W.get b\/w0.heap.size<=b
section
variable {P:Program} {R:XK} {N:Nat} {rd rb:Option Nat} {ops:Array Oper} {rs:List bp} {J:Nat->Bool} {σ:Nat->XS}
theorem EP{i:Nat}{o:Oper}(h:ops[i]?=some o):i<ops.size:=(Array.getElem?_eq_some_iff.1 h).1
theorem p9{j:Nat}(h:j<ops.size):∃o,ops[j]?=some o:=⟨_,acl h⟩
theorem iD.nx(h:iD P R N rd ops J σ rs){i:Nat}:∀{j:Nat},i<=j->j<=ops.size->(σ i).W.next<=(σ j).W.next
 |0,hij,_=>by rw[Nat.le_zero.1 hij];exact Nat.le_refl _
 |j+1,hij,hj=>by
  rcases ab8 i (j+1)with q|q
  ·exact acx (h.nx (j:=j) (by omega) (by omega)) (h.ext j (by omega)).next
  have:i=j+1:=by omega
  rw[this];exact Nat.le_refl _
theorem iD.stW(h:iD P R N rd ops J σ rs){j n:Nat}(hj:j<ops.size)(hn:¬lz σ j n):(σ (j+1)).W.get n=(σ j).W.get n:=
 (h.ext j hj).same (fun e=>hn (.inl e)) (fun e=>hn (.inr e))
theorem iD.stT(h:iD P R N rd ops J σ rs){j:Nat}{t:Tmp}(hj:j<ops.size)(hn:¬Wr ops j t):(σ (j+1)).fr.get t=(σ j).fr.get t:=by
 obtain⟨o,ho⟩:=p9 hj;obtain⟨v,h1⟩:=h.put j o ho;exact QM h1 fun e=>hn ⟨o,ho,e⟩
theorem iD.born(h:iD P R N rd ops J σ rs){i j n:Nat}(hi:i<ops.size)(hj:j<ops.size)(h1:(σ i).W.next<=n)(h2:n<(σ (i+1)).W.next)(h3:(σ j).W.next<=n)(h4:n<(σ (j+1)).W.next):i=j:=by
 rcases adf i j with q|q|q
 ·have:=h.nx (i:=i+1) (j:=j) q (by omega);omega
 ·exact q
 have:=h.nx (i:=j+1) (j:=i) q (by omega);omega
structure o4(ops:Array Oper)(D:Nat->Prop)(i:Nat)(o:Oper):Prop where
 op:ops[i]?=some o
 un:¬D i
 after:∀e∈fa o,D e
 closed:Dq ops D
variable {D:Nat->Prop} {i:Nat} {o:Oper}
theorem o4.lt(hr:o4 ops D i o):i<ops.size:=EP hr.op
theorem BI(h:iD P R N rd ops J σ rs)(hr:o4 ops D i o){j:Nat}(hj:j<ops.size)(ho:fe (bG ops) i j=true)(hD:D j):j<i:=by
 obtain⟨oj,hoj⟩:=p9 hj;unfold fe at ho;rcases acs _ _▸ho with q|q
 ·exact absurd (l5 hr.closed hoj (hr.closed j oj hoj hD) q) hr.un
 exact l5 (D:=fun x=>x<i) (fun i' o' h1 h2 e he=>Nat.lt_trans (h.lex i' o' h1 e he) h2) hr.op (h.lex i o hr.op) q
theorem JU(h:iD P R N rd ops J σ rs)(hr:o4 ops D i o){j:Nat}(hj:j<i)(ho:fe (bG ops) i j=true):D j:=by
 have hi:=hr.lt;obtain⟨oj,hoj⟩:=p9 (show j<ops.size by omega);unfold fe at ho;rcases acs _ _▸ho with q|q
 ·have:=l5 (D:=fun x=>x<j) (fun i' o' h1 h2 e he=>Nat.lt_trans (h.lex i' o' h1 e he) h2) hoj (h.lex j oj hoj) q;omega
 exact l5 hr.closed hr.op hr.after q
section
variable {ρ0 ρ:Ren} {w0 w:World} {a:Act}
theorem qc.alloc(hI:qc P N ops σ ρ0 w0 D ρ a w)(h:iD P R N rd ops J σ rs)(hfr:cJ ρ0 (σ 0).W.next (σ ops.size).W.next){j n:Nat}(hj:j<ops.size)(hn:ρ n≠none)(h1:(σ j).W.next<=n)(h2:n<(σ (j+1)).W.next):D j:=by
 rcases hI.dom n hn with q|⟨j',q1,q2,q3,q4⟩
 ·have k1:=h.nx (i:=0) (j:=j) (abW _) (by omega);have k2:=h.nx (i:=j+1) (j:=ops.size) hj (Nat.le_refl _);exact absurd (hfr n (by omega) (by omega)) q
 rw[h.born hj q2 h1 h2 q3 q4];exact q1
theorem F0(hI:qc P N ops σ ρ0 w0 D ρ a w)(h:iD P R N rd ops J σ rs)(hfr:cJ ρ0 (σ 0).W.next (σ ops.size).W.next)(hr:o4 ops D i o){n:Nat}(hn:ρ n≠none)(hlt:n<(σ i).W.next)
 (hu:∀j,j<ops.size->j≠i->fe (bG ops) i j=false->n∈fO (σ j).W (σ (j+1)).W->(D j↔j<i)):VD ops σ D n=(σ i).W.get n:=by
 have hi:=hr.lt;refine qT (f:=fun j=>(σ j).W.get n) (τ:=fun j=>lz σ j n) (by omega) (fun j hj ht=>h.stW hj ht) fun j hj=>⟨fun⟨h1,h2⟩=>⟨?_,h2⟩,fun⟨h1,h2⟩=>⟨?_,h2⟩⟩
 ·rcases h2 with h2|⟨h2,h3⟩
  ·cases q:fe (bG ops) i j with
   |true=>exact BI h hr hj q h1
   |false=>exact(hu j hj (fun e=>hr.un (e▸h1)) q h2).1 h1
  rcases ab8 j i with q|q
  ·exact q
  have:=h.nx (i:=i) (j:=j) q (by omega);omega
 rcases h2 with h2|⟨h2,h3⟩
 ·cases q:fe (bG ops) i j with
  |true=>exact JU h hr h1 q
  |false=>exact(hu j hj (by omega) q h2).2 h1
 exact hI.alloc h hfr hj hn h2 h3
theorem IH(h:iD P R N rd ops J σ rs)(hr:o4 ops D i o){n:Nat}(ht:lz σ i n)(hu:∀j,j<ops.size->j≠i->fe (bG ops) i j=false->n∉fO (σ j).W (σ (j+1)).W) :
 VD ops σ (fun j=>D j\/j=i) n=(σ (i+1)).W.get n:=by
 have hi:=hr.lt;have key:∀j,j<ops.size->(D j\/j=i)/\lz σ j n->j<=i:=?_
 ·unfold VD;rw[uD (p:=fun j=>(D j\/j=i)/\lz σ j n) hi ⟨.inr rfl,ht⟩ key]
 intro j hj ⟨h1,h2⟩;by_cases hji:j=i
 ·omega
 have hD:D j:=h1.resolve_right hji;rcases h2 with h2|⟨h2,h3⟩
 ·cases q:fe (bG ops) i j with
  |true=>have:=BI h hr hj q hD;omega
  |false=>exact absurd h2 (hu j hj hji q)
 rcases ht with ht|⟨h4,h5⟩
 ·have:=CD ht;rcases ab8 j i with q|q
  ·omega
  have:=h.nx (i:=i) (j:=j) q (by omega);omega
 exact absurd (h.born hj hi h2 h3 h4 h5) hji
theorem BE{n:Nat}(ht:¬lz σ i n):VD ops σ (fun j=>D j\/j=i) n=VD ops σ D n:=by
 unfold VD;rw[ov (p:=fun j=>(D j\/j=i)/\lz σ j n) (q:=fun j=>D j/\lz σ j n) fun j hj=>⟨fun⟨h1,h2⟩=>⟨h1.resolve_right fun e=>ht (e▸h2),h2⟩,fun⟨h1,h2⟩=>⟨.inl h1,h2⟩⟩]
theorem abc(h:iD P R N rd ops J σ rs)(hr:o4 ops D i o){t:Tmp}(ht:t∈o.looksAt ops\/∀j,¬Wr ops j t):TD ops σ D t=(σ i).fr.get t:=by
 have hi:=hr.lt;refine qT (f:=fun j=>(σ j).fr.get t) (τ:=fun j=>Wr ops j t) (by omega) (fun j hj ht=>h.stT hj ht) fun j hj=>⟨fun⟨h1,h2⟩=>⟨?_,h2⟩,fun⟨h1,h2⟩=>⟨?_,h2⟩⟩
 ·rcases ht with ht|ht
  ·obtain⟨oj,hoj,hd⟩:=h2;rcases adf j i with q|q|q
   ·exact q
   ·exact absurd (q▸h1) hr.un
   rcases h.apart i j o oj hr.op hoj q with k|k
   ·exact absurd (hr.closed j oj hoj h1 i k) hr.un
   exact absurd ht ((Oper.apart_spec k).2.2 t hd)
  exact absurd h2 (ht j)
 rcases ht with ht|ht
 ·obtain⟨oj,hoj,hd⟩:=h2;rcases h.apart j i oj o hoj hr.op h1 with k|k
  ·exact hr.after j k
  exact absurd ht ((Oper.apart_spec k).1 t hd)
 exact absurd h2 (ht j)
theorem P0(h:iD P R N rd ops J σ rs)(hr:o4 ops D i o){t:Tmp}(hd:o.dst=some t):TD ops σ (fun j=>D j\/j=i) t=(σ (i+1)).fr.get t:=by
 have hi:=hr.lt;have key:∀j,j<ops.size->(D j\/j=i)/\Wr ops j t->j<=i:=?_
 ·unfold TD;rw[uD (p:=fun j=>(D j\/j=i)/\Wr ops j t) hi ⟨.inr rfl,o,hr.op,hd⟩ key]
 intro j hj ⟨h1,h2⟩;obtain⟨oj,hoj,hdj⟩:=h2;rcases h1 with h1|h1
 ·rcases ab8 i j with q|q
  ·rcases h.apart i j o oj hr.op hoj q with k|k
   ·exact absurd (hr.closed j oj hoj h1 i k) hr.un
   exact absurd hdj ((Oper.apart_spec k).2.1 t hd)
  exact q
 omega
theorem PM{t:Tmp}(hr:o4 ops D i o)(hd:o.dst≠some t):TD ops σ (fun j=>D j\/j=i) t=TD ops σ D t:=by
 have key:∀j,j<ops.size->((D j\/j=i)/\Wr ops j t↔D j/\Wr ops j t):=fun j hj=>⟨fun⟨h1,h2⟩=>⟨h1.resolve_right fun e=>?_,h2⟩,fun⟨h1,h2⟩=>⟨.inl h1,h2⟩⟩
 ·unfold TD;rw[ov key]
 subst e;obtain⟨oj,hoj,hdj⟩:=h2;rw[hr.op]at hoj;cases hoj;exact hd hdj
def iS(ops:Array Oper)(o:Oper):List Tmp:=(ops.toList.filterMap (·.dst)).filter fun t=>!(o.looksAt ops).contains t
theorem sH(hI:qc P N ops σ ρ0 w0 D ρ a w)(h:iD P R N rd ops J σ rs)(hr:o4 ops D i o):FR ρ N (drop (σ i).fr (iS ops o)) a.tmps:=by
 refine⟨hI.sz,fun t v ht=>?_⟩;obtain⟨h1,h2⟩:=DF _ _ _ _ ht;refine hI.tm t v ?_;rw[abc h hr ?_]
 ·exact h2
 by_cases hl:t∈o.looksAt ops
 ·exact .inl hl
 refine .inr fun j ⟨oj,hoj,hd⟩=>h1 ?_
 unfold iS;rw[List.mem_filter,List.mem_filterMap];exact⟨⟨oj,Array.mem_toList_iff.2 (Array.mem_of_getElem? hoj),hd⟩,by simpa using hl⟩
theorem vC{f:XF}{t:Tmp}(ht:t∈o.looksAt ops):(drop f (iS ops o)).get t=f.get t:=
 sE _ _ _ fun e=>by
  unfold iS at e;have:=(List.mem_filter.1 e).2;simp[ht]at this
theorem CW{f:XF}:∀x∈o.op.operands,ev (drop f (iS ops o)) x=ev f x:=fun x hx=>by
 cases x with
 |tmp t=>exact vC (ac4 _ (List.mem_filterMap.2 ⟨.tmp t,by simpa using hx,rfl⟩))
 |_=>rfl
theorem sn{f:XF}:gQ ops (drop f (iS ops o)) o=gQ ops f o:=by
 unfold gQ;cases hg:o.guard with
 |none=>rfl
 |some jw=>
  obtain⟨j,b⟩:=jw;simp only;cases ht:(ops[j]?).bind (·.dst)with
  |none=>rfl
  |some t=>
   simp only;rw[vC (ac3 _ (by simp[hg,ht]))]
theorem AG{d:Option Tmp}{u:Value}{t:Tmp}(h:d≠some t):(a.put d u).tmps.getD t undef=a.tmps.getD t undef:=by
 cases d with
 |none=>rfl
 |some s=>
  simp only[Act.put,acj];rw[acB fun e=>h (by rw[e])]
end
end
theorem yp(W:XW):fO W W=[]:=by unfold fO;rw[Nat.sub_self];rfl
theorem I1(W:XW)(o:ah):fO W (W.push o)=[]:=by
 unfold fO;show((W.log.take (W.nlog-W.nlog)).filter _)=[];rw[Nat.sub_self];rfl
theorem pw:∀(l:List Nat) (W:XW),(dJ W l).next=W.next
 |[],W=>rfl
 |n::l,W=>pw l (W.put n none)
theorem ur:∀(l:List Nat) (W:XW) (n:Nat),(dJ W l).heap.room n=W.heap.room n
 |[],W,n=>rfl
 |m::l,W,n=>by
  show(dJ (W.put m none) l).heap.room n=_;rw[ur l];exact PT.room_set _ _ _ _
theorem AO(W:XW)(o:ah):(W.push o).get W.next=if W.heap.room W.next=true then some o else none:=by
 rw[XW.get_lt (W:=W.push o) (aci _)];exact PT.get_set_room _ _ _
theorem tH(V:XW):∀(l:List Nat) (W:XW),(za W V l).next=W.next
 |[],W=>rfl
 |n::l,W=>tH V l (W.put n (V.get n))
theorem Ec(V:XW):∀(l:List Nat) (W:XW) (n:Nat) (o:ah),(za W V l).get n=some o->(n∈l/\V.get n=some o)\/(n∉l/\W.get n=some o)
 |[],W,n,o,h=>.inr ⟨by simp,h⟩
 |m::l,W,n,o,h=>by
  rcases Ec V l (W.put m (V.get m)) n o h with⟨h1,h2⟩|⟨h1,h2⟩
  ·exact .inl ⟨aca _ h1,h2⟩
  rcases XW.get_put h2 with⟨rfl,q⟩|⟨q1,q2⟩
  ·exact .inl ⟨ab4,q⟩
  exact .inr ⟨by simp[q1,h1],q2⟩
theorem aL{W:XW}{n:Nat}{o:ah}(h:W.get n=some o):n<W.next:=by
 rcases ab8 n W.next with q|q
 ·exact q
 rw[XW.get_ge q]at h;cases h
theorem EN{A B C E:XW}(h1:bC A B)(h2:bC B C)(h3:bC C E){n:Nat}(hn:n∈fO B C):n∈E.log.take (E.nlog-A.nlog):=by
 obtain⟨l1,a1,a2,_⟩:=h1.mods;obtain⟨l2,b1,b2,b3⟩:=h2.mods;obtain⟨l3,c1,c2,_⟩:=h3.mods;have hn:n∈l2:=by unfold fO at hn;rw[b3]at hn;exact(List.mem_filter.1 hn).1
 have e1:E.log=(l3++(l2++l1))++A.log:=by rw[c1,b1,a1];simp
 have e2:E.nlog-A.nlog=(l3++(l2++l1)).length:=by rw[c2,b2,a2];simp;omega
 rw[e1,e2,List.take_left];simp[hn]
section
variable {P:Program} {R:XK} {N:Nat} {rd rb:Option Nat} {ops:Array Oper} {rs:List bp} {J:Nat->Bool} {σ:Nat->XS} {D:Nat->Prop} {i:Nat} {o:Oper} {ρ0 ρ:Ren} {w0 w:World} {a:Act} {m:Nat} {K:Act->World->Prop} {Q:Exit->Act->World->Prop}
theorem iD.extc(h:iD P R N rd ops J σ rs){i:Nat}:∀{j:Nat},i<=j->j<=ops.size->bC (σ i).W (σ j).W
 |0,hij,_=>by rw[Nat.le_zero.1 hij];exact .refl _
 |j+1,hij,hj=>by
  rcases ab8 i (j+1)with q|q
  ·exact(h.extc (j:=j) (by omega) (by omega)).trans (h.ext j (by omega))
  have:i=j+1:=by omega
  rw[this];exact .refl _
theorem MT(hR:f9 R)(hC:ji P R)(hF:n9 P R)(hI:qc P N ops σ ρ0 w0 D ρ a w)(h:iD P R N rd ops J σ rs)(hfr:cJ ρ0 (σ 0).W.next (σ ops.size).W.next)(hr:o4 ops D i o)(hrd:jo ρ rd rb){Wx Wx':XW}{x:XR}
 (hx:cj P (σ i).fr Wx o.type o.op=some x) (hk:ku R N rd ⟨(σ i).fr,Wx,(σ i).ds⟩ o.dst (some x)=some (.on ⟨(σ (i+1)).fr,Wx',(σ (i+1)).ds⟩))
 (hn:Wx.next=(σ i).W.next) (hn':Wx'.next=(σ (i+1)).W.next) (hsub:∀n ob,ρ n≠none->Wx.get n=some ob->VD ops σ D n=some ob)
 (hV':∀n ob,ρ n≠none\/((σ i).W.next<=n/\n<(σ (i+1)).W.next)->VD ops σ (fun j=>D j\/j=i) n=some ob->Wx'.get n=some ob\/(ρ n≠none/\VD ops σ D n=some ob/\Wx.get n=none/\Wx'.get n=none))
 (hK:∀ρ' a' w',qc P N ops σ ρ0 w0 (fun j=>D j\/j=i) ρ' a' w'->K a' w'):o.wpIn (FW rb) m P a w K Q:=by
 have hi:=hr.lt;have up:∀n i',ρ n=some i'->Wx.get n≠none->VD ops σ D n≠none:=fun n i' k1 k2=>by
  cases e:Wx.get n with
  |none=>exact absurd e k2
  |some ob=>rw[hsub n ob (by rw[k1];simp) e];simp
 have hlive:HR P ρ Wx.get w:=⟨fun n i' ob h1 h2=>hI.hr.obj n i' ob h1 (hsub n ob (by rw[h1];simp) h2),fun n n' i1 i2 h1 h2 h3 h4 h5=>hI.hr.inj n n' i1 i2 h1 h2 (up n i1 h1 h3) (up n' i2 h2 h4) h5,
  fun b ob e=>⟨(hI.hr.frz b ob e).1,fun⟨n,i',k1,k2,k3⟩=>(hI.hr.frz b ob e).2 ⟨n,i',k1,up n i' k1 k2,k3⟩⟩⟩
 have hd:rd=none\/∀c,o.op≠.defer c:=by
  cases rd with
  |none=>exact .inl rfl
  |some l=>
   refine .inr fun c hc=>?_
   rw[hc]at hx;obtain⟨f,as,cap,rfl⟩:=uz hx;cases hk
 obtain⟨v,b1,b2,b3⟩:=Mm hk;obtain⟨f',hf'⟩:=yd (f:=drop (σ i).fr (iS ops o)) b1;have hk':=b3 _ f' hf';have hx':cj P (drop (σ i).fr (iS ops o)) Wx o.type o.op=some x:=by rw[Ar CW];exact hx
 have hfp:=sH hI h hr;have hfr':cJ ρ Wx.next Wx'.next:=fun n h1 h2=>by
  cases e:ρ n with
  |none=>rfl
  |some q=>exact absurd (hI.alloc h hfr hi (by rw[e];simp) (by omega) (by omega)) hr.un
 refine yJ hR hC hF (s:=⟨drop (σ i).fr (iS ops o),Wx,(σ i).ds⟩) hrd hd (rj hlive hfp.ev hx') hk' hfr' hlive hfp (by rw[h.ds i (by omega)];exact hI.ds) (fun s' hs ρ' a' w' hu ho=>?_) (fun v s' hs=>by cases hs);cases hs;obtain⟨u,hu⟩:=hu;obtain⟨g1,g2,g3,g4⟩:=ho;have g1:ca ρ Wx.get Wx.next w ρ' Wx'.get Wx'.next w':=g1;have g2:HR P ρ' Wx'.get w':=g2;obtain⟨q1,q2⟩:=aaP hI.hr hsub g1 g2 (V':=VD ops σ (fun j=>D j\/j=i)) fun n ob k1 k2=>hV' n ob ((g1.dom n k1).imp id fun⟨e1,e2⟩=>⟨by omega,by omega⟩) k2
 refine hK ρ' a' w' ⟨q1,hI.le.trans q2.le,hI.keeps.trans' q2.keeps (fun b hb e=>(hI.img b e).elim id fun g=>by omega),fun b e=>?_,fun n k=>?_,g3.size,fun t v' ht=>?_,?_,fun b o e=>(q2.fzn b o e).elim (hI.fzn b o) fun q=>.inr (q.elim (hI.img b) fun g=>.inr (acx hI.keeps.size g))⟩
 ·exact(q2.img b e).elim (hI.img b) fun g=>.inr (acx hI.keeps.size g)
 ·rcases g1.dom n k with k|⟨k1,k2⟩
  ·exact(hI.dom n k).imp id fun⟨j,e1,e2⟩=>⟨j,.inl e1,e2⟩
  exact .inr ⟨i,.inr rfl,hi,by omega,by omega⟩
 ·by_cases hdt:o.dst=some t
  ·rw[P0 h hr hdt]at ht;refine g3.rep t v' ?_;show f'.get t=some v';rw[hdt]at b1 hf';rw[ve hf',tL,<-ve b1];exact ht
  rw[PM hr hdt]at ht;rw[hu,AG hdt];exact(hI.tm t v' ht).mono g1.le
 have:(σ (i+1)).ds=(σ 0).ds:=h.ds (i+1) hi;rw[<-this];exact g4
theorem wk(hR:f9 R)(hC:ji P R)(hF:n9 P R)(hI:qc P N ops σ ρ0 w0 D ρ a w)(h:iD P R N rd ops J σ rs)(hfr:cJ ρ0 (σ 0).W.next (σ ops.size).W.next)(hr:o4 ops D i o)(hrd:jo ρ rd rb){Wx:XW}{v:Option Value}
 (hx:cj P (σ i).fr Wx o.type o.op=some (.val v)) (hk:ku R N rd (σ i) o.dst (some (.val v))=some (.on (σ (i+1)))) (hn:Wx.next=(σ i).W.next) (hsub:∀n ob,ρ n≠none->Wx.get n=some ob->VD ops σ D n=some ob)
 (hK:∀ρ' a' w',qc P N ops σ ρ0 w0 (fun j=>D j\/j=i) ρ' a' w'->K a' w'):o.wpIn (FW rb) m P a w K Q:=by
 obtain⟨h1,h2,h3⟩:=uk (show iG (σ i).W (σ i).ds (cw N (σ i).fr o.dst v)=some (.on (σ (i+1)))from hk);refine MT (Wx:=Wx) (Wx':=Wx) hR hC hF hI h hfr hr hrd hx ?_ hn (by rw[<-h2];exact hn) hsub (fun n ob k1 k2=>?_) hK
 ·show iG Wx (σ i).ds (cw N (σ i).fr o.dst v)=_;rw[h1,h3];rfl
 have nt:¬lz σ i n:=fun e=>by
  unfold lz at e;rw[<-h2,yp]at e;rcases e with e|⟨e1,e2⟩
  ·cases e
  omega
 rw[BE nt]at k2;have k1:ρ n≠none:=k1.resolve_right fun⟨e1,e2⟩=>by rw[<-h2]at e2;omega
 cases e:Wx.get n with
 |none=>exact .inr ⟨k1,k2,rfl,rfl⟩
 |some ob'=>
  have:=hsub n ob' k1 e;rw[k2]at this;cases this;exact .inl rfl
theorem Gq(hR:f9 R)(hC:ji P R)(hF:n9 P R)(hI:qc P N ops σ ρ0 w0 D ρ a w)(h:iD P R N rd ops J σ rs)(hfr:cJ ρ0 (σ 0).W.next (σ ops.size).W.next)(hr:o4 ops D i o)(hJ:J i=false)(hrd:jo ρ rd rb)
 (hK:∀ρ' a' w',qc P N ops σ ρ0 w0 (fun j=>D j\/j=i) ρ' a' w'->K a' w') :
 if Region.wanted o (yielded ops a.tmps)=true then o.wpIn (FW rb) m P a w K Q else(∀f,o.about P w a.eval=some f->(FW rb).fn f)/\K (a.put o.dst undef) w:=by
 have hi:=hr.lt;have h1:=(h.step i o hr.op).1 hJ;have hfp:=sH hI h hr;unfold iu oC at h1;split at h1
 ·rename_i hw;rw[if_pos (jJ hfp (sn.trans hw))];cases hx:cj P (σ i).fr (σ i).W o.type o.op with
  |none=>rw[hx]at h1;cases h1
  |some x=>
   rw[hx]at h1;have inU:∀n j,j<ops.size->j≠i->fe (bG ops) i j=false->n∈fO (σ j).W (σ (j+1)).W->n∈dg (bG ops) i rs 0:=fun n j hj hji ho hm=>by
    obtain⟨oj,hoj⟩:=p9 hj;exact tQ (d:=j) (h.step j oj hoj).2 (by omega) (by rw[Nat.zero_add];exact ho) hm
   have vat:∀n ob,ρ n≠none->(σ i).W.get n=some ob->n∉dg (bG ops) i rs 0->VD ops σ D n=some ob:=fun n ob k1 k2 k3=>by
    rw[F0 hI h hfr hr k1 (aL k2) fun j hj hji ho hm=>absurd (inU n j hj hji ho hm) k3];exact k2
   have plain:(∀n ob,ρ n≠none->(σ i).W.get n=some ob->VD ops σ D n=some ob) ->
    (∀n,lz σ i n->VD ops σ (fun j=>D j\/j=i) n=(σ (i+1)).W.get n)->(∀n ob,ρ n≠none->n<(σ i).W.next->VD ops σ D n=some ob->(σ i).W.get n=some ob)->o.wpIn (FW rb) m P a w K Q:=fun hsub hnew hback=>by
    refine MT (Wx:=(σ i).W) (Wx':=(σ (i+1)).W) hR hC hF hI h hfr hr hrd hx h1 rfl rfl hsub (fun n ob k1 k2=>?_) hK;by_cases ht:lz σ i n
    ·rw[hnew n ht]at k2;exact .inl k2
    rw[BE ht]at k2;have k1:ρ n≠none:=k1.resolve_right fun e=>ht (.inr e)
    rcases ab8 n (σ i).W.next with q|q
    ·left;rw[h.stW hi ht];exact hback n ob k1 q k2
    right;have:(σ (i+1)).W.next<=n:=Nat.le_of_not_lt fun e=>ht (.inr ⟨q,e⟩)
    exact⟨k1,k2,XW.get_ge q,XW.get_ge this⟩
   rcases h.cond i o hr.op hJ hw with hU|hU
   ·have nu:∀n j,j<ops.size->j≠i->fe (bG ops) i j=false->n∉fO (σ j).W (σ (j+1)).W:=fun n j hj hji ho hm=>by
     have:=inU n j hj hji ho hm;rw[hU]at this;cases this
    refine plain (fun n ob k1 k2=>vat n ob k1 k2 (by rw[hU];simp)) (fun n ht=>IH h hr ht (nu n)) fun n ob k1 k2 k3=>?_
    rw[<-F0 hI h hfr hr k1 k2 fun j hj hji ho hm=>absurd hm (nu n j hj hji ho)];exact k3
   unfold nc at hU;simp only[acs,abZ]at hU;rcases hU with hU|⟨hg,hU⟩
   ·have hU:dg (bG ops) i rs 0=[]:=by simpa using hU
    have nu:∀n j,j<ops.size->j≠i->fe (bG ops) i j=false->n∉fO (σ j).W (σ (j+1)).W:=fun n j hj hji ho hm=>by
     have:=inU n j hj hji ho hm;rw[hU]at this;cases this
    refine plain (fun n ob k1 k2=>vat n ob k1 k2 (by rw[hU];simp)) (fun n ht=>IH h hr ht (nu n)) fun n ob k1 k2 k3=>?_
    rw[<-F0 hI h hfr hr k1 k2 fun j hj hji ho hm=>absurd hm (nu n j hj hji ho)];exact k3
   rcases hU with⟨hc,hcx⟩|hU
   ·
    have hsub:∀n ob,ρ n≠none->(dJ (σ i).W (dg (bG ops) i rs 0)).get n=some ob->VD ops σ D n=some ob:=fun n ob k1 k2=>
     vat n ob k1 (nv _ _ n ob k2) fun e=>by rw[vt _ _ n e]at k2;cases k2
    cases hy:cj P (σ i).fr (dJ (σ i).W (dg (bG ops) i rs 0)) o.type o.op with
    |none=>simp only[hy]at hcx;cases hcx
    |some y=>
     have:=O3 (nv (σ i).W (dg (bG ops) i rs 0)) hc hy;rw[hx]at this;cases this;simp only[hy]at hcx;cases x<;>first|(cases hcx;done)|skip
     ·exact wk hR hC hF hI h hfr hr hrd hy h1 (pw _ _) hsub hK
     rename_i ob k;obtain⟨g1,g2,g3⟩:=uk (show iG ((σ i).W.push ob) (σ i).ds (cw N (σ i).fr o.dst (some (k (σ i).W.next)))=some (.on (σ (i+1)))from h1);have hnx:=pw (dg (bG ops) i rs 0) (σ i).W;have hnx':(σ (i+1)).W.next=(σ i).W.next+1:=by rw[<-g2];rfl
     refine MT (Wx:=dJ (σ i).W (dg (bG ops) i rs 0)) (Wx':=(dJ (σ i).W (dg (bG ops) i rs 0)).push ob) hR hC hF hI h hfr hr hrd hy ?_ hnx (by rw[hnx'];show(dJ _ _).next+1=_;rw[hnx]) hsub (fun n ob' k1 k2=>?_) hK
     ·show iG _ (σ i).ds (cw N (σ i).fr o.dst (some (k (dJ _ _).next)))=_;rw[hnx,g1,g3];rfl
     have hmods:∀n,lz σ i n↔n=(σ i).W.next:=fun n=>by
      unfold lz;rw[<-g2,I1];constructor
      ·rintro (e|⟨e1,e2⟩)
       ·cases e
       have e2:n<(σ i).W.next+1:=e2;omega
      rintro rfl;exact .inr ⟨Nat.le_refl _,aci _⟩
     by_cases ht:n=(σ i).W.next
     ·left;rw[IH h hr ((hmods n).2 ht) fun j hj hji ho hm=>?_]at k2
      ·subst ht;rw[<-g2,AO]at k2;have hp:=AO (dJ (σ i).W (dg (bG ops) i rs 0)) ob;rw[hnx,ur]at hp;rw[hp];exact k2
      have:=List.all_eq_true.1 hg n (inU n j hj hji ho hm);simp only[acs]at this;rcases this with e|e
      ·have:=oU.1 e;omega
      have:=Nat.le_of_ble_eq_true e;omega
     rw[BE fun e=>ht ((hmods n).1 e)]at k2;have k1:ρ n≠none:=k1.resolve_right fun⟨e1,e2⟩=>by omega
     have hp:((dJ (σ i).W (dg (bG ops) i rs 0)).push ob).get n=(dJ (σ i).W (dg (bG ops) i rs 0)).get n:=XW.get_push_ne (by rw[hnx];exact ht);rw[hp];cases e:(dJ (σ i).W (dg (bG ops) i rs 0)).get n with
     |none=>exact .inr ⟨k1,k2,rfl,rfl⟩
     |some ob2=>
      have:=hsub n ob2 k1 e;rw[k2]at this;cases this;exact .inl rfl
   ·
    unfold PJ at hU;split at hU
    ·rename_i j q hus;simp only[abZ,acs]at hU;obtain⟨hs,hb⟩:=hU;obtain⟨d,e1,e2,e3,e4⟩:=wm (show(j,q)∈jr (bG ops) i rs 0 by rw[hus];exact ab4);have e1:j=d:=by omega
     subst e1;have hj:j<ops.size:=by have:=(List.getElem?_eq_some_iff.1 e2).1;rw[h.len]at this;exact this
     obtain⟨oj,hoj⟩:=p9 hj;have hq:=(h.step j oj hoj).2;rw[hq]at e2;cases e2;have uniq:∀n j',j'<ops.size->j'≠i->fe (bG ops) i j'=false->n∈fO (σ j').W (σ (j'+1)).W->j'=j:=fun n j' k1 k2 k3 k4=>by
      obtain⟨o',ho'⟩:=p9 k1;have:=Bf (ms:=bG ops) (i:=i) (n:=n) (j0:=0) (d:=j') (h.step j' o' ho').2 (by omega) (by rw[Nat.zero_add];exact k3) k4;rw[hus]at this;simp only[Nat.zero_add,List.mem_singleton]at this;exact(Prod.mk.inj this).1
     obtain⟨v,hv1,hv2⟩:∃v,x=.val v/\cj P (σ i).fr (za (σ i).W (bif Nat.blt i j then(σ (j+1)).W else(σ j).W) (fO (σ j).W (σ (j+1)).W)) o.type o.op=some (.val v):=by
      have hs:zM (cj P (σ i).fr (σ i).W o.type o.op) (cj P (σ i).fr (za (σ i).W (bif Nat.blt i j then(σ (j+1)).W else(σ j).W) (fO (σ j).W (σ (j+1)).W)) o.type o.op)=true:=hs;rw[hx]at hs;unfold zM at hs;split at hs
      ·rename_i k1 k2 k3 k4 k5 k6;simp only[abZ,decide_eq_true_eq]at hs;obtain⟨rfl,rfl⟩:=hs;cases k5;exact⟨_,rfl,k6⟩
      cases hs
     subst hv1;by_cases hDj:D j↔j<i
     ·refine wk hR hC hF hI h hfr hr hrd hx h1 rfl (fun n ob k1 k2=>?_) hK;rw[F0 hI h hfr hr k1 (aL k2) fun j' hj' hji ho hm=>by rw[uniq n j' hj' hji ho hm];exact hDj];exact k2
     refine wk hR hC hF hI h hfr hr hrd hv2 h1 (tH _ _ _) (fun n ob k1 k2=>?_) hK;have hlt:n<(σ i).W.next:=by have:=aL k2;rwa [tH]at this
     rcases Ec _ _ _ _ _ k2 with⟨c1,c2⟩|⟨c1,c2⟩
     ·rcases ab8 i j with hij|hij
      ·have hD:D j:=Classical.byContradiction fun e=>hDj ⟨fun e'=>absurd e' e,fun e'=>by omega⟩
       rw[mj hij]at c2;rw[<-c2];unfold VD;rw[uD (p:=fun j=>D j/\lz σ j n) hj ⟨hD,.inl c1⟩ fun j' hj' ⟨d1,d2⟩=>by
        rcases d2 with d2|⟨d2,d3⟩
        ·cases qo:fe (bG ops) i j' with
         |true=>have:=BI h hr hj' qo d1;omega
         |false=>rw[uniq n j' hj' (fun e=>hr.un (e▸d1)) qo d2];exact Nat.le_refl _
        rcases ab8 j' i with q|q
        ·omega
        have:=h.nx (i:=i) (j:=j') q (by omega);omega]
       rfl
      have hji:j<i:=by omega
      have hD:¬D j:=fun e=>hDj ⟨fun _=>hji,fun _=>e⟩
      rw[xB hij]at c2;rw[<-c2];have hbt:∀j',j<j'->j'<i->n∉fO (σ j').W (σ (j'+1)).W:=fun j' a1 a2 a3=>by
       rcases hb with hb|hb
       ·have:=oU.1 hb;omega
       have hmem:n∈UJ ⟨oj,σ j,σ (j+1)⟩ ⟨o,σ i,σ (i+1)⟩:=EN (h.extc (i:=j+1) (j:=j') a1 (by omega)) (h.ext j' (by omega)) (h.extc (i:=j'+1) (j:=i) a2 (by omega)) a3;have:=List.all_eq_true.1 (List.all_eq_true.1 hb n hmem) n c1;rw[acb]at this;cases this
      refine qT (f:=fun j=>(σ j).W.get n) (τ:=fun j=>lz σ j n) (i:=j) (by omega) (fun j hj ht=>h.stW hj ht) fun j' hj'=>⟨fun⟨d1,d2⟩=>⟨?_,d2⟩,fun⟨d1,d2⟩=>⟨?_,d2⟩⟩
      ·rcases d2 with d2|⟨d2,d3⟩
       ·cases qo:fe (bG ops) i j' with
        |true=>
         have h3:=BI h hr hj' qo d1;rcases adf j' j with q|q|q
         ·exact q
         ·exact absurd (q▸d1) hD
         exact absurd d2 (hbt j' q h3)
        |false=>exact absurd (uniq n j' hj' (fun e=>hr.un (e▸d1)) qo d2▸d1) hD
       have:=CD c1;rcases ab8 j' j with q|q
       ·exact q
       have:=h.nx (i:=j) (j:=j') q (by omega);omega
      rcases d2 with d2|⟨d2,d3⟩
      ·cases qo:fe (bG ops) i j' with
       |true=>exact JU h hr (by omega) qo
       |false=>have:=uniq n j' hj' (by omega) qo d2;omega
      exact hI.alloc h hfr hj' k1 d2 d3
     rw[F0 hI h hfr hr k1 hlt fun j' hj' hji ho hm=>absurd (uniq n j' hj' hji ho hm▸hm) c1];exact c2
    cases hU
 ·rename_i hw;rw[if_neg (by rw[jJ hfp (sn.trans hw)];exact acf)];obtain⟨g1,g2,g3⟩:=uk h1;refine⟨fun _ _=>trivial,hK ρ _ _ ?_⟩;have nt:∀n,¬lz σ i n:=fun n e=>by
   unfold lz at e;rw[<-g2,yp]at e;rcases e with e|⟨e1,e2⟩
   ·cases e
   omega
  have hV:VD ops σ (fun j=>D j\/j=i)=VD ops σ D:=funext fun n=>BE (nt n)
  refine⟨by rw[hV];exact hI.hr,hI.le,hI.keeps,by rw[hV];exact hI.img,fun n k=>(hI.dom n k).imp id fun⟨j,e1,e2⟩=>⟨j,.inl e1,e2⟩,?_,fun t v ht=>?_,?_,hI.fzn⟩
  ·cases o.dst with
   |none=>exact hI.sz
   |some d=>simpa[Act.put]using hI.sz
  ·by_cases hdt:o.dst=some t
   ·rw[P0 h hr hdt]at ht;obtain⟨f',hf'⟩:=yd (f:=drop (σ i).fr (iS ops o)) g1;have:=(FR.putT (a:=a) (u:=undef) hfp (fun x e=>by cases e;exact pg) hf').rep t v (by
     rw[hdt]at g1 hf';rw[ve hf',tL,<-ve g1];exact ht)
    exact this
   rw[PM hr hdt]at ht;rw[AG hdt];exact hI.tm t v ht
  rw[cE];exact hI.ds
 cases h1
end
section
variable {P:Program} {R:XK} {N:Nat} {rd rb:Option Nat} {ops:Array Oper} {rs:List bp} {J:Nat->Bool} {σ:Nat->XS} {ρ0:Ren} {w0:World} {m:Nat} {Q:Exit->Act->World->Prop}
def eA(listed:Array Bool)(j:Nat):Prop:=listed.getD j false=true
theorem zd{listed:Array Bool}{j:Nat}(h:eA listed j):j<listed.size:=by
 unfold eA at h;rcases ab8 j listed.size with q|q
 ·exact q
 rw[acj,Array.getElem?_eq_none q]at h;cases h
theorem vo{listed:Array Bool}{j:Nat}:listed.getD j true=false↔j<listed.size/\¬eA listed j:=by
 unfold eA;rw[acj,acj];rcases ab8 j listed.size with q|q
 ·rw[acl q];simp[q]
 rw[Array.getElem?_eq_none q];simp;omega
theorem C9{listed:Array Bool}{i:Nat}(hi:i<listed.size):eA (listed.setIfInBounds i true)=fun j=>eA listed j\/j=i:=funext fun j=>propext (by
 unfold eA;rw[acj,acj];by_cases hij:i=j
 ·subst hij;rw[Array.getElem?_setIfInBounds_self_of_lt hi];simp
 rw[acB hij];simp[Ne.symm hij])
theorem CJ(h:iD P R N rd ops J σ rs){listed:Array Bool}(hs:listed.size=ops.size)(hr:Region.ready .any ops listed=[]):∀j,j<ops.size->eA listed j:=fun j=>by
 induction j using Nat.strongRecOn with
 |_ j ih=>
  intro hj;obtain⟨o,ho⟩:=p9 hj;refine Classical.byContradiction fun hn=>?_
  have:j∈Region.ready .any ops listed:=mem_ready.2 ⟨vo.2 ⟨by omega,hn⟩,o,ho,fun e he hb=>by
   have hlt:=h.lex j o ho e.on (pk.2 ⟨e,he,hb,rfl⟩);exact ih e.on hlt (by omega)⟩
  rw[hr]at this;cases this
theorem H3(hR:f9 R)(hC:ji P R)(hF:n9 P R)(h:iD P R N rd ops J σ rs)(hJ:∀i,J i=false)(hfr:cJ ρ0 (σ 0).W.next (σ ops.size).W.next)(hrd:jo ρ0 rd rb)
 (hQ:∀ρ a w,qc P N ops σ ρ0 w0 (fun j=>j<ops.size) ρ a w->Q .normal a w):∀(fuel:Nat) (listed:Array Bool) (U:List Nat) (ρ:Ren) (a:Act) (w:World),listed.size=ops.size ->
 (∀j,j<ops.size->¬eA listed j->j∈U)->U.length<=fuel->Dq ops (eA listed)->qc P N ops σ ρ0 w0 (eA listed) ρ a w->wpAnyIn (FW rb) m P .any ops Q fuel listed a w:=by
 have fin:∀listed ρ a w,listed.size=ops.size->(∀j,j<ops.size->eA listed j)->qc P N ops σ ρ0 w0 (eA listed) ρ a w->Q .normal a w:=fun listed ρ a w hs hall hI=>by
  have e:eA listed=fun j=>j<ops.size:=funext fun j=>propext ⟨fun k=>hs▸zd k,hall j⟩
  rw[e]at hI;exact hQ ρ a w hI
 intro fuel
 induction fuel with
 |zero=>
  intro listed U ρ a w hs hU hl hc hI;have hU0:U=[]:=List.length_eq_zero_iff.1 (Nat.le_zero.1 hl);have hall:∀j,j<ops.size->eA listed j:=fun j hj=>Classical.byContradiction fun e=>by
   have:=hU j hj e;rw[hU0]at this;cases this
  refine⟨?_,fin listed ρ a w hs hall hI⟩;rw[List.eq_nil_iff_forall_not_mem];intro j hj;obtain⟨k1,k2⟩:=mem_ready.1 hj;obtain⟨q1,q2⟩:=vo.1 k1;exact q2 (hall j (by omega))
 |succ fuel ih=>
  intro listed U ρ a w hs hU hl hc hI;refine⟨fun hnil=>fin listed ρ a w hs (CJ h hs hnil) hI,fun i hi=>?_⟩;obtain⟨k1,o,ho,k2⟩:=mem_ready.1 hi;obtain⟨q1,q2⟩:=vo.1 k1;have hr:o4 ops (eA listed) i o:=⟨ho,q2,fun e he=>by
   obtain⟨x,p1,p2,rfl⟩:=pk.1 he;exact k2 x p1 p2,hc⟩
  unfold wpOpIn;rw[ho];refine Gq hR hC hF hI h hfr hr (hJ i) (hrd.mono hI.le) fun ρ' a' w' hI'=>?_
  have hset:=C9 q1;refine ih (listed.setIfInBounds i true) (U.erase i) ρ' a' w' (by simpa using hs) (fun j hj hn=>?_) ?_ (fun j oj hj hd e he=>?_) (by rw[hset];exact hI')
  ·rw[hset]at hn;simp only[not_or]at hn;exact(List.mem_erase_of_ne hn.2).2 (hU j hj hn.1)
  ·rw[ac1 (hU i (by omega) q2)];omega
  rw[hset]at hd ⊢;rcases hd with hd|rfl
  ·exact .inl (hc j oj hj hd e he)
  rw[ho]at hj;cases hj;exact .inl (hr.after e he)
theorem lu(hm:P.follows .mixedOrders=true)(R:XK)(hR:f9 R)(hC:ji P R)(hF:n9 P R):OU P R:=by
 intro N rd id ops s rs s' ht hk ρ rb a w m hrd hfr hH hFR hD;obtain⟨σ,h0,h1,h⟩:=UV hR ht hk;subst h0 h1;have hno:∀j,¬eA (Array.replicate ops.size false) j:=fun j e=>by
  have hj:=zd e;unfold eA at e;rw[acj,acl hj]at e;simp at e
 have hV:VD ops σ (eA (Array.replicate ops.size false))=(σ 0).W.get:=funext fun n=>by
  unfold VD;rw[jX (abW _) fun j _ _ e=>hno j e.1];rfl
 have hT:∀t,TD ops σ (eA (Array.replicate ops.size false)) t=(σ 0).fr.get t:=fun t=>by
  unfold TD;rw[jX (abW _) fun j _ _ e=>hno j e.1];rfl
 refine wpIn_region_any hm (H3 (ρ0:=ρ) (w0:=w.drew) hR hC hF h (fun _=>rfl) hfr hrd (fun ρ' a' w' hI=>?_) ops.size _ (List.range ops.size) ρ a w.drew (by simp) (fun j hj _=>List.mem_range.2 hj) (by simp) (fun j o ho hd=>absurd hd (hno j)) ?_)
 ·have hV':VD ops σ (fun j=>j<ops.size)=(σ ops.size).W.get:=funext fun n=>
   qT (f:=fun j=>(σ j).W.get n) (τ:=fun j=>lz σ j n) (i:=ops.size) (Nat.le_refl _) (fun j hj ht=>h.stW hj ht) fun j hj=>Iff.rfl
  have hT':∀t,TD ops σ (fun j=>j<ops.size) t=(σ ops.size).fr.get t:=fun t=>
   qT (f:=fun j=>(σ j).fr.get t) (τ:=fun j=>Wr ops j t) (i:=ops.size) (Nat.le_refl _) (fun j hj ht=>h.stT hj ht) fun j hj=>Iff.rfl
  refine⟨ρ',⟨ca.drew ⟨hI.le,hI.keeps,fun b hb=>?_,fun n hn=>?_,h.nx (abW _) (Nat.le_refl _),hI.fzn⟩,?_,⟨hI.sz,fun t v e=>hI.tm t v (by rw[hT'];exact e)⟩,?_⟩,trivial⟩
  ·rw[<-hV']at hb;exact hI.img b hb
  ·rcases hI.dom n hn with q|⟨j,q1,q2,q3,q4⟩
   ·exact .inl q
   have k1:=h.nx (i:=0) (j:=j) (abW _) (by omega);have k2:=h.nx (i:=j+1) (j:=ops.size) q2 (Nat.le_refl _);exact .inr ⟨by omega,by omega⟩
  ·rw[<-hV'];exact hI.hr
  rw[h.ds _ (Nat.le_refl _)];exact hI.ds
 refine⟨by rw[hV];exact hH.drew,.refl _,.refl _ _,fun b hb=>.inl (by rw[hV]at hb;exact hb),fun n hn=>.inl hn,hFR.size,fun t v e=>hFR.rep t v (by rw[hT]at e;exact e),hD,fun _ _ h=>.inl h⟩
end
def pT:Op->Bool
 |.call ⟨.builtin .recover,args,_⟩=>args.isEmpty
 |_=>false
def vd(ops:Array Oper)(rest:Code):List Oper->Option (Array Oper×Oper×List Oper×Code)
 |o::l=>bif pT o.op&&o.guard.isNone then some (ops,o,l,rest)else none
 |[]=>none
def Ai:Code->Option (Array Oper×Oper×List Oper×Code)
 |.seq (.region _ ops false) rest=>vd ops rest ops.toList
 |_=>none
def x6(W:XW)(ds:List cq):Option XF->Option XS
 |some fr=>some ⟨fr,W,ds⟩
 |none=>none
def ip(N:Nat)(s:XS)(d:Option Tmp):Option XR->Option XS
 |some (.val v)=>x6 s.W s.ds (cw N s.fr d v)
 |some (.new o k)=>x6 (s.W.push o) s.ds (cw N s.fr d (some (k s.W.next)))
 |some (.mod v W)=>x6 W s.ds (cw N s.fr d (some v))
 |_=>none
def mE(P:Program)(N:Nat):List Oper->XS->Option XS
 |[],s=>some s
 |o::l,s=>bif o.guard.isNone then(match ip N s o.dst (cj P s.fr s.W o.type o.op)with
  |some s'=>mE P N l s'
  |none=>none)else none
def nf:gV->Bool
 |.norm=>true
 |.ret=>true
 |_=>false
def uV:Option XO->Option (Option Value×XW)
 |some (.code e s)=>bif nf e&&s.ds.isEmpty then some (none,s.W)else none
 |_=>none
def vh(R:XK)(N:Nat)(rest:Code):Option XS->Option (Option Value×XW)
 |some s=>uV (R (.code N none rest s))
 |none=>none
def uM(P:Program)(R:XK)(N:Nat)(W:XW)(l:List Oper)(rest:Code):Option XF->Option (Option Value×XW)
 |some fr=>vh R N rest (mE P N l ⟨fr,W,[]⟩)
 |none=>none
def uN(P:Program)(R:XK)(fn:Func)(args:List Value)(p:Option Value)(W:XW):Option (Array Oper×Oper×List Oper×Code)->Option (Option Value×XW)
 |some (_,o,l,rest)=>bif fh fn&&Nat.ble args.length fn.ntmps&&fn.results.isEmpty then uM P R fn.ntmps W l rest (cw fn.ntmps (yK args) o.dst (some (p.getD .nilIface)))else none
 |none=>none
def kZ(P:Program)(R:XK)(f:FuncId)(args:List Value)(p:Option Value)(W:XW):Option (Option Value×XW):=
 match P.funcs[f]? with
 |some fn=>match fn.body with
  |some c=>uN P R fn args p W (Ai c)
  |none=>none
 |none=>none
section
variable {P:Program} {N:Nat}
theorem mK{W:XW}{ds:List cq}{o:Option XF}{s:XS}(h:x6 W ds o=some s):o=some s.fr/\W=s.W/\ds=s.ds:=by
 unfold x6 at h;split at h<;>cases h;exact⟨rfl,rfl,rfl⟩
theorem Be{s s':XS}{d:Option Tmp}{x:Option XR}(hm:∀v W',x=some (.mod v W')->bC s.W W')(h:ip N s d x=some s'):bC s.W s'.W:=by
 unfold ip at h;split at h
 ·obtain⟨_,h2,_⟩:=mK h;rw[<-h2];exact .refl _
 ·obtain⟨_,h2,_⟩:=mK h;rw[<-h2];exact .push _ _
 ·obtain⟨_,h2,_⟩:=mK h;rw[<-h2];exact hm _ _ rfl
 cases h
theorem xf:∀(l:List Oper) (s s':XS),mE P N l s=some s'->bC s.W s'.W
 |[],s,s',h=>by cases h;exact .refl _
 |o::l,s,s',h=>by
  unfold mE at h;cases hg:o.guard.isNone<;>rw[hg]at h
  ·cases h
  simp only[cond_true]at h;split at h
  ·rename_i s1 h1;exact(Be (fun v W' q=>y9 q) h1).trans (xf l s1 s' h)
  cases h
theorem Na{ρ:Ren}{s s':XS}{o:Oper}{x:XR}{a:Act}{w:World}(hX:cV P ρ s.W w (execOp a.eval o) x)(h:ip N s o.dst (some x)=some s')(hfr:cJ ρ s.W.next s'.W.next)
 (hH:HR P ρ s.W.get w) (hFR:FR ρ N s.fr a.tmps) (hD:gy ρ s.ds a.defers):∃u w' ρ',qj P (execOp a.eval o) w u w'/\mF P ρ s.W w N s' ρ' (a.put o.dst u) w':=by
 cases x with
 |val v=>
  obtain⟨u,hg,hv⟩:=hX;obtain⟨h1,h2,h3⟩:=mK h;obtain⟨fr',W',ds'⟩:=s';simp only at h1 h2 h3;subst h2 h3;exact⟨u,w,ρ,hg,.refl _ _ _ _,hH,FR.putT hFR hv h1,by rw[cE];exact hD⟩
 |new ob k=>
  obtain⟨h1,h2,h3⟩:=mK h;obtain⟨fr',W',ds'⟩:=s';simp only at h1 h2 h3;subst h2 h3;obtain⟨u,ρ',w',hg,hs,hh,hv⟩:=hX (hfr _ (Nat.le_refl _) (aci _));exact⟨u,w',ρ',hg,hs,hh,FR.putT (hFR.mono hs.le) (fun x e=>by cases e;exact hv) h1,by rw[cE];exact hD.mono hs.le⟩
 |mod v W1=>
  obtain⟨h1,h2,h3⟩:=mK h;obtain⟨fr',W',ds'⟩:=s';simp only at h1 h2 h3;subst h2 h3;obtain⟨u,ρ',w',hg,hs,hh,hv⟩:=hX hfr;exact⟨u,w',ρ',hg,hs,hh,FR.putT (hFR.mono hs.le) (fun x e=>by cases e;exact hv) h1,by rw[cE];exact hD.mono hs.le⟩
 |_=>cases h
theorem CV{ops:Array Oper}{m:Nat}{cs:List Frame}{Q:Exit->Act->List Frame->World->Prop}:∀(l:List Oper) (s s':XS),mE P N l s=some s'->∀(k:Nat),(∀j,l[j]?=ops[k+j]?) ->
 ∀(ρ:Ren) (a:Act) (w:World),cJ ρ s.W.next s'.W.next->HR P ρ s.W.get w->FR ρ N s.fr a.tmps->gy ρ s.ds a.defers->(∀ρ' a' w',mF P ρ s.W w N s' ρ' a' w'->Q .normal a' cs w') ->
 wpOpsSIn Fence.wide m P ops Q (List.range' k l.length) a cs w
 |[],s,s',h,k,hl,ρ,a,w,hfr,hH,hFR,hD,hQ=>by
  cases h;exact hQ ρ a w ⟨.refl _ _ _ _,hH,hFR,hD⟩
 |o::l,s,s',h,k,hl,ρ,a,w,hfr,hH,hFR,hD,hQ=>by
  have ho:ops[k]?=some o:=by have:=hl 0;simpa using this.symm
  unfold mE at h;cases hg:o.guard.isNone<;>rw[hg]at h
  ·cases h
  simp only[cond_true]at h;split at h
  ·rename_i s1 h1;have hw:Region.wanted o (yielded ops a.tmps)=true:=by
    unfold Region.wanted;cases e:o.guard with
    |none=>rfl
    |some _=>rw[e]at hg;cases hg
   cases hx:cj P s.fr s.W o.type o.op with
   |none=>rw[hx]at h1;cases h1
   |some x=>
    rw[hx]at h1;have n1:s.W.next<=s1.W.next:=(Be (fun v W' q=>by cases q;exact y9 hx) h1).next;have n2:s1.W.next<=s'.W.next:=(xf l s1 s' h).next;obtain⟨u,w',ρ1,g1,g2,g3,g4,g5⟩:=Na (rj hH hFR.ev hx) h1 (hfr.left n2) hH hFR hD;have ih:=CV (m:=m) (cs:=cs) (Q:=Q) l s1 s' h (k+1) (fun j=>by have:=hl (j+1);simpa[adb,acy 1 j]using this) ρ1 (a.put o.dst u) w' (hfr.right g2) g3 g4 g5 fun ρ' a' w2 hq=>hQ ρ' a' w2 (hq.trans' g2)
    show wpOpsSIn Fence.wide m P ops Q (k::List.range' (k+1) l.length) a cs w;simp only[wpOpsSIn,ho,hw,if_true];refine⟨fun _ _=>trivial,?_⟩;rcases g1 with g1|⟨g1,rfl⟩
    ·rw[g1];exact ih
    rw[g1];exact ih
  cases h
theorem E5{o:Oper}{a:Act}{w:World}(h:pT o.op=true):(execOp a.eval o).run P w=.ok .recover w:=by
 obtain⟨dst,op,type,pos,after,guard⟩:=o;unfold pT at h;split at h
 ·rename_i args ats heq;have:args=#[]:=by simpa using h
  simp only at heq;subst heq this;rfl
 cases h
theorem BW{R:XK}(hR:f9 R)(hC:ji P R){f:FuncId}{args:List Value}{p p':Option Value}{W W':XW}(h:kZ P R f args p W=some (p',W')):cS P f/\bC W W'/\∀ρ args' w m u,cJ ρ W.next W'.next->HR P ρ W.get w->aU ρ args args'->ix ρ p u ->
 CallsDIn Fence.wide m P f args'.toArray u w fun en u' w'=>(∃v,en=.returned v)/\∃ρ',ca ρ W.get W.next w ρ' W'.get W'.next w'/\HR P ρ' W'.get w'/\ix ρ' p' (settle u'):=by
 unfold kZ at h;split at h
 ·rename_i fn hf;split at h
  ·rename_i c hb;unfold uN at h;split at h
   ·rename_i _ ops o l rest hp;cases hk:(fh fn&&Nat.ble args.length fn.ntmps&&fn.results.isEmpty)<;>rw[hk]at h
    ·cases h
    simp only[cond_true]at h;simp only[abZ]at hk;obtain⟨⟨hn,hlen⟩,hres⟩:=hk;unfold Ai at hp;split at hp
    ·rename_i id ops' rest';unfold vd at hp;split at hp
     ·rename_i o' l' hol;cases hk2:(pT o'.op&&o'.guard.isNone)<;>rw[hk2]at hp<;>cases hp;simp only[abZ]at hk2;unfold uM at h;split at h
      ·rename_i fr1 h1;unfold vh at h;split at h
       ·rename_i s1 h2;unfold uV at h;split at h
        ·rename_i e s2 h3;cases hk3:(nf e&&s2.ds.isEmpty)<;>rw[hk3]at h<;>cases h;simp only[abZ]at hk3;have x1:bC W s1.W:=xf _ _ _ h2;have x2:bC s1.W s2.W:=hR _ _ h3;refine⟨⟨fn,hf,hn,by rw[hb];rfl⟩,x1.trans x2,fun ρ args' w m u hfr hH hA hP=>?_⟩;refine callsDIn_of_wpSIn hf hb trivial fun c₀ cs hu=>wpSIn_seq (wpSIn_region ?_)
         have hsz:ops.size=l.length+1:=by rw[<-acv,hol];rfl
         have ho0:ops[0]?=some o:=by rw[<-acr,hol];rfl
         have hrg:List.range ops.size=0::List.range' 1 l.length:=by rw[hsz,List.range_eq_range'];rfl
         have hw:∀t,Region.wanted o (yielded ops t)=true:=fun t=>by
          unfold Region.wanted;cases e:o.guard with
          |none=>rfl
          |some _=>rw[e]at hk2;cases hk2.2
         have hds:s2.ds=[]:=by simpa using hk3.2
         have go:∀(v:Value) (u':FrameMode),VR ρ (p.getD .nilIface) v->settle u'=.returning->wpOpsSIn Fence.wide m P ops (Exit.thenS (rest.wpSIn Fence.wide m P (bodyPostS P fn c₀ cs fun en u' w'=>(∃v,en=.returned v)/\∃ρ',ca ρ W.get W.next w ρ' s2.W.get s2.W.next w'/\HR P ρ' s2.W.get w'/\ix ρ' none (settle u'))) (bodyPostS P fn c₀ cs fun en u' w'=>(∃v,en=.returned v)/\∃ρ',ca ρ W.get W.next w ρ' s2.W.get s2.W.next w'/\HR P ρ' s2.W.get w'/\ix ρ' none (settle u')))
          (List.range' 1 l.length) (({ tmps:=args'.toArray++Array.replicate (fn.ntmps-args'.toArray.size) undef,defers:=[] }:Act).put o.dst v) ({ c₀ with mode:=u' }::cs) w:=fun v u' hv hset=>by
          refine CV l ⟨fr1,W,[]⟩ s1 h2 1 (fun j=>by rw[acy,<-acr,hol];rfl) ρ _ w (hfr.left x2.next) hH (FR.putT (a:={ tmps:=_,defers:=[] }) (wG hA (Nat.le_of_ble_eq_true hlen)) (fun x e=>by cases e;exact hv) h1) (by rw[cE];exact .nil) fun ρ1 a1 w1 ho1=>?_
          obtain⟨g1,g2,g3,g4⟩:=ho1;refine wpSIn_of_wpIn rfl (wpIn_mono (hC _ _ _ _ _ _ h3 ρ1 none a1 w1 m trivial (hfr.right g1) g2 g3 g4) fun ex a2 w2 hq=>?_);obtain⟨ρ2,⟨k1,k2,k3,k4⟩,hex⟩:=hq;rw[hds]at k4;have kd:a2.defers=[]:=by cases hdd:a2.defers with|nil=>rfl|cons _ _=>rw[hdd]at k4;cases k4
          have hr0:rL P s2.W s2.fr fn.results.toList=some []:=by
           have:fn.results=#[]:=by simpa using hres
           rw[this];rfl
          obtain⟨r,q1,q2⟩:=qt k2 k3 hr0;have fin:a2.defers=[]/\∃u'',{ c₀ with mode:=u' }::cs={ c₀ with mode:=u'' }::cs/\∃v,(results fn a2.tmps).run P w2=.ok v w2/\((∃v',Ending.returned v=.returned v')/\∃ρ',ca ρ W.get W.next w ρ' s2.W.get s2.W.next w2/\HR P ρ' s2.W.get w2/\ix ρ' none (settle u'')):=
           ⟨kd,u',rfl,r,q1,⟨_,rfl⟩,ρ2,g1.trans k1,k2,by rw[hset];trivial⟩
          cases ex<;>cases e<;>first|exact hex.elim|(cases hk3.1;done)|skip
          ·exact fin
          exact fin
         rw[hrg];simp only[wpOpsSIn,ho0,hw,if_true,E5 hk2.1];refine⟨fun _ _=>trivial,?_⟩;cases p with
         |none=>
          cases u<;>first|exact hP.elim|skip
          have hrec:recoverD (c₀::cs)=none:=by simp only[recoverD,hu]
          rw[hrec];have:=go .nilIface .returning (.flat 1 _ rfl) rfl;have hc:({ c₀ with mode:=FrameMode.returning }:Frame)=c₀:=by rw[<-hu]
          rw[hc]at this;exact this
         |some v=>
          cases u<;>first|exact hP.elim|skip
          obtain⟨v',hv,rfl⟩:=hP;have hrec:recoverD (c₀::cs)=some (v',{ c₀ with mode:=.panicking [{ v:=v',recovered:=true }] }::cs):=by simp only[recoverD,hu]
          rw[hrec];exact go v' _ hv rfl
        cases h
       cases h
      cases h
     cases hp
    cases hp
   cases h
  cases h
 cases h
end
def fN{α:Type}(n:Nat)(k:Nat->α):α:=match n with
 |0=>k 0
 |m+1=>k (m+1)
def fW{α:Type}(x:aA)(k:aA->α):α:=fN x.toNat fun n=>k (BitVec.ofNat 32 n)
def ml{α:Type}(b:List UInt8):Nat->List aA->(List aA->α)->α
 |0,W,k=>k W
 |i+1,W,k=>fW (kl b W) fun x=>ml b i (W++[x]) k
def lX{α:Type}(W:List aA):Nat->Nat->S8->(S8->α)->α
 |0,_,s,k=>k s
 |n+1,i,s,k=>fW (rT s (co kc i) (co W i)) fun t=>fW (t+rU s) fun x=>fW (s.d+t) fun y=>lX W n (i+1) ⟨x,s.a,s.b,s.c,y,s.e,s.f,s.g⟩ k
def fS{α:Type}(s:S8)(k:S8->α):α:=fW s.a fun a=>fW s.b fun b=>fW s.c fun c=>fW s.d fun d=>fW s.e fun e=>fW s.f fun f=>fW s.g fun g=>fW s.h fun h=>k ⟨a,b,c,d,e,f,g,h⟩
def yO{α:Type}(s:S8)(b:List UInt8)(k:S8->α):α:=ml b 64 [] fun W=>lX W 64 0 s fun t=>fS (sS s t) k
def BU{α:Type}(m:List UInt8):Nat->Nat->S8->(S8->α)->α
 |0,_,s,k=>k s
 |n+1,i,s,k=>yO s ((m.drop (64*i)).take 64) fun s=>BU m n (i+1) s k
def fL{α:Type}:List UInt8->List UInt8->(List UInt8->α)->α
 |[],acc,k=>k acc.reverse
 |x::l,acc,k=>fN x.toNat fun n=>fL l (UInt8.ofNat n::acc) k
def HJ{α:Type}(l:List UInt8)(k:List UInt8->α):α:=fL l [] fun l=>BU (jl l) ((jl l).length/64) 0 (S8.of iv) fun s=>fL (s.list.flatMap cg) [] k
theorem BR{α:Type}(n:Nat)(k:Nat->α):fN n k=k n:=by cases n<;>rfl
theorem lW{α:Type}(x:aA)(k:aA->α):fW x k=k x:=by
 unfold fW;rw[BR];simp
theorem nF{α:Type}(b:List UInt8)(k:List aA->α):∀(n i:Nat),ml b n (cN b i) k=k (cN b (i+n))
 |0,i=>rfl
 |n+1,i=>by
  unfold ml;rw[lW];have:=nF b k n (i+1);rw[show i+1+n=i+(n+1) by omega]at this;exact this
theorem oX{α:Type}(W:List aA)(s:S8)(k:S8->α):∀(n i:Nat),lX W n i (fH W s i) k=k (fH W s (i+n))
 |0,i=>rfl
 |n+1,i=>by
  unfold lX;rw[lW,lW,lW];have:=oX W s k n (i+1);rw[show i+1+n=i+(n+1) by omega]at this;exact this
theorem Jj{α:Type}(s:S8)(k:S8->α):fS s k=k s:=by
 unfold fS;simp only[lW]
theorem GM{α:Type}(s:S8)(b:List UInt8)(k:S8->α):yO s b k=k (dw s b):=by
 unfold yO;have h1:=nF b (fun W=>lX W 64 0 s fun t=>fS (sS s t) k) 64 0;rw[show cN b 0=[]from rfl]at h1;rw[h1];have h2:=oX (cN b (0+64)) s (fun t=>fS (sS s t) k) 64 0;rw[show fH (cN b (0+64)) s 0=s from rfl]at h2;rw[h2,Jj];rfl
theorem Cb{α:Type}(m:List UInt8)(k:S8->α):∀(n i:Nat),BU m n i (oa m i) k=k (oa m (i+n))
 |0,i=>rfl
 |n+1,i=>by
  unfold BU;rw[GM];have:=Cb m k n (i+1);rw[show i+1+n=i+(n+1) by omega]at this;exact this
theorem Jd{α:Type}(k:List UInt8->α):∀(l acc:List UInt8),fL l acc k=k (acc.reverse++l)
 |[],acc=>by simp[fL]
 |x::l,acc=>by
  unfold fL;rw[BR,Jd k l];simp
theorem yF{α:Type}(l:List UInt8)(k:List UInt8->α):HJ l k=k (dR l):=by
 unfold HJ;rw[Jd];have:=Cb (jl l) (fun s=>fL (s.list.flatMap cg) [] k) ((jl l).length/64) 0;rw[show oa (jl l) 0=S8.of iv from rfl,Nat.zero_add]at this;simp only[List.reverse_nil,List.nil_append];rw[this,Jd];simp[dR]
def Hl(W:XW)(h:List UInt8):Option (Value×XW):=some (.agg (an h).toArray,W)
def zg(args:List Value)(W:XW):Option (Value×XW):=match args with
 |[.string s]=>bif Nat.ble s.size 140737488351232 then HJ s.data.toList (Hl W)else none
 |_=>none
def yP(W:XW)(n o:Nat):Option XW->Option (Value×XW)
 |some W'=>some (.tuple #[],W')
 |none=>none
def Cf(P:Program)(bt:TypeId)(W:XW)(n o len:Nat)(e:TypeId):Option Value->Option (Value×XW)
 |some (.pointer none)=>bif liesAt P P.depth e (len/P.cellsOf e) o bt 1 then yP W n o (eI W n o [.pointer (some ⟨n,o,none⟩)])else none
 |some (.pointer (some ⟨m,p,none⟩))=>bif Nat.beq n m&&Nat.beq o p then some (.tuple #[],W)else none
 |_=>none
def Jk(P:Program)(bt:TypeId)(W:XW)(n o:Nat):Option ah->Option (Value×XW)
 |some (.cells c e _)=>Cf P bt W n o c.length e c[o]?
 |_=>none
def kf(P:Program)(bt:TypeId)(args:List Value)(W:XW):Option (Value×XW):=match args with
 |[.pointer (some ⟨n,o,none⟩)]=>Jk P bt W n o (W.get n)
 |_=>none
section
variable {P:Program}
theorem HR.keep{ρ:Ren}{G:GH}{w w':World}(h:HR P ρ G w)(hk:ak aO w w'):HR P ρ G w':=
 ⟨fun n i o h1 h2=>let⟨ob,q1,q2⟩:=h.obj n i o h1 h2;⟨ob,hk.heap q1 (fun e=>e),q2⟩,h.inj,fun b o e=>let⟨q1,q2⟩:=h.frz b o e;⟨hk.heap q1 (fun e=>e),q2⟩⟩
theorem ca.keep{ρ:Ren}{G:GH}{nx:Nat}{w w':World}(hk:ak aO w w'):ca ρ G nx w ρ G nx w':=
 ⟨.refl _,hk.mono fun _ _ e=>e.elim,fun _ h=>.inl h,fun _ h=>.inl h,Nat.le_refl _,fun _ _ h=>.inl h⟩
theorem wB:∀l:List UInt8,(an l).all (aX 7)=true
 |[]=>rfl
 |x::l=>by
  simp only[an,ack,List.all_cons];rw[show aX 7 (bv x)=true from rfl];exact wB l
theorem B7{args:List Value}{W W':XW}{v:Value}(h:zg args W=some (v,W')):bC W W':=by
 unfold zg at h;split at h
 ·rename_i s;cases hb:Nat.ble s.size 140737488351232<;>rw[hb]at h
  ·cases h
  rw[cond_true,yF]at h;cases h;exact .refl _
 cases h
theorem Da{f:FuncId}(hc:∀(s:ByteArray) (w:World),s.size<=140737488351232->Calls P f #[.string s] w fun e w'=>e=.returned (.agg (an (dR s.data.toList)).toArray)/\ak aO w w')
 {args:List Value} {W W':XW} {v:Value} (h:zg args W=some (v,W')) {ρ:Ren} {args':List Value} {w:World} {m:Nat} (hH:HR P ρ W.get w) (hA:aU ρ args args'):CallsIn Fence.wide m P f args'.toArray w (QF P ρ W w (.ret v) W'):=by
 unfold zg at h;split at h
 ·rename_i s;cases hb:Nat.ble s.size 140737488351232<;>rw[hb]at h
  ·cases h
  rw[cond_true,yF]at h;cases h;have hle:=Nat.le_of_ble_eq_true hb;cases hA with
  |cons _ x _ l' h1 h2=>
   cases h2;have:x=.string s:=h1.of_flat 1 rfl;subst this;refine CallsIn.mono (callsIn_wide.2 (hc s w hle)) fun e w' ⟨he,hk⟩=>?_
   subst he;exact⟨ρ,.keep hk,hH.keep hk,.flat 8 _ (by
    show(an _).toArray.toList.all (aX 7)=true;rw[List.toList_toArray];exact wB _)⟩
 cases h
theorem EX{fits:TypeId->Bool}{e:TypeId}{count count' off n q:Nat}:∀{d:Nat},rowAt P fits d e count off n=true->q+count<=count'->rowAt P fits d e count' (off+q*P.cellsOf e) n=true
 |0,h,_=>by cases h
 |d+1,h,hc=>by
  unfold rowAt at h ⊢;by_cases hs:P.cellsOf e=0
  ·simp[hs]at h
  have hp:0<P.cellsOf e:=Nat.pos_of_ne_zero hs;simp only[hs,if_false]at h ⊢;rw[Nat.add_mul_mod_self_right,Nat.add_mul_div_right _ _ hp];simp only[acs,abZ,decide_eq_true_eq]at h ⊢;rcases h with⟨⟨h1,h2⟩,h3⟩|⟨h1,h2⟩
  ·exact .inl ⟨⟨h1,by omega⟩,h3⟩
  exact .inr ⟨by omega,h2⟩
theorem pB{e:TypeId}{count count' off q:Nat}(hc:q+count<=count'):∀{d:Nat} {u:TypeId} {n:Nat},liesAt P d e count off u n=true->liesAt P d e count' (off+q*P.cellsOf e) u n=true
 |0,_,_,h=>by cases h
 |d+1,u,n,h=>by
  unfold liesAt at h ⊢;simp only[acs]at h ⊢;rcases h with h|h
  ·exact .inl (EX h hc)
  right;cases hu:P.underlying u with
  |none=>rw[hu]at h;cases h
  |some t=>
   rw[hu]at h;cases t<;>first|(cases h;done)|skip
   exact pB hc h
theorem zN{bt:TypeId}{args:List Value}{W W':XW}{v:Value}(h:kf P bt args W=some (v,W')):bC W W':=by
 unfold kf at h;split at h
 ·unfold Jk at h;split at h
  ·unfold Cf at h;split at h
   ·rename_i n o _ _ _ _ _ _;revert h;generalize liesAt _ _ _ _ _ _ _=b;intro h;cases b
    ·cases h
    simp only[cond_true]at h;unfold yP at h;split at h
    ·rename_i W1 hs;cases h;exact lU hs
    cases h
   ·revert h;generalize(_&&_:Bool)=b;intro h;cases b<;>cases h;exact .refl _
   cases h
  cases h
 cases h
theorem zj{f:FuncId}{bt:TypeId}
 (hu:∀(b q:Nat) (w:World),w.cell? ⟨b,q,none⟩=some (.pointer (some ⟨b,q,none⟩))->Calls P f #[.pointer (some ⟨b,q,none⟩)] w fun e w'=>e=.returned (.tuple #[])/\w'=w)
 (hf:∀(b q z:Nat) (e:TypeId) (w:World),w.cell? ⟨b,q,none⟩=some (.pointer none)->w.shape? b=some (e,z)->q<z->liesAt P P.depth e (z/P.cellsOf e) q bt 1=true->w.frozen? ⟨b,q,none⟩=false ->
  Calls P f #[.pointer (some ⟨b,q,none⟩)] w fun e w'=>e=.returned (.tuple #[])/\w'=w.setCell ⟨b,q,none⟩ (.pointer (some ⟨b,q,none⟩)))
 {args:List Value} {W W':XW} {v:Value} (h:kf P bt args W=some (v,W')) {ρ:Ren} {args':List Value} {w:World} {m:Nat} (hH:HR P ρ W.get w) (hA:aU ρ args args'):CallsIn Fence.wide m P f args'.toArray w (QF P ρ W w (.ret v) W'):=by
 unfold kf at h;split at h
 ·rename_i n o;cases hA with
  |cons _ x _ l' h1 h2=>
   cases h2;obtain⟨i,hi,rfl⟩:∃i,ρ n=some i/\x=.pointer (some ⟨i.b,o+i.s,none⟩):=by
    cases h1 with
    |flat k _ hk=>cases k<;>simp[aX]at hk
    |ptr _ _ i hi=>exact⟨i,hi,rfl⟩
   unfold Jk at h;split at h
   ·rename_i c e fr hg;obtain⟨c',f',hb,hz,hr,hk,hl,hrow⟩:=mM hH hi hg;unfold Cf at h;split at h
    ·rename_i _ hv;cases hq:liesAt P P.depth e (c.length/P.cellsOf e) o bt 1<;>rw[hq]at h
     ·cases h
     simp only[cond_true]at h;unfold yP at h;split at h
     ·rename_i W1 hs;cases h;obtain⟨v',y1,y2⟩:=hrow o _ hv;have y3:v'=.pointer none:=y2.of_flat 1 rfl;subst y3;have ho:o<c.length:=(List.getElem?_eq_some_iff.1 hv).1;have hs1:=G8 hH hi hg;obtain⟨ob,hb2,hff⟩:=Dd hH hi hg;rw[hb]at hb2;cases hb2;obtain⟨hff,_⟩:=hff _ _ _ rfl;obtain⟨cc,ee,ff,hg2,hl2,hfr2,_,hW1⟩:=oy hs;rw[hg]at hg2;cases hg2;obtain⟨s1,s2,s3⟩:=l6 hH hi hs (.cons _ _ _ _ (.ptr n o i hi) .nil);have hlies:liesAt P P.depth e (i.z/P.cellsOf e) (o+i.s) bt 1=true:=by
       by_cases hce:P.cellsOf e=0
       ·rw[hce]at hq ⊢;simp only[Nat.div_zero]at hq ⊢;have:=pB (q:=0) (count':=0) (by omega) hq;have hno:∀d u n off,liesAt P d e 0 off u n=true->False:=fun d=>by
         induction d with
         |zero=>intro u n off h;cases h
         |succ d ih=>
          intro u n off h;unfold liesAt at h;simp only[acs]at h;rcases h with h|h
          ·cases hd:P.depth with
           |zero=>rw[hd]at h;cases h
           |succ dd=>rw[hd]at h;unfold rowAt at h;simp[hce]at h
          cases hu':P.underlying u with
          |none=>rw[hu']at h;cases h
          |some t=>
           rw[hu']at h;cases t<;>first|(cases h;done)|skip
           exact ih _ _ _ h
        exact(hno _ _ _ _ hq).elim
       have hke:P.cellsOf e=i.k:=by
        cases hinf:P.info? e with
        |none=>simp[Program.cellsOf,hinf]at hce
        |some t=>simp[Program.cellsOf,hinf,hk t hinf]
       have hp:0<i.k:=by rw[<-hke];exact Nat.pos_of_ne_zero hce
       have hdiv:i.s=i.s/i.k*i.k:=by have:=Nat.div_add_mod i.s i.k;rw[hs1,Nat.add_zero,Nat.mul_comm]at this;exact this.symm
       have hcount:i.s/i.k+c.length/P.cellsOf e<=i.z/P.cellsOf e:=by have a1:=Nat.add_mul_div_right c.length (i.s/i.k) hp;rw[<-hdiv]at a1;rw[hke,acy,<-a1];exact Nat.div_le_div_right (by omega)
       have:=pB (P:=P) hcount hq;rw[hke,<-hdiv]at this;rw[hke];exact this
      have hcall:=hf i.b (o+i.s) i.z e w (by rw[bm hb,acy];exact y1) (by simp[World.shape?,hb,hz]) (by omega) hlies (by
       simp only[World.frozen?,hb];cases q:(decide (f'.1<=o+i.s)&&decide (o+i.s<f'.2))with
       |false=>rfl
       |true=>
        simp only[abZ,decide_eq_true_eq]at q;exact absurd (hff o (by omega) (by omega) (by omega)) (hfr2 o (Nat.le_refl _) (by simp)))
      refine CallsIn.mono (callsIn_wide.2 hcall) fun en w' ⟨he,hw⟩=>?_
      subst he hw;have hset:w.setCells i.b (o+i.s) [.pointer (some ⟨i.b,o+i.s,none⟩)]=w.setCell ⟨i.b,o+i.s,none⟩ (.pointer (some ⟨i.b,o+i.s,none⟩)):=rfl;rw[hset]at s2 s3;exact⟨ρ,s3,s2,.flat 8 _ rfl⟩
     cases h
    ·rename_i _ m' p hv;cases hq:(Nat.beq n m'&&Nat.beq o p)<;>rw[hq]at h
     ·cases h
     cases h;simp only[abZ]at hq;have e1:=abY hq.1;have e2:=abY hq.2;subst e1 e2;obtain⟨v',y1,y2⟩:=hrow o _ hv;have y3:v'=.pointer (some ⟨i.b,o+i.s,none⟩):=by
      cases y2 with
      |flat k _ hk=>cases k<;>simp[aX]at hk
      |ptr _ _ i' hi'=>rw[hi]at hi';cases hi';rfl
     subst y3;refine CallsIn.mono (callsIn_wide.2 (hu i.b (o+i.s) w (by rw[acy i.s o]at y1;rw[bm hb];exact y1))) fun en w' ⟨he,hw⟩=>?_
     subst he hw;exact⟨ρ,.refl _ _ _ _,hH,.flat 8 _ rfl⟩
    cases h
   cases h
 cases h
end
end Go.Proofs.YthlkgmdkabelpaaGreat.X
