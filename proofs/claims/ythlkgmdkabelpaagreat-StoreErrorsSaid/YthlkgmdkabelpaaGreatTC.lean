/-
  Packed by program (tools/pack.py) out of the texts F12 F13 F14 F15 F16 F17 F18 F19 F20 F21 F22 F23 F24 F25. No condition.
-/
import Derived.Test.YthlkgmdkabelpaaGreatTB
import Derived.RangeFuncLeaves
import Derived.RecoverIn
import Derived.Test.YthlkgmdkabelpaaGreatTA
set_option linter.all false
namespace Go.Proofs.YthlkgmdkabelpaaGreat.X
open Go Go.RowKit
structure bu(W W':XW):Prop where
 next:W.next<=W'.next
 log:∃l,W'.log=l++W.log/\W'.nlog=W.nlog+l.length/\∀n,n∉l->n<W.next->W'.get n=W.get n
theorem bu.refl(W:XW):bu W W:=⟨Nat.le_refl _,[],rfl,rfl,fun _ _ _=>rfl⟩
theorem bu.trans{a b c:XW}(h:bu a b)(k:bu b c):bu a c:=by
 obtain⟨l,h1,h2,h3⟩:=h.log;obtain⟨m,k1,k2,k3⟩:=k.log;refine⟨Nat.le_trans h.next k.next,m++l,by rw[k1,h1,YF],by rw[k2,h2,Yh];omega,fun n hn hl=>?_⟩;rw[List.mem_append]at hn;rw[k3 n (fun e=>hn (.inl e)) (Zi hl h.next),h3 n (fun e=>hn (.inr e)) hl]
theorem bu.put(W:XW)(n:Nat)(o:Option ag):bu W (W.put n o):=
 ⟨Nat.le_refl _,[n],rfl,rfl,fun m hm _=>XW.get_put_ne (by simpa using hm)⟩
theorem bu.push(W:XW)(o:ag):bu W (W.push o):=
 ⟨Zm _,[],rfl,rfl,fun m _ hm=>XW.get_push_ne (by omega)⟩
section
variable {P:Program} {W W':XW} {fr:XF} {v:Value}
theorem nS{o:Option Value}(h:qH o=some (.mod v W')):bu W W':=by cases o<;>cases h
theorem nM{o:Option Value}(h:kX o=some (.mod v W')):bu W W':=by
 cases o with
 |none=>cases h
 |some u=>simp only[kX]at h;cases hq:bZ u<;>rw[hq]at h<;>cases h
theorem qR{u:Value}{o:Option XW}(ho:∀W1,o=some W1->bu W W1)(h:lZ u o=some (.mod v W')):bu W W':=by
 cases o with
 |none=>cases h
 |some W1=>cases h;exact ho _ rfl
theorem lu{n o:Nat}{vs:List Value}{W1:XW}(h:dV W n o vs=some W1):bu W W1:=by
 obtain⟨c,e,f,_,_,_,_,rfl⟩:=nh h;exact .put _ _ _
theorem aQ{b:Bool}{x y:Option XR}(hx:x=some (.mod v W')->bu W W')(hy:y=some (.mod v W')->bu W W')(h:(bif b then x else y)=some (.mod v W')):bu W W':=by
 cases b
 ·exact hy h
 exact hx h
theorem af(h:(none:Option XR)=some (.mod v W')):bu W W':=by cases h
theorem bC{u:Value}(h:val u=some (.mod v W')):bu W W':=by cases h
theorem mo{W1:XW}{o:ag}{l c:Nat}(hW:bu W W1)(h:ii W1 o l c=some (.mod v W')):bu W W':=by cases h;exact hW.trans (.push _ _)
theorem C1{a x:Value}{d:Option TypeDesc}(h:nv P W a x d=some (.mod v W')):bu W W':=by
 unfold nv at h;split at h
 ·unfold E7 at h;split at h
  ·refine aQ (fun h=>?_) af h;unfold BB at h;split at h
   ·refine aQ (fun h=>?_) af h;unfold rj at h;split at h
    ·rename_i base len cap _ _;unfold FD at h;cases hN:oT W len _ cap _ _ _ _ (tv W base) base with
     |some r'=>
      rw[hN]at h;cases h;unfold oT at hN;split at hN
      ·unfold s4 at hN;split at hN
       ·exact aQ (fun h=>aQ (fun h=>aQ (fun h=>mo (.put _ _ _) h) af h) (fun h=>aQ (fun h=>mo (.put _ _ _) h) af h) h) af hN
       exact af hN
      exact af hN
     |none=>
     rw[hN]at h;replace h:=(show(bif Nat.beq _ 0 then(bif Nat.ble len cap then val (.slice base len cap)else none)else bif Nat.blt 0 _ then nJ W len _ cap _ _ _ _ base else none)=some _ from h);refine aQ (fun h=>aQ bC af h) (fun h=>aQ (fun h=>?_) af h) h;unfold nJ at h;split at h
     ·exact aQ (fun h=>mo (.refl _) h) af h
     ·refine aQ (fun h=>aQ (fun h=>qR (fun _ q=>lu q) h) (fun h=>?_) h) (fun h=>?_) h
      ·unfold uS at h;split at h
       ·exact aQ (fun h=>mo (.put _ _ _) h) af h
       exact af h
      unfold zS at h;split at h
      ·exact aQ (fun h=>mo (.refl _) h) af h
      exact af h
     exact af h
    exact af h
   exact af h
  exact af h
 exact af h
theorem CN{b:Builtin}{ats:Array TypeId}{ty:TypeId}{args:List Value}(h:dQ P W b ats ty args=some (.mod v W')):bu W W':=by
 unfold dQ at h;split at h
 ·unfold mP at h;split at h
  ·split at h<;>first|exact bC h|exact af h
  ·unfold vZ at h;split at h<;>first|exact bC h|exact af h
  ·split at h<;>first|exact bC h|exact af h
  ·exact bC h
  exact af h
 ·exact aQ C1 af h
 ·unfold Ay at h;split at h
  ·split at h
   ·unfold FH at h;split at h
    ·unfold Bb at h;split at h
     ·refine aQ bC (fun h=>?_) h;unfold EG at h;split at h
      ·exact qR (fun _ q=>lu q) h
      exact af h
     exact af h
    exact af h
   exact af h
  exact af h
 ·unfold Fa at h;split at h
  ·split at h
   ·unfold LU at h;split at h
    ·refine aQ (fun h=>?_) af h;unfold Qt at h;split at h
     ·cases h;exact .put _ _ _
     ·exact bC h
     exact af h
    exact af h
   exact af h
  exact af h
 ·unfold Fu at h;split at h
  ·split at h
   ·refine aQ bC (fun h=>?_) h;unfold Kj at h;split at h
    ·exact qR (fun _ q=>lu q) h
    exact af h
   exact af h
  exact af h
 ·exact aQ nM af h
 ·exact aQ nM af h
 ·unfold DN at h;split at h
  ·exact aQ af bC h
  ·exact bC h
  exact af h
 ·unfold vc at h;split at h
  ·split at h
   ·exact bC h
   ·unfold x5 at h;split at h
    ·refine aQ (fun h=>?_) af h;unfold wK at h;split at h
     ·cases h;exact .put _ _ _
     exact af h
    exact af h
   exact af h
  exact af h
 exact af h
theorem Na{d:Option TypeDesc}{m k x:Option Value}(h:uM P W d m k x=some (.mod v W')):bu W W':=by
 unfold uM at h;split at h
 ·unfold lG at h;split at h
  ·refine aQ (fun h=>?_) af h;unfold pV at h;split at h
   ·unfold uC at h;split at h
    ·exact aQ (fun h=>by cases h;exact .put _ _ _) af h
    exact af h
   ·cases h;exact .put _ _ _
   exact af h
  exact af h
 exact af h
theorem NC{d:Option TypeDesc}{m k:Option Value}(h:Co P W d m k=some (.mod v W')):bu W W':=by
 unfold Co at h;split at h
 ·unfold Ln at h;split at h
  ·refine aQ (fun h=>?_) af h;unfold LC at h;split at h
   ·unfold J3 at h;split at h
    ·exact aQ (fun h=>by cases h;exact .put _ _ _) af h
    exact af h
   ·cases h;exact .put _ _ _
   exact af h
  exact af h
 exact af h
theorem Py{m s x:Option Value}(h:B9 W m s x=some (.mod v W')):bu W W':=by
 unfold B9 at h;split at h
 ·unfold LD at h;split at h
  ·unfold JG at h;split at h
   ·unfold T4 at h;split at h
    ·cases h;exact .put _ _ _
    exact af h
   exact af h
  exact af h
 exact af h
theorem O6{b:Bool}{x:Option Value}(h:Cq W b x=some (.mod v W')):bu W W':=by
 unfold Cq at h;split at h
 ·unfold KM at h;split at h
  ·unfold Ls at h;split at h
   ·refine aQ af (fun h=>?_) h;unfold JF at h;split at h
    ·exact bC h
    ·exact aQ (fun h=>by cases h;exact .put _ _ _) af h
    exact af h
   exact af h
  exact af h
 exact af h
theorem Sl{a x:Option Value}{s:Option Nat}(h:tS W a x s=some (.mod v W')):bu W W':=by
 unfold tS at h;split at h
 ·exact aQ (fun h=>qR (fun _ q=>lu q) h) af h
 exact af h
theorem x3{ty:TypeId}{op:Op}(h:bU P fr W ty op=some (.mod v W')):bu W W':=by
 cases op<;>simp only[bU]at h;all_goals first
  |exact af h
  |exact Sl h
  |exact Na h
  |exact NC h
  |exact Py h
  |exact O6 h
  |skip
 case move=>cases h
 case assign=>cases h
 case pick=>unfold vm at h;split at h<;>cases h
 case alloc=>unfold rH at h;split at h<;>cases h
 case box=>unfold Aq at h;split at h<;>cases h
 case build=>unfold Cp at h;split at h<;>first|exact nS h|cases h
 case buildSlice=>
  unfold wL at h;split at h
  ·unfold F2 at h;split at h
   ·unfold AV at h;split at h
    ·exact aQ (fun h=>by cases h) af h
    exact af h
   exact af h
  exact af h
 case load=>unfold DO at h;split at h<;>first|exact nS h|cases h
 case nilCheck=>unfold AJ at h;split at h<;>first|exact bC h|cases h
 case binOp=>
  unfold dM at h;split at h
  ·refine aQ nM (fun h=>?_) h;unfold Dh at h;split at h<;>first|exact bC h|exact af h
  exact af h
 case unOp=>unfold zf at h;split at h<;>first|exact aQ nM af h|exact af h
 case convert=>
  unfold iV at h;split at h
  ·unfold pQ at h;split at h<;>cases h
  ·unfold nT at h;split at h
   ·unfold AN at h;split at h<;>first|exact bC h|exact af h
   exact af h
  ·unfold qI at h;split at h<;>first|exact aQ nM af h|exact af h
  exact af h
 case sliceToArrayPointer=>unfold zT at h;split at h<;>first|exact aQ bC af h|exact af h
 case makeInterface=>unfold wA at h;split at h<;>first|exact af h|exact bC h
 case makeFunc=>unfold EK at h;split at h<;>first|exact af h|exact bC h
 case makeMap=>unfold Ae at h;split at h<;>cases h
 case makeSlice=>
  unfold wE at h;split at h
  ·unfold xH at h;split at h<;>first|exact aQ (fun h=>by cases h) af h|exact af h
  exact af h
 case slice=>
  unfold rq at h;split at h
  ·unfold gN at h;split at h
   ·split at h
    ·unfold Mu at h;split at h<;>first|exact aQ bC af h|exact af h
    exact af h
   ·split at h
    ·split at h
     ·unfold Jp at h;split at h<;>first|exact aQ bC af h|exact af h
     refine aQ (fun h=>?_) af h;unfold L2 at h;split at h<;>first|exact aQ bC af h|exact af h
    ·unfold GQ at h;split at h<;>first|exact aQ bC af h|exact af h
    exact af h
   ·split at h
    ·unfold L9 at h;split at h<;>first|exact aQ bC af h|exact af h
    exact af h
   exact af h
  exact af h
 case fieldAddr=>
  unfold qP at h;split at h
  ·unfold xw at h;split at h
   ·unfold E6 at h;split at h<;>first|exact bC h|exact af h
   exact af h
  ·unfold xp at h;split at h
   ·unfold LI at h;split at h<;>first|exact bC h|exact af h
   exact af h
  exact af h
 case field=>
  unfold Cs at h;split at h
  ·unfold E9 at h;split at h<;>first|exact nS h|exact af h
  exact af h
 case indexAddr=>
  unfold kU at h;split at h
  ·unfold pc at h;split at h<;>first|exact aQ bC af h|exact af h
  ·unfold pc at h;split at h<;>first|exact aQ bC af h|exact af h
  ·unfold mR at h;split at h<;>first|exact aQ bC af h|exact af h
  ·unfold mR at h;split at h<;>first|exact aQ bC af h|exact af h
  exact af h
 case index=>
  unfold uz at h;split at h
  ·unfold As at h;split at h<;>first|exact aQ nS af h|exact af h
  ·unfold vt at h;split at h<;>first|exact bC h|exact af h
  exact af h
 case lookup=>
  unfold xM at h;split at h
  ·unfold lP at h;split at h
   ·refine aQ (fun h=>?_) af h;unfold xB at h;split at h<;>first|exact bC h|exact af h
   exact af h
  exact af h
 case range=>
  unfold u9 at h;split at h
  ·unfold xR at h;split at h<;>cases h
  exact af h
 case entry=>
  unfold uT at h;split at h
  ·unfold wW at h;split at h
   ·unfold wZ at h;split at h
    ·refine aQ (fun h=>?_) af h;unfold BV at h;split at h<;>first|exact bC h|exact af h
    exact af h
   exact af h
  exact af h
 case typeAssert=>
  unfold AR at h;split at h
  ·exact af h
  ·refine aQ bC (fun h=>?_) h;unfold FL at h;split at h<;>first|exact bC h|exact af h
  exact af h
 case extract=>unfold E5 at h;split at h<;>first|exact nS h|exact af h
 case call c=>
  unfold sj at h;split at h
  ·unfold Be at h;split at h<;>first|exact CN h|exact af h
  ·unfold wx at h;split at h
   ·cases h
   ·exact aQ (fun h=>by cases h) af h
   exact af h
  exact af h
 case defer=>
  unfold uJ at h;split at h
  ·unfold Ck at h;split at h<;>cases h
  exact af h
 case panic=>unfold CA at h;split at h<;>cases h
def Eh(W W':XW):Prop:=∀n o,W.get n=some o->W'.get n=some o
theorem mc(W:XW):∀l,Eh (dv W l) W
 |[]=>fun _ _ h=>h
 |n::l=>fun m o h=>by
  rcases XW.get_put (mc (W.put n none) l m o h)with⟨_,q⟩|⟨_,q⟩
  ·cases q
  exact q
theorem um(W:XW):∀l n,n∈l->(dv W l).get n=none
 |m::l,n,h=>by
  by_cases hm:n∈l
  ·exact um _ l n hm
  rcases List.mem_cons.1 h with rfl|h
  ·cases e:(dv (W.put n none) l).get n with
   |none=>exact e
   |some o=>
    rcases XW.get_put (mc _ l n o e)with⟨_,q⟩|⟨q,_⟩
    ·cases q
    exact absurd rfl q
  exact absurd h hm
theorem F5{t:TypeId}{p u:Value}(hs:Eh W W')(h:iQ P W t p=some u):iQ P W' t p=some u:=by
 unfold iQ at h ⊢;split at h
 ·rename_i n o;split at h
  ·rename_i c e f hg;simp only[hs _ _ hg];exact h
  cases h
 ·exact h
 cases h
theorem Im{s n:Nat}{x:Value}{l:List Value}(hs:Eh W W')(h:eZ W s n x=some l):eZ W' s n x=some l:=by
 unfold eZ at h ⊢;split at h
 ·exact h
 ·rename_i b o;simp only;cases q:Nat.beq n 0 with
  |true=>rw[q]at h;exact h
  |false=>
   rw[q]at h;simp only[cond_false]at h ⊢;split at h
   ·rename_i c e f hg;simp only[hs _ _ hg];exact h
   cases h
 ·exact h
 ·exact h
 cases h
theorem ug{x:Value}{q:List MapEntry×Nat}(hs:Eh W W')(h:jb W x=some q):jb W' x=some q:=by
 unfold jb at h ⊢;split at h
 ·exact h
 ·rename_i r;split at h
  ·rename_i es c hg;simp only[hs _ _ hg];exact h
  cases h
 cases h
theorem Fj{cap:Nat}{t:TypeId}{a:Option Addr}(hs:Eh W W')(h:jk W cap t a=true):jk W' cap t a=true:=by
 unfold jk at h ⊢;split at h
 ·exact h
 rename_i a;cases q:aN cap with
 |false=>rfl
 |true=>
  rw[q]at h;simp only[Bool.not_true,Bool.false_or]at h ⊢;split at h
  ·rename_i c e f hg;simp only[hs _ _ hg];exact h
  cases h
theorem Ke{ty:TypeId}{op:Op}{r:XR}(hs:Eh W W')(hc:BL op=true)(h:bU P fr W ty op=some r):bU P fr W' ty op=some r:=by
 cases op<;>first|(exact absurd hc YE)|exact h|skip
 case load t a=>
  simp only[bU,DO]at h ⊢;cases ha:ev fr a with
  |none=>rw[ha]at h;cases h
  |some p=>
   rw[ha]at h;simp only at h ⊢;cases hl:iQ P W t p with
   |none=>rw[hl]at h;cases h
   |some u=>rw[hl]at h;rw[F5 hs hl];exact h
 case convert s d x=>
  simp only[bU,iV]at h ⊢;split at h
  ·exact h
  ·unfold nT at h ⊢;split at h
   ·rename_i a n c _ _;cases hl:eZ W 1 n (.slice a n c)with
    |none=>rw[hl]at h;cases h
    |some u=>rw[hl]at h;rw[Im hs hl];exact h
   cases h
  ·rename_i q1 q2 q3 q4 q5 q6;exact h
  cases h
 case slice t x lo hi mx=>
  simp only[bU,rq]at h ⊢;split at h
  ·rename_i v hv;simp only[gN]at h ⊢;split at h
   ·exact h
   ·rename_i el ht;split at h
    ·rename_i a len cap;split at h
     ·simp only[Jp]at h ⊢;split at h
      ·rename_i s l hh q1 q2 q3;cases hq:jk W cap el a with
       |false=>rw[hq]at h;simp only[Bool.false_and,cond_false]at h;cases h
       |true=>rw[hq]at h;rw[Fj hs hq];exact h
      cases h
     exact h
    ·exact h
    cases h
   ·exact h
   cases h
  cases h
 case lookup t m k ok=>
  simp only[bU,xM]at h ⊢;split at h
  ·rename_i kt el mv kv q1 q2 q3;simp only[lP]at h ⊢;cases hl:jb W mv with
   |none=>rw[hl]at h;cases h
   |some u=>rw[hl]at h;rw[ug hs hl];exact h
  cases h
 case call c=>
  obtain⟨cl,args,ats⟩:=c;simp only[bU,sj]at h ⊢;cases cl<;>first|(exact absurd hc YE)|skip
  rename_i b;cases b<;>first|(exact absurd hc YE)|skip
  simp only[Be]at h ⊢;split at h
  ·rename_i vs hv;simp only[dQ]at h ⊢;split at h;all_goals first|(cases h;done)|skip
   ·rename_i x _;simp only[mP]at h ⊢;split at h
    ·exact h
    ·cases hl:jb W x with
     |none=>rw[hl]at h;cases h
     |some u=>rw[hl]at h;rw[ug hs hl];exact h
    ·exact h
    ·exact h
    cases h
   all_goals first|(rename_i hb;cases hb;done)|(rename_i hb _;cases hb;done)|(rename_i hb _ _;cases hb;done)|contradiction
  cases h
end
def X7:XT->XW
 |.code _ _ _ s=>s.W
 |.call _ _ W=>W
def rF:XO->XW
 |.code _ s=>s.W
 |.fin _ W=>W
def O1.W:O1->XW
 |.on s=>s.W
 |.out _ s=>s.W
structure Fe(H:cC):Prop where
 call:∀f h args W v W',H.call f=some h->h args W=some (v,W')->bu W W'
 defd:∀f h args p W p' W',H.defd f=some h->h args p W=some (p',W')->bu W W'
def fY(R:XK):Prop:=∀t o,R t=some o->bu (X7 t) (rF o)
section
variable {P:Program} {R:XK} {N:Nat} {rd:Option Nat} {all:Array Oper}
theorem qG{W:XW}{ds:List b9}{o:Option XF}{r:O1}(h:jL W ds o=some r):r.W=W:=by
 unfold jL at h;split at h<;>cases h;rfl
theorem Lo{fr:XF}{d:Option Tmp}{ds:List b9}{lp:Nat}{W:XW}{j:Option (LoopState×Option Code×Bool)}{o:Option ag}{r:O1}(h:om N fr d ds lp W j o=some r):bu W r.W:=by
 unfold om at h;split at h
 ·rw[qG h];exact .put _ _ _
 cases h
theorem MQ(hR:fY R){s:XS}{d:Option Tmp}{x:Option XR}{r:O1}(hm:∀v W',x=some (.mod v W')->bu s.W W')(h:la R N rd s d x=some r):bu s.W r.W:=by
 unfold la at h;split at h
 ·rw[qG h];exact .refl _
 ·rw[qG h];exact .push _ _
 ·rw[qG h];exact hm _ _ rfl
 ·cases h;exact .refl _
 ·unfold Ea at h;split at h
  ·rw[qG h];exact .refl _
  cases h
 ·rename_i f args;unfold ne at h;split at h
  ·rename_i v W hq;rw[qG h];exact hR _ _ hq
  ·rename_i v W hq;cases h;exact hR _ _ hq
  cases h
 ·rename_i lp args;unfold pz at h;split at h
  ·unfold oV at h;split at h
   ·unfold oX at h;split at h
    ·rename_i s1 hq;have e1:bu s.W s1.W:=hR _ _ hq;refine e1.trans ?_;unfold oR at h;split at h
     ·unfold oU at h;split at h
      ·rename_i e s2 hq2;have e2:=hR _ _ hq2;exact(bu.put _ _ _).trans (e2.trans (Lo h))
      cases h
     cases h
    cases h
   cases h
  cases h
 cases h
theorem po(hR:fY R){s:XS}{o:Oper}{r:O1}(h:nW P R N rd all s o=some r):bu s.W r.W:=by
 unfold nW oF at h;split at h
 ·exact MQ hR (fun v W' q=>x3 q) h
 ·rw[qG h];exact .refl _
 cases h
theorem uG(hR:fY R):∀(l:List Oper) (s:XS) (o:XO),fE P R N rd all l s=some o->bu s.W (rF o)
 |[],s,o,h=>by cases h;exact .refl _
 |x::l,s,o,h=>by
  unfold fE xA at h;split at h
  ·rename_i s1 hq;exact(po hR hq).trans (uG hR l s1 o h)
  ·rename_i v s1 hq;cases h;exact po hR hq
  cases h
theorem vV(hR:fY R):∀(l:List Oper) (s:XS) (rs:List bJ) (s':XS),aW P R N rd all l s=some (rs,s')->bu s.W s'.W
 |[],s,rs,s',h=>by cases h;exact .refl _
 |x::l,s,rs,s',h=>by
  unfold aW iH at h;split at h
  ·rename_i s1 hq;unfold dI at h;split at h
   ·rename_i l1 t hq2;cases h;exact(po hR hq).trans (vV hR l s1 l1 _ hq2)
   cases h
  cases h
theorem AH{W:XW}{k:XS->Option XO}{x:Option XO}{o:XO}(hx:∀q,x=some q->bu W (rF q))(hk:∀s q,k s=some q->bu s.W (rF q))(h:xX k x=some o):bu W (rF o):=by
 unfold xX at h;split at h
 ·rename_i s;exact(hx _ rfl).trans (hk _ _ h)
 exact hx _ h
theorem Dg{s:XS}{c:Option Code}{o:XO}(h:zN s c=some o):rF o=s.W:=by
 unfold zN at h;split at h<;>cases h<;>rfl
theorem Gt(hR:fY R){s:XS}{c:Code}{o:XO}(h:kR P R N rd s c=some o):bu s.W (rF o):=by
 unfold kR at h;split at h
 ·cases h;exact .refl _
 ·cases h;exact .refl _
 ·cases h;exact .refl _
 ·exact AH (fun q e=>hR (.code N rd _ s) q e) (fun s q e=>hR (.code N rd _ s) q e) h
 ·unfold E2 at h;split at h
  ·exact hR _ _ h
  cases h
 ·unfold nN at h;split at h
  ·rename_i i s1 hq;have e1:=hR _ _ hq;cases hb:Nat.beq i _<;>rw[hb]at h<;>cases h<;>exact e1
  exact hR _ _ h
 ·exact AH (fun q e=>hR (.code N rd _ s) q e) (fun s q e=>hR (.code N rd _ s) q e) h
 ·exact uG hR _ _ _ h
 ·unfold zF at h;split at h
  ·rename_i rs s1 hq;cases hb:jJ P _ s.ds.length rs<;>rw[hb]at h<;>cases h;exact vV hR _ _ _ _ hq
  cases h
 ·unfold Ro at h;split at h
  ·rename_i g a cap;unfold Kq at h;split at h
   ·rename_i d mk W hq;have e0:bu s.W W:=by
     unfold vD at hq;split at hq
     ·cases hq;exact .push _ _
     split at hq
     ·cases hq;exact .refl _
     cases hq
    refine e0.trans ?_;unfold JX at h;split at h
    ·rename_i v W1 hq2;have e1:=hR _ _ hq2;refine(bu.push _ _).trans (e1.trans ?_);unfold wO at h;split at h
     ·rename_i st pend tm N' ps' asg' body' d' hq3;cases hb:mD st<;>rw[hb]at h
      ·rw[Dg h];exact .put _ _ _
      cases h
     cases h
    cases h
   cases h
  cases h
 cases h
theorem jm{H:cC}(hH:Fe H):∀(ds:List b9) (p:Option Value) (W:XW) (p':Option Value) (W':XW),dE H ds p W=some (p',W')->bu W W'
 |[],p,W,p',W',h=>by cases h;exact .refl _
 |.mark r::ds,p,W,p',W',h=>by
  unfold dE at h;split at h
  ·exact(bu.put _ _ _).trans (jm hH ds _ _ _ _ h)
  cases h
 |.call f args cap::ds,p,W,p',W',h=>by
  unfold dE at h;split at h
  ·rename_i k hk;split at h
   ·rename_i p1 W1 hq;exact(hH.defd _ _ _ _ _ _ _ hk hq).trans (jm hH ds _ _ _ _ h)
   cases h
  cases h
theorem GC{H:cC}(hH:Fe H)(hR:fY R){f:FuncId}{args:List Value}{W:XW}{o:XO}(h:qe P H R f args W (H.call f)=some o):bu W (rF o):=by
 unfold qe at h;split at h
 ·rename_i k hk;unfold vU at h;split at h
  ·rename_i v W1 hq;cases h;exact hH.call _ _ _ _ _ _ hk hq
  cases h
 unfold Lw at h;split at h
 ·rename_i fn hf;refine(fun(q:Jz P H R fn args W fn.body=some o)=>?_) (by cases hn:gq fn<;>rw[hn]at h<;>first|cases h|exact h);unfold Jz at q;split at q
  ·rename_i c hc;cases hb:Nat.ble args.length fn.ntmps<;>rw[hb]at q
   ·cases q
   simp only[cond_true]at q;unfold zD at q;split at q
   ·rename_i e s hq;have e1:bu W s.W:=hR _ _ hq;refine e1.trans ?_;unfold Lr at q;split at q
    ·rename_i p hp;unfold nU at q;split at q
     ·rename_i v W1 hs;cases q;exact jm hH _ _ _ _ _ hs
     ·rename_i W1 hs;unfold uQ at q;split at q
      ·cases q;exact jm hH _ _ _ _ _ hs
      cases q
     cases q
    cases q
   cases q
  cases q
 cases h
theorem nD{H:cC}(hH:Fe H):∀n,fY (cd P H n)
 |0=>fun t o h=>by cases h
 |n+1=>fun t o h=>by
  cases t with
  |code N rd c s=>exact Gt (nD hH n) h
  |call f args W=>exact GC hH (nD hH n) h
end
inductive gl(ρ:Ren):List b9->List Deferred->Prop
 |nil:gl ρ [] []
 |call (f:FuncId) (args cap args' cap':List Value) (ds:List b9) (ds':List Deferred) (h1:aJ ρ args args') (h2:aJ ρ cap cap') (h:gl ρ ds ds') :
  gl ρ (.call f args cap::ds) (⟨.fn (.func f) cap'.toArray,args'.toArray⟩::ds')
 |mark (r:Nat) (i:RI) (ds:List b9) (ds':List Deferred) (hr:ρ r=some i) (h:gl ρ ds ds'):gl ρ (.mark r::ds) (⟨.collected i.b,#[]⟩::ds')
theorem gl.mono{ρ ρ':Ren}(hr:ρ.le ρ'):∀{ds:List b9} {ds':List Deferred},gl ρ ds ds'->gl ρ' ds ds'
 |_,_,.nil=>.nil
 |_,_,.call f a c a' c' ds ds' h1 h2 h=>.call f a c a' c' ds ds' (h1.mono hr) (h2.mono hr) (h.mono hr)
 |_,_,.mark r i ds ds' hq h=>.mark r i ds ds' (hr _ _ hq) (h.mono hr)
def ub(ρ:Ren):gg->Exit->Prop
 |.norm,.normal=>True
 |.exit i,.exit j=>i=j
 |.ret,.ret=>True
 |.pan v,.panic ch=>∃v',VR ρ v v'/\ch=[{ v:=v',recovered:=false }]
 |_,_=>False
def Ky(ρ:Ren):aZ->Ending->Prop
 |.ret v,.returned v'=>VR ρ v v'
 |.pan v,.panicked ch=>∃v',VR ρ v v'/\ch=[{ v:=v',recovered:=false }]
 |_,_=>False
def iY(ρ:Ren):Option Nat->Option Nat->Prop
 |none,none=>True
 |some l,some b=>∃i,ρ l=some i/\i.b=b
 |_,_=>False
theorem iY.mono{ρ ρ':Ren}(hr:ρ.le ρ'){a b:Option Nat}(h:iY ρ a b):iY ρ' a b:=by
 cases a<;>cases b<;>first|exact h|(obtain⟨i,h1,h2⟩:=h;exact⟨i,hr _ _ h1,h2⟩)
def FW(rb:Option Nat):Fence:={ Fence.wide with round:=rb }
def lC(P:Program)(ρ:Ren)(W:XW)(w:World)(N:Nat)(s':XS)(ρ':Ren)(a':Act)(w':World):Prop:=
 bW ρ W.get W.next w ρ' s'.W.get s'.W.next w'/\HR P ρ' s'.W.get w'/\FR ρ' N s'.fr a'.tmps/\gl ρ' s'.ds a'.defers
def QX(P:Program)(ρ:Ren)(W:XW)(w:World)(N:Nat)(e:gg)(s':XS)(ex:Exit)(a':Act)(w':World):Prop:=∃ρ',lC P ρ W w N s' ρ' a' w'/\ub ρ' e ex
def QF(P:Program)(ρ:Ren)(W:XW)(w:World)(e:aZ)(W':XW)(en:Ending)(w':World):Prop:=
 ∃ρ',bW ρ W.get W.next w ρ' W'.get W'.next w'/\HR P ρ' W'.get w'/\Ky ρ' e en
def cT(P:Program)(f:FuncId):Prop:=∃fn,P.funcs[f]?=some fn/\gq fn=true/\fn.body.isSome=true
def ja(P:Program)(R:XK):Prop:=∀N rd c s e s',R (.code N rd c s)=some (.code e s')->∀ρ rb a w m,iY ρ rd rb->cw ρ s.W.next s'.W.next->HR P ρ s.W.get w ->
 FR ρ N s.fr a.tmps->gl ρ s.ds a.defers->c.wpIn (FW rb) m P (QX P ρ s.W w N e s') a w
def nY(P:Program)(R:XK):Prop:=∀f args W e W',R (.call f args W)=some (.fin e W')->cT P f/\∀ρ args' w m,cw ρ W.next W'.next->HR P ρ W.get w->aJ ρ args args' ->
 CallsIn Fence.wide m P f args'.toArray w (QF P ρ W w e W')
section
variable {P:Program} {ρ:Ren} {N:Nat}
theorem kA{f:FuncId}{args:Array Value}{w:World}(h:cT P f):(callFunc f args).run P w=.ok (.enter f args) w:=by
 obtain⟨fn,h1,h2,h3⟩:=h;unfold callFunc;rw[Yj,uV,Yi,h1];simp only;unfold gq at h2;have h2:(fn.name== "runtime.NumGoroutine")=false:=by simpa using h2
 have h3:fn.body.isNone=false:=by cases e:fn.body<;>rw[e]at h3<;>first|rfl|cases h3
 rw[if_neg (by rw[h2];exact YE),if_neg (by rw[h3];exact YE)];rfl
theorem qY{rb:Option Nat}{m:Nat}{f:FuncId}{args:Array Value}{w:World}{R:Ending->World->Prop}(h:CallsIn Fence.wide m P f args w R):CallsIn (FW rb) m P f args w R:=h
theorem FR.putT{fr fr':XF}{a:Act}{d:Option Tmp}{v:Option Value}{u:Value}(h:FR ρ N fr a.tmps)(hv:∀x,v=some x->VR ρ x u)(hp:cO N fr d v=some fr'):FR ρ N fr' (a.put d u).tmps:=by
 unfold cO at hp;split at hp
 ·cases hp;exact h
 rename_i t;cases ht:Nat.blt t N with
 |false=>rw[ht]at hp;cases hp
 |true=>
  rw[ht]at hp;cases hp;have hlt:t<N:=nB.1 ht;refine⟨by simpa[Act.put]using h.size,fun n x hx=>?_⟩;simp only[Act.put];rcases PT.set_some hx with⟨rfl,hq⟩|⟨hne,hq⟩
  ·have:n<a.tmps.size:=by rw[h.size];exact hlt
   simpa[Array.getD,this]using hv x hq
  have:=h.rep n x hq;have e:(a.tmps.setIfInBounds t u).getD n undef=a.tmps.getD n undef:=by simp only[YK,Y0 (Ne.symm hne)]
  rw[e];exact this
theorem co(a:Act)(d:Option Tmp)(u:Value):(a.put d u).defers=a.defers:=by cases d<;>rfl
theorem kb{W:XW}{ds:List b9}{o:Option XF}{r:O1}(h:jL W ds o=some r):∃fr',o=some fr'/\r=.on ⟨fr',W,ds⟩:=by
 unfold jL at h;split at h<;>cases h;exact⟨_,rfl,rfl⟩
theorem pP{rb:Option Nat}{m:Nat}{o:Oper}{a:Act}{w w':World}{u:Value}{K:Act->World->Prop}{Q:Exit->Act->World->Prop}{S:Sem Next}(h:oz P S w u w')(hk:K (a.put o.dst u) w') :
 o.uponIn (FW rb) m P a K Q (S.run P w):=by
 rcases h with h|⟨h,rfl⟩<;>(rw[h];exact hk)
theorem JO{o:Oper}{rd rb:Option Nat}{e:Operand->Value}(hrd:iY ρ rd rb)(h:rd=none\/∀c,o.op≠.defer c):o.semAt rb e=execOp e o:=by
 cases rb with
 |none=>rfl
 |some b=>
  rcases h with rfl|h
  ·exact hrd.elim
  exact Oper.semAt_eq _ _ _ h
theorem yz{fr:XF}{W:XW}{ty:TypeId}{c:Call}{r:XR}(h:bU P fr W ty (.defer c)=some r):∃f args cap,r=.defer f args cap:=by
 simp only[bU,uJ]at h;split at h
 ·unfold Ck at h;split at h
  ·cases h;exact⟨_,_,_,rfl⟩
  cases h
 cases h
theorem jV{w:World}{b:Nat}{r:Loop}(h:w.heap[b]?=some (.loop r)):(Instr.getLoop b).run P w=.ok r w:=by
 unfold Instr.getLoop;rw[Yj];simp only[getObj,Sem.run,h,Yi];rfl
theorem oY{w:World}{b:Nat}{r:Loop}{o:Obj}(h:w.heap[b]?=some (.loop r)):(setObj b o).run P w=.ok () (fX w b o):=by
 simp only[setObj,Sem.run,h,fX]
theorem ye{w:World}{b:Nat}{r:Loop}(h:w.heap[b]?=some (.loop r))(hs:r.state=.ready):(Instr.beginRound b).run P w=.ok () (fX w b (.loop { r with state:=.busy })):=by
 unfold Instr.beginRound;rw[Yj,jV h,Yi,Yj,oY h,Yi,hs];rfl
theorem z8{w:World}{b:Nat}{r:Loop}(j:Option Code)(h:w.heap[b]?=some (.loop r)):(Instr.endRound b j).run P w=.ok (.bool j.isNone) (fX w b (.loop { r with state:=if j.isNone then .ready else .done,pending:=j })):=by
 unfold Instr.endRound;rw[Yj,jV h,Yi,Yj,oY h,Yi];rfl
theorem tO{w:World}{b:Nat}{r:Loop}(h:w.heap[b]?=some (.loop r))(hs:(r.state==.busy)=false):(Instr.endLoop b).run P w=.ok r.pending (fX w b (.loop { r with state:=.exhausted })):=by
 unfold Instr.endLoop;rw[Yj,jV h,Yi,hs];rw[if_neg YE];show Sem.run P (do setObj b _;pure r.pending) w=_;rw[Yj,oY h,Yi];rfl
theorem uj:∀{ps:List Tmp} {vs us:List Value} {fr fr':XF} {tm:Array Value},FR ρ N fr tm->aJ ρ vs us->ko N fr ps vs=some fr' ->
 FR ρ N fr' ((ps.zip us).foldl (fun tmps (t,a)=>tmps.setIfInBounds t a) tm)/\us.length=ps.length
 |[],_,_,fr,fr',tm,hF,.nil,h=>by cases h;exact⟨hF,rfl⟩
 |[],_,_,fr,fr',tm,hF,.cons v u vs us hv hs,h=>by cases h
 |t::ps,_,_,fr,fr',tm,hF,.nil,h=>by cases h
 |t::ps,_,_,fr,fr',tm,hF,.cons v u vs us hv hs,h=>by
  unfold ko at h;split at h
  ·rename_i fr1 h1;have:=FR.putT (a:={ tmps:=tm,defers:=[] }) (u:=u) hF (fun x e=>by cases e;exact hv) h1;obtain⟨q1,q2⟩:=uj this hs h;exact⟨q1,by simp[q2]⟩
  cases h
end
section
variable {P:Program} {ρ:Ren} {N:Nat} {R:XK}
theorem BX{W:XW}{w:World}{lp:Nat}{i:RI}{st0:LoopState}{pd0:Option Code}{tm:XF}{N':Nat}{ps:List Tmp}{asg body:Code}{df:Nat}(hH:HR P ρ W.get w)(hi:ρ lp=some i)
 (hg:W.get lp=some (.loop st0 pd0 tm N' ps asg body df)) (j:Option Code) :
 ∃w3,(Instr.endRound i.b j).run P w=.ok (.bool j.isNone) w3/\HR P ρ (W.put lp (some (.loop (if j.isNone then .ready else .done) j tm N' ps asg body df))).get w3 /\
  bW ρ W.get W.next w ρ (W.put lp (some (.loop (if j.isNone then .ready else .done) j tm N' ps asg body df))).get W.next w3:=by
 obtain⟨ob,hb,hor⟩:=hH.obj lp i _ hi hg;cases hor with
 |loop _ _ _ _ _ _ _ _ q fn tmps hd hFt=>
  obtain⟨p1,p2⟩:=hH.put hi (by rw[hg];simp) (.loop (if j.isNone then .ready else .done) j tm N' ps asg body df) (gh w i.b _) (jA hb) (.loop _ j tm N' ps asg body df q fn tmps hd hFt);exact⟨_,z8 j hb,p1,p2⟩
theorem Rp(hR:fY R)(hC:ja P R){fr:XF}{ds:List b9}{lp:Nat}{args args':List Value}{W:XW}{w:World}{i:RI}{r:O1}{a:Act}{rb:Option Nat}{m:Nat}{K:Act->World->Prop}{Q:Exit->Act->World->Prop}{o:Oper}
 (h:pz R N fr o.dst ds lp args W (W.get lp)=some r) (hi:ρ lp=some i) (hH:HR P ρ W.get w) (hargs:aJ ρ args args') (hF:FR ρ N fr a.tmps) (hD:gl ρ ds a.defers) (hfr:cw ρ W.next r.W.next)
 (hK:∀s',r=.on s'->∀ρ' a' w',(∃u,a'.tmps=(a.put o.dst u).tmps)->lC P ρ W w N s' ρ' a' w'->K a' w'):o.uponIn (FW rb) m P a K Q ((Instr.yield i.b args'.toArray).run P w):=by
 unfold pz at h;split at h
 ·rename_i pend tm N' ps asg body df hg;obtain⟨ob,hb,hor⟩:=hH.obj lp i _ hi hg;cases hor with
  |loop _ _ _ _ _ _ _ _ q fn tmps hd hFt=>
   unfold oV at h;split at h
   ·rename_i fr1 h1;obtain⟨hF1,hlen⟩:=uj hFt hargs h1;have hy:(Instr.yield i.b args'.toArray).run P w=.ok (.round i.b fn ((ps.zip args').foldl (fun tmps (t,a)=>tmps.setIfInBounds t a) tmps) asg body) w:=by
     unfold Instr.yield;rw[Yj,jV hb,Yi];simp only[List.size_toArray];rw[if_neg (by rw[hlen];exact fun e=>e rfl)];show Result.ok (Next.round _ _ _ _ _) w=_;congr 2;simp
    rw[hy,Oper.uponIn_round];refine⟨fun h=>(by cases h),roundIn_of_wpIn (F:=FW rb) trivial ?_⟩;unfold oX at h;split at h
    ·rename_i s1 hq1;unfold oR at h;split at h
     ·rename_i pend2 tm2 N2 ps2 asg2 body2 df2 hg2;unfold oU at h;split at h
      ·rename_i e s2 hq2;unfold om at h;split at h
       ·rename_i st pd rr st3 pd3 tm3 N3 ps3 asg3 body3 df3 hj hg3;obtain⟨fr',hp,rfl⟩:=kb h;have n1:W.next<=s1.W.next:=(hR _ _ hq1).next;have n2:s1.W.next<=s2.W.next:=(hR _ _ hq2).next;have hfr:cw ρ W.next s2.W.next:=hfr;refine wpIn_mono (hC _ _ _ _ _ _ hq1 ρ (some i.b) { tmps:=_,defers:=[] } w _ ⟨i,hi,rfl⟩ (hfr.left n2) hH hF1 .nil) ?_;intro ex a1 w1 hq;obtain⟨ρ1,⟨hs1,hH1,hF1',hD1⟩,hex⟩:=hq;cases ex<;>first|exact hex.elim|skip
        have hi1:=hs1.le _ _ hi;obtain⟨ob1,hb1,hor1⟩:=hH1.obj lp i _ hi1 hg2;cases hor1 with
        |loop _ _ _ _ _ _ _ _ q1 fn1 tmps1 hd1 hFt1=>
         refine⟨_,ye hb1 rfl,?_⟩;obtain⟨p1,p2⟩:=hH1.put hi1 (by rw[hg2];simp) (.loop .busy pend2 tm2 N2 ps2 asg2 body2 df2) (gh w1 i.b _) (jA hb1) (.loop _ _ tm2 N2 ps2 asg2 body2 df2 q1 fn1 tmps1 hd1 hFt1);refine wpIn_mono (hC _ _ _ _ _ _ hq2 ρ1 (some i.b) a1 _ _ ⟨i,hi1,rfl⟩ (hfr.right hs1) p1 hF1' hD1) ?_;intro ex2 a2 w2 hq';obtain⟨ρ2,⟨hs2,hH2,hF2,hD2⟩,hex2⟩:=hq';have hi2:=hs2.le _ _ hi1;have hst:=(hs1.trans p2).trans hs2;have fin:∀(j:Option Code),st=(if j.isNone then .ready else .done)->pd=j->rr=j.isNone ->
          ∃v w',(Instr.endRound i.b j).run P w2=.ok v w'/\K (a.put o.dst v) w':=fun j e1 e2 e3=>by
          subst e1 e2 e3;obtain⟨w3,q1,q2,q3⟩:=BX hH2 hi2 hg3 pd;exact⟨_,w3,q1,hK _ rfl ρ2 _ w3 ⟨_,rfl⟩ ⟨hst.trans q3,q2,FR.putT (hF.mono hst.le) (fun x e=>by cases e;exact .flat 1 _ rfl) hp,by rw[co];exact hD.mono hst.le⟩⟩
         cases e<;>cases ex2<;>first|exact hex2.elim|skip
         ·cases hj;exact fin none rfl rfl rfl
         ·have hex2:=hex2;simp only[ub]at hex2;subst hex2;cases hj;exact fin (some (.exit _)) rfl rfl rfl
         ·cases hj;exact fin (some .ret) rfl rfl rfl
         cases hj
       cases h
      cases h
     cases h
    cases h
   cases h
 cases h
theorem kq{all:Array Oper}{fr:XF}{tm:Array Value}{o:Oper}{b:Bool}(hF:FR ρ N fr tm)(h:ia all fr o=some b):Region.wanted o (yielded all tm)=b:=by
 unfold ia at h;unfold Region.wanted;cases hg:o.guard with
 |none=>rw[hg]at h;cases h;rfl
 |some jw=>
  obtain⟨j,w⟩:=jw;rw[hg]at h;simp only at h ⊢;unfold yielded;cases ht:(all[j]?).bind (·.dst)with
  |none=>rw[ht]at h;cases h
  |some t=>
   rw[ht]at h;simp only at h;cases hv:fr.get t with
   |none=>rw[hv]at h;cases h
   |some v=>
    rw[hv]at h;have hr:=hF.rep t v hv;simp only[Option.bind_some];cases v with
    |bool c=>
     have e:tm.getD t undef=.bool c:=hr.of_flat 1 rfl;have e2:tm[t]?=some (.bool c):=by
      rw[YK]at e;cases q:tm[t]? with
      |none=>rw[q]at e;cases e
      |some u=>rw[q]at e;simp at e;rw[e]
     rw[e2];simp only[sX,Option.some.injEq]at h;subst h;cases c<;>cases w<;>rfl
    |_=>
     simp only[sX,Option.some.injEq]at h;subst h;have hn:∀c,tm[t]?≠some (.bool c):=fun c q=>by
      have e:tm.getD t undef=.bool c:=by rw[YK,q];rfl
      rw[e]at hr;cases hr
     cases q:tm[t]? with
     |none=>rfl
     |some u=>cases u<;>first|rfl|exact absurd q (hn _)
theorem Db(hR:fY R)(hC:ja P R)(hF:nY P R){rd rb:Option Nat}{s:XS}{o:Oper}{x:XR}{r:O1}{a:Act}{w:World}{m:Nat}{K:Act->World->Prop}{Q:Exit->Act->World->Prop}
 (hrd:iY ρ rd rb) (hd:rd=none\/∀c,o.op≠.defer c) (hX:cN P ρ s.W w (execOp a.eval o) x) (h:la R N rd s o.dst (some x)=some r) (hfr:cw ρ s.W.next r.W.next)
 (hH:HR P ρ s.W.get w) (hFR:FR ρ N s.fr a.tmps) (hD:gl ρ s.ds a.defers)
 (hK:∀s',r=.on s'->∀ρ' a' w',(∃u,a'.tmps=(a.put o.dst u).tmps)->lC P ρ s.W w N s' ρ' a' w'->K a' w')
 (hQ:∀v s',r=.out v s'->∀ρ' ex a' w',lC P ρ s.W w N s' ρ' a' w'->ub ρ' (.pan v) ex->Q ex a' w'):o.wpIn (FW rb) m P a w K Q:=by
 refine⟨fun _ _=>trivial,?_⟩;have hsem:o.semAt (FW rb).round a.eval=execOp a.eval o:=JO hrd hd;rw[hsem];cases x with
 |val v=>
  obtain⟨u,hg,hv⟩:=hX;obtain⟨fr',hp,rfl⟩:=kb h;exact pP hg (hK _ rfl ρ _ _ ⟨_,rfl⟩ ⟨.refl _ _ _ _,hH,FR.putT hFR hv hp,by rw[co];exact hD⟩)
 |new ob k=>
  obtain⟨fr',hp,rfl⟩:=kb h;obtain⟨u,ρ',w',hg,hs,hh,hv⟩:=hX (hfr _ (Nat.le_refl _) (YJ _));exact pP hg (hK _ rfl ρ' _ _ ⟨_,rfl⟩ ⟨hs,hh,FR.putT (hFR.mono hs.le) (fun x e=>by cases e;exact hv) hp,by rw[co];exact hD.mono hs.le⟩)
 |mod v W'=>
  obtain⟨fr',hp,rfl⟩:=kb h;obtain⟨u,ρ',w',hg,hs,hh,hv⟩:=hX hfr;exact pP hg (hK _ rfl ρ' _ _ ⟨_,rfl⟩ ⟨hs,hh,FR.putT (hFR.mono hs.le) (fun x e=>by cases e;exact hv) hp,by rw[co];exact hD.mono hs.le⟩)
 |pan v=>
  cases h;obtain⟨v',hr,hv⟩:=hX;rw[hr];exact hQ _ _ rfl ρ _ a w ⟨.refl _ _ _ _,hH,hFR,hD⟩ ⟨v',hv,rfl⟩
 |«defer» f args cap=>
  obtain⟨as',cs',hr,h1,h2⟩:=hX;cases rd with
  |some l=>cases h
  |none=>
   obtain⟨fr',hp,rfl⟩:=kb h;rw[hr];refine hK _ rfl ρ _ w ⟨undef,by cases o.dst<;>rfl⟩ ⟨.refl _ _ _ _,hH,?_,?_⟩
   ·exact FR.putT (a:={ a with defers:=_::a.defers }) hFR (fun x e=>by cases e;exact ov) hp
   rw[co];exact .call _ _ _ _ _ _ _ h1 h2 hD
 |enter f args=>
  obtain⟨args',hr,ha⟩:=hX;rw[hr];have h:ne N s.fr o.dst s.ds (R (.call f args s.W))=some r:=h;unfold ne at h;split at h
  ·rename_i v W1 hq;obtain⟨fr',hp,rfl⟩:=kb h;obtain⟨he,hc⟩:=hF _ _ _ _ _ hq;rw[kA he,Oper.uponIn_enter];refine⟨fun h=>(by cases h),CallsIn.mono (hc ρ args' w (m-1) hfr hH ha) fun en w' hq=>?_⟩;obtain⟨ρ',hs,hh,hen⟩:=hq;cases en<;>first|exact hen.elim|skip
   exact hK _ rfl ρ' _ _ ⟨_,rfl⟩ ⟨hs,hh,FR.putT (hFR.mono hs.le) (fun x e=>by cases e;exact hen) hp,by rw[co];exact hD.mono hs.le⟩
  ·rename_i v W1 hq;cases h;obtain⟨he,hc⟩:=hF _ _ _ _ _ hq;rw[kA he,Oper.uponIn_enter];refine⟨fun h=>(by cases h),CallsIn.mono (hc ρ args' w (m-1) hfr hH ha) fun en w' hq=>?_⟩;obtain⟨ρ',hs,hh,hen⟩:=hq;cases en<;>first|exact hen.elim|skip
   exact hQ _ _ rfl ρ' _ a w' ⟨hs,hh,hFR.mono hs.le,hD.mono hs.le⟩ hen
  cases h
 |round l args=>
  obtain⟨i,args',hi,hr,ha⟩:=hX;rw[hr];exact Rp hR hC h hi hH ha hFR hD hfr hK
theorem xJ(hR:fY R)(hC:ja P R)(hF:nY P R){all:Array Oper}{rd rb:Option Nat}{s:XS}{o:Oper}{r:O1}{a:Act}{w:World}{m:Nat}{K:Act->World->Prop}{Q:Exit->Act->World->Prop}
 (hrd:iY ρ rd rb) (h:nW P R N rd all s o=some r) (hfr:cw ρ s.W.next r.W.next) (hH:HR P ρ s.W.get w) (hFR:FR ρ N s.fr a.tmps) (hD:gl ρ s.ds a.defers)
 (hK:∀s',r=.on s'->∀ρ' a' w',(∃u,a'.tmps=(a.put o.dst u).tmps)->lC P ρ s.W w N s' ρ' a' w'->K a' w')
 (hQ:∀v s',r=.out v s'->∀ρ' ex a' w',lC P ρ s.W w N s' ρ' a' w'->ub ρ' (.pan v) ex->Q ex a' w') :
 if Region.wanted o (yielded all a.tmps)=true then o.wpIn (FW rb) m P a w K Q else(∀f,o.about P w a.eval=some f->(FW rb).fn f)/\K (a.put o.dst undef) w:=by
 unfold nW oF at h;split at h
 ·rename_i hw;rw[if_pos (kq hFR hw)];cases hx:bU P s.fr s.W o.type o.op with
  |none=>rw[hx]at h;cases h
  |some x=>
   rw[hx]at h;refine Db hR hC hF hrd ?_ (tp hH hFR.ev hx) h hfr hH hFR hD hK hQ;cases rd with
   |none=>exact .inl rfl
   |some l=>
    refine .inr fun c hc=>?_
    rw[hc]at hx;obtain⟨f,as,cap,rfl⟩:=yz hx;cases h
 ·rename_i hw;rw[if_neg (by rw[kq hFR hw];exact YE)];obtain⟨fr',hp,rfl⟩:=kb h;exact⟨fun _ _=>trivial,hK _ rfl ρ _ _ ⟨_,rfl⟩ ⟨.refl _ _ _ _,hH,FR.putT hFR (fun x e=>by cases e;exact ov) hp,by rw[co];exact hD⟩⟩
 cases h
theorem lC.trans'{W W1:XW}{w w1:World}{s':XS}{ρ1 ρ2:Ren}{a':Act}{w':World}(k:lC P ρ1 W1 w1 N s' ρ2 a' w')(h:bW ρ W.get W.next w ρ1 W1.get W1.next w1):lC P ρ W w N s' ρ2 a' w':=
 ⟨h.trans k.1,k.2⟩
theorem Cf(hR:fY R)(hC:ja P R)(hF:nY P R){all:Array Oper}{rd rb:Option Nat}{m:Nat}{Q:Exit->Act->World->Prop}:∀(l:List Oper) (s:XS) (e:gg) (s':XS),fE P R N rd all l s=some (.code e s') ->
 ∀(ρ:Ren) (a:Act) (w:World),iY ρ rd rb->cw ρ s.W.next s'.W.next->HR P ρ s.W.get w->FR ρ N s.fr a.tmps->gl ρ s.ds a.defers->(∀ex a' w',QX P ρ s.W w N e s' ex a' w'->Q ex a' w')->wpListIn (FW rb) m P all Q l a w
 |[],s,e,s',h,ρ,a,w,hrd,hfr,hH,hFR,hD,hQ=>by
  cases h;exact hQ .normal a w ⟨ρ,⟨.refl _ _ _ _,hH,hFR,hD⟩,trivial⟩
 |o::l,s,e,s',h,ρ,a,w,hrd,hfr,hH,hFR,hD,hQ=>by
  unfold fE xA at h;refine wpListIn_step fun K hK=>?_
  split at h
  ·rename_i s1 hq;have n1:s.W.next<=s1.W.next:=(po hR hq).next;have n2:s1.W.next<=s'.W.next:=(uG hR _ _ _ h).next;refine xJ hR hC hF hrd hq (hfr.left n2) hH hFR hD (fun s2 e2 ρ' a' w' _ ho=>?_) (fun v s2 e2=>by cases e2);cases e2;obtain⟨h1,h2,h3,h4⟩:=ho;refine hK _ _ (Cf hR hC hF l s1 e s' h ρ' a' w' (hrd.mono h1.le) (hfr.right h1) h2 h3 h4 fun ex a2 w2 hx=>?_);obtain⟨ρ2,k1,k2⟩:=hx;exact hQ _ _ _ ⟨ρ2,k1.trans' h1,k2⟩
  ·rename_i v s1 hq;cases h;exact xJ hR hC hF hrd hq hfr hH hFR hD (fun s2 e2=>by cases e2) (fun v s2 e2 ρ' ex a' w' ho hx=>by cases e2;exact hQ _ _ _ ⟨ρ',ho,hx⟩)
  cases h
end
def oI(F:Fence)(n:Nat)(P:Program)(c:Code)(Q:Exit->Act->World->Prop)(a:Act)(w:World):Prop:=
 ∀(b:Frame) (k:List Item) (cs:List Frame),b.roundOf=F.round->F.fn b.fn->F.room (cs.length+1+n) ->
  ∃e a' w',Q e a' w'/\ArrivesIn (Machine.fenced P F) P (lone (b.atR a (.code c::.inLoop c::k)) cs w) b k cs e a' w'
section
variable {F:Fence} {n:Nat} {P:Program} {c:Code} {Q:Exit->Act->World->Prop} {a:Act} {w:World}
theorem wm(h:c.wpIn F n P (Exit.then (oI F n P c Q) Q) a w):oI F n P c Q a w:=by
 intro b k cs hro hb hr;obtain⟨e,a₁,w₁,hq,harr⟩:=h b (.inLoop c::k) cs hro hb hr;cases e with
 |normal=>
  obtain⟨e₂,a₂,w₂,hq₂,harr₂⟩:=hq b k cs hro hb hr;exact⟨e₂,a₂,w₂,hq₂,.of_steps (StepsIn.trans harr (.one (fenced_calm hb hr rfl) stepR_inLoop)) harr₂⟩
 |exit id=>exact⟨_,a₁,w₁,hq,.pass (x:=.inLoop c) rfl (fun _ _=>.inl (by simp)) harr⟩
 |goto l=>exact⟨_,a₁,w₁,hq,.pass (x:=.inLoop c) rfl (fun _ _=>.inl (by simp)) harr⟩
 |ret=>exact⟨_,a₁,w₁,hq,.pass (x:=.inLoop c) rfl (fun _ _=>.inl (by simp)) harr⟩
 |panic ch=>exact⟨_,a₁,w₁,hq,.pass (x:=.inLoop c) rfl (fun _ _=>.inl (by simp)) harr⟩
 |outgrown=>exact⟨_,a₁,w₁,hq,.pass (x:=.inLoop c) rfl (fun _ _=>.inl (by simp)) harr⟩
theorem AT(h:oI F n P c Q a w):(Code.loop c).wpIn F n P Q a w:=by
 intro b k cs hro hb hr;obtain⟨e,a',w',hq,harr⟩:=h b k cs hro hb hr;exact⟨e,a',w',hq,.of_steps (.one (fenced_calm hb hr rfl) stepR_loop) harr⟩
theorem ES{Q':Exit->Act->World->Prop}(h:oI F n P c Q a w)(hq:∀e a w,Q e a w->Q' e a w):oI F n P c Q' a w:=fun b k cs hro hb hr=>
 let⟨e,a',w',q,r⟩:=h b k cs hro hb hr
 ⟨e,a',w',hq _ _ _ q,r⟩
end
def RF(P:Program)(R:XK):Prop:=∀N rd b s e s',R (.code N rd (.loop b) s)=some (.code e s')->∀ρ rb a w m,iY ρ rd rb->cw ρ s.W.next s'.W.next->HR P ρ s.W.get w ->
 FR ρ N s.fr a.tmps->gl ρ s.ds a.defers->oI (FW rb) m P b (QX P ρ s.W w N e s') a w
def JK(P:Program)(R:XK):Prop:=∀N rd id ops s rs s',aW P R N rd ops ops.toList s=some (rs,s')->jJ P ops s.ds.length rs=true->∀ρ rb a w m,iY ρ rd rb->cw ρ s.W.next s'.W.next->HR P ρ s.W.get w ->
 FR ρ N s.fr a.tmps->gl ρ s.ds a.defers->(Code.region id ops true).wpIn (FW rb) m P (QX P ρ s.W w N .norm s') a w
section
variable {P:Program} {ρ:Ren} {N:Nat} {R:XK}
theorem QX.trans'{W W1:XW}{w w1:World}{e:gg}{s':XS}{ρ1:Ren}{ex:Exit}{a':Act}{w':World}(k:QX P ρ1 W1 w1 N e s' ex a' w')(h:bW ρ W.get W.next w ρ1 W1.get W1.next w1):QX P ρ W w N e s' ex a' w':=by
 obtain⟨ρ2,k1,k2⟩:=k;exact⟨ρ2,k1.trans' h,k2⟩
theorem yI{s:XS}{rd rb:Option Nat}{a:Act}{w:World}{fn:FuncId}{ps:List Tmp}{asg body:Code}{d:Nat}{mk:List b9}{W1:XW}(hrd:iY ρ rd rb)(he:vD s.W rd=some (d,mk,W1))
 (hfr:cw ρ s.W.next (W1.next+1)) (hH:HR P ρ s.W.get w) (hFR:FR ρ N s.fr a.tmps) :
 ∃l mark w2 ρ2 i2,(Instr.enterLoop fn a.tmps ps.toArray asg body rb).run P w=.ok (l,mark) w2/\HR P ρ2 (W1.push (.loop .ready none s.fr N ps asg body d)).get w2 /\
  bW ρ s.W.get s.W.next w ρ2 (W1.push (.loop .ready none s.fr N ps asg body d)).get (W1.next+1) w2/\ρ2 W1.next=some i2/\i2.b=l/\gl ρ2 mk mark:=by
 cases rd with
 |none=>
  cases rb with
  |some b=>exact hrd.elim
  |none=>
   cases he;have h0:ρ s.W.next=none:=hfr _ (Nat.le_refl _) (by show s.W.next<s.W.next+1+1;omega);obtain⟨p1,p2⟩:=hH.push h0 (.defd false) (.deferred (some [])) ⟨w.heap.size,0,0,0,0⟩ rfl .defd0;have hfr1:cw _ (s.W.push (.defd false)).next (s.W.next+2):=hfr.right p2;have h1:=hfr1 _ (Nat.le_refl _) (by show s.W.next+1<s.W.next+2;omega);obtain⟨q1,q2⟩:=p1.push h1 (.loop .ready none s.fr N ps asg body s.W.next) (.loop { state:=.ready,pending:=none,fn,tmps:=a.tmps,params:=ps.toArray,assign:=asg,body,defers:=w.heap.size })
    ⟨(w.alloc (.deferred (some []))).heap.size,0,0,0,0⟩ rfl (.loop _ _ _ _ _ _ _ _ ⟨w.heap.size,0,0,0,0⟩ fn a.tmps (fw _ h1 _ _ (cj _ _ _)) ((hFR.mono p2.le).mono (fw _ h1)))
   refine⟨_,_,_,_,_,rfl,q1,p2.trans q2,cj _ _ _,rfl,?_⟩;exact .mark _ ⟨w.heap.size,0,0,0,0⟩ _ _ (fw _ h1 _ _ (cj _ _ _)) .nil
 |some l=>
  cases rb with
  |none=>exact hrd.elim
  |some b=>
   obtain⟨i,hi,hib⟩:=hrd;subst hib;simp only[vD]at he;split at he
   ·rename_i hg;cases he;obtain⟨ob,hb,hor⟩:=hH.obj l i _ hi hg;cases hor with
    |loop _ _ _ _ _ _ _ _ q fn' tmps hd hFt=>
     have h1:ρ s.W.next=none:=hfr _ (Nat.le_refl _) (YJ _);obtain⟨q1,q2⟩:=hH.push h1 (.loop .ready none s.fr N ps asg body d) (.loop { state:=.ready,pending:=none,fn,tmps:=a.tmps,params:=ps.toArray,assign:=asg,body,defers:=q.b })
      ⟨w.heap.size,0,0,0,0⟩ rfl (.loop _ _ _ _ _ _ _ _ q fn a.tmps (fw _ h1 _ _ hd) (hFR.mono (fw _ h1)))
     refine⟨_,[],_,_,_,?_,q1,q2,cj _ _ _,rfl,.nil⟩;unfold Instr.enterLoop;simp only[Yj,jV hb,Yi];rfl
   cases he
theorem gl.append{ds1 ds2:List b9}{l1 l2:List Deferred}(h:gl ρ ds1 l1)(k:gl ρ ds2 l2):gl ρ (ds1++ds2) (l1++l2):=by
 induction h with
 |nil=>exact k
 |call f a c a' c' ds ds' h1 h2 _ ih=>exact .call f a c a' c' _ _ h1 h2 ih
 |mark r i ds ds' hr _ ih=>exact .mark r i _ _ hr ih
theorem Ct(hm:P.follows .mixedOrders=true)(hR:fY R)(hC:ja P R)(hF:nY P R)(hL:RF P R)(hDr:JK P R){rd rb:Option Nat}{s:XS}{c:Code}{e:gg}{s':XS}{a:Act}{w:World}{m:Nat}
 (h:kR P R N rd s c=some (.code e s')) (hrd:iY ρ rd rb) (hfr:cw ρ s.W.next s'.W.next) (hH:HR P ρ s.W.get w) (hFR:FR ρ N s.fr a.tmps) (hD:gl ρ s.ds a.defers) :
 c.wpIn (FW rb) m P (QX P ρ s.W w N e s') a w/\∀b,c=.loop b->oI (FW rb) m P b (QX P ρ s.W w N e s') a w:=by
 have self:∀ex,ub ρ e ex->s'=s->QX P ρ s.W w N e s' ex a w:=fun ex hx hs=>⟨ρ,by subst hs;exact⟨.refl _ _ _ _,hH,hFR,hD⟩,hx⟩
 have sq:∀(x y:Code),xX (fun s=>R (.code N rd y s)) (R (.code N rd x s))=some (.code e s') ->
  ∀{K:Act->World->Prop},(∀s1 ρ1 a1 w1,R (.code N rd y s1)=some (.code e s')->iY ρ1 rd rb->cw ρ1 s1.W.next s'.W.next->HR P ρ1 s1.W.get w1->FR ρ1 N s1.fr a1.tmps->gl ρ1 s1.ds a1.defers ->
   bW ρ s.W.get s.W.next w ρ1 s1.W.get s1.W.next w1->K a1 w1)->x.wpIn (FW rb) m P (Exit.then K (QX P ρ s.W w N e s')) a w:=by
  intro x y hq K hK;unfold xX at hq;split at hq
  ·rename_i s1 h1;have n1:s.W.next<=s1.W.next:=(hR _ _ h1).next;have n2:s1.W.next<=s'.W.next:=(hR _ _ hq).next;refine wpIn_mono (hC _ _ _ _ _ _ h1 ρ rb a w m hrd (hfr.left n2) hH hFR hD) fun ex a1 w1 hx=>?_
   obtain⟨ρ1,⟨k1,k2,k3,k4⟩,hex⟩:=hx;cases ex<;>first|exact hex.elim|skip
   exact hK s1 ρ1 a1 w1 hq (hrd.mono k1.le) (hfr.right k1) k2 k3 k4 k1
  rename_i hne;refine wpIn_mono (hC _ _ _ _ _ _ hq ρ rb a w m hrd hfr hH hFR hD) fun ex a1 w1 hx=>?_
  cases ex with
  |normal=>
   obtain⟨ρ1,hk,hex⟩:=hx;cases e<;>first|exact hex.elim|skip
   exact absurd hq (hne _)
  |_=>exact hx
 unfold kR at h;split at h
 ·cases h;exact⟨wpIn_skip (self .normal trivial rfl),fun b hb=>by cases hb⟩
 ·cases h;exact⟨wpIn_ret (self .ret trivial rfl),fun b hb=>by cases hb⟩
 ·cases h;exact⟨wpIn_exit (self (.exit _) rfl rfl),fun b hb=>by cases hb⟩
 ·rename_i x y;refine⟨wpIn_seq (sq x y h fun s1 ρ1 a1 w1 g1 g2 g3 g4 g5 g6 g7=>?_),fun b hb=>by cases hb⟩;exact wpIn_mono (hC _ _ _ _ _ _ g1 ρ1 rb a1 w1 m g2 g3 g4 g5 g6) fun ex a2 w2 hx=>hx.trans' g7
 ·rename_i c x y;unfold E2 at h;split at h
  ·rename_i t ht;have e1:a.eval c=.bool t:=(hFR.ev c _ ht).of_flat 1 rfl;refine⟨wpIn_cond e1 ?_,fun b hb=>by cases hb⟩;have h:=hC _ _ _ _ _ _ h ρ rb a w m hrd hfr hH hFR hD;cases t<;>exact h
  cases h
 ·rename_i id b;refine⟨wpIn_block ?_,fun b hb=>by cases hb⟩;unfold nN at h;split at h
  ·rename_i i s1 hq;cases hb:Nat.beq i id with
   |true=>
    rw[hb]at h;cases h;have hid:i=id:=Yp hb;refine wpIn_mono (hC _ _ _ _ _ _ hq ρ rb a w m hrd hfr hH hFR hD) fun ex a1 w1 hx=>?_
    obtain⟨ρ1,k1,k2⟩:=hx;cases ex<;>first|exact k2.elim|skip
    simp only[ub]at k2;subst k2;simp only[Exit.inBlock,hid,if_true];exact⟨ρ1,k1,trivial⟩
   |false=>
    rw[hb]at h;cases h;have hid:i≠id:=Nat.ne_of_beq_eq_false hb;refine wpIn_mono (hC _ _ _ _ _ _ hq ρ rb a w m hrd hfr hH hFR hD) fun ex a1 w1 hx=>?_
    obtain⟨ρ1,k1,k2⟩:=hx;cases ex<;>first|exact k2.elim|skip
    simp only[ub]at k2;subst k2;simp only[Exit.inBlock,hid,if_false];exact⟨ρ1,k1,rfl⟩
  rename_i hne;refine wpIn_mono (hC _ _ _ _ _ _ h ρ rb a w m hrd hfr hH hFR hD) fun ex a1 w1 hx=>?_
  cases ex with
  |exit id'=>
   obtain⟨ρ1,hk,hex⟩:=hx;cases e<;>first|exact hex.elim|skip
   exact absurd h (hne _ _)
  |_=>exact hx
 ·rename_i b;have hl:oI (FW rb) m P b (QX P ρ s.W w N e s') a w:=wm (sq b (.loop b) h fun s1 ρ1 a1 w1 g1 g2 g3 g4 g5 g6 g7=>
   ES (hL _ _ _ _ _ _ g1 ρ1 rb a1 w1 m g2 g3 g4 g5 g6) fun ex a2 w2 hx=>hx.trans' g7)
  exact⟨AT hl,fun b' hb=>by cases hb;exact hl⟩
 ·refine⟨wpIn_region_list (Cf hR hC hF _ _ _ _ h ρ a w hrd hfr hH hFR hD fun _ _ _ hx=>hx),fun b hb=>by cases hb⟩
 ·rename_i id ops;unfold zF at h;split at h
  ·rename_i rs s1 hq;cases hb:jJ P ops s.ds.length rs<;>rw[hb]at h<;>cases h;exact⟨hDr _ _ id _ _ _ _ hq hb ρ rb a w m hrd hfr hH hFR hD,fun b hb=>by cases hb⟩
  cases h
 ·rename_i f ps asg body;refine⟨?_,fun b hb=>by cases hb⟩;unfold Ro at h;split at h
  ·rename_i g xs cap hv;obtain⟨xs',cs',hx,hv1,hv2⟩:=(hFR.ev f _ hv).funcInv;unfold Kq at h;split at h
   ·rename_i d mk W1 he;unfold JX at h;split at h
    ·rename_i v W2 hq;unfold wO at h;split at h
     ·rename_i st pend tm N2 ps2 asg2 body2 d2 hg;cases hbz:mD st<;>rw[hbz]at h
      ·simp only[cond_false]at h;have hW:s'.W=W2.put W1.next (some (.loop .exhausted pend tm N2 ps2 asg2 body2 d2)):=by
        have:=Dg h;exact this
       have n1:W1.next+1<=W2.next:=(hR _ _ hq).next;have n2:s'.W.next=W2.next:=by rw[hW];rfl
       rw[n2]at hfr;refine wpIn_rangeFunc fun fn _=>?_
       obtain⟨l,mark,w1,ρ1,i1,e1,e2,e3,e4,e5,e6⟩:=yI (ps:=ps.toList) (asg:=asg) (body:=body) (fn:=fn) hrd he (hfr.left n1) hH hFR;rw[Ze]at e1;obtain⟨hen,hcall⟩:=hF _ _ _ _ _ hq;have hres:(resolve a.eval (rangeCall f l) 0).run P w1=.ok ⟨.fn (.func g) cs'.toArray,xs'.toArray++#[Value.func (.yield l) #[] #[]]⟩ w1:=by show(Deferred.ofValue (a.eval f) (#[Operand.const (.func (.yield l) #[] #[])].map a.eval)).run P w1=_;rw[hx];simp only[List.map_toArray,YM,Y9,Act.eval];rfl
       refine⟨l,mark,w1,_,w1,g,xs'.toArray++#[Value.func (.yield l) #[] #[]]++cs'.toArray,w1,e1,hres,fun _ _=>trivial,kA hen,fun h=>(by cases h),?_⟩;have hvr:aJ ρ1 (xs.toList++[Value.func (.yield W1.next) #[] #[]]++cap.toList) (xs'++[Value.func (.yield l) #[] #[]]++cs'):=by refine((hv1.mono e3.le).append (.cons _ _ _ _ ?_ .nil)).append (hv2.mono e3.le);rw[<-e5];exact .yield _ i1 e4
       have hc:=hcall ρ1 _ w1 (m-1) (hfr.right e3) e2 hvr;have ea:(xs'.toArray++#[Value.func (.yield l) #[] #[]]++cs'.toArray)=(xs'++[Value.func (.yield l) #[] #[]]++cs').toArray:=by apply Array.ext';simp
       rw[<-ea]at hc;refine CallsIn.mono (qY hc) fun en w2 hqf=>?_
       obtain⟨ρ2,s2,h2,hen⟩:=hqf;cases en<;>first|exact hen.elim|skip
       have hi2:=s2.le _ _ e4;obtain⟨ob,hb,hor⟩:=h2.obj _ i1 _ hi2 hg;cases hor with
       |loop _ _ _ _ _ _ _ _ q fn2 tmps2 hd2 hFt2=>
        obtain⟨p1,p2⟩:=h2.put hi2 (by rw[hg];simp) (.loop .exhausted pend tm N2 ps2 asg2 body2 d2) (gh w2 i1.b _) (jA hb) (.loop _ pend tm N2 ps2 asg2 body2 d2 q fn2 tmps2 hd2 hFt2);have hend:=tO (P:=P) hb (show(st==LoopState.busy)=false by cases st<;>first|rfl|cases hbz);rw[e5]at hend p1 p2;refine⟨_,_,hend,?_⟩;have hst:=(e3.trans s2).trans p2;have fin:∀ex,ub ρ2 e ex->s'=⟨s.fr,W2.put W1.next (some (.loop .exhausted pend tm N2 ps2 asg2 body2 d2)),mk++s.ds⟩ ->
         QX P ρ s.W w N e s' ex { a with defers:=mark++a.defers } _:=fun ex hx hs=>⟨ρ2,by
         subst hs;exact⟨hst,p1,hFR.mono hst.le,((e6.mono s2.le).append (hD.mono hst.le))⟩,hx⟩
        unfold zN at h;split at h
        ·cases h;exact fin .normal trivial rfl
        ·cases h;exact wpIn_ret (fin .ret trivial rfl)
        ·cases h;exact wpIn_exit (fin (.exit _) rfl rfl)
        cases h
      cases h
     cases h
    cases h
   cases h
  cases h
 cases h
end
theorem Ba{α β γ:Type}(x:Sem α)(f:α->Sem β)(g:β->Sem γ):(x.bind f).bind g=x.bind (fun a=>(f a).bind g):=by
 induction x<;>simp only[Sem.bind, *]
theorem CZ{α:Type}(x:Sem α):x.bind Sem.pure=x:=by
 induction x<;>simp only[Sem.bind, *]
theorem yQ:LawfulMonad Sem:=LawfulMonad.mk' Sem (id_map:=fun x=>CZ x) (pure_bind:=fun _ _=>rfl) (bind_assoc:=fun x f g=>Ba x f g)
def gK(ρ:Ren):Option Value->FrameMode->Prop
 |none,.returning=>True
 |some v,.panicking ch=>∃v',VR ρ v v'/\ch=[{ v:=v',recovered:=false }]
 |_,_=>False
structure uR(P:Program)(H:cC):Prop where
 ext:Fe H
 enters:∀f h,H.call f=some h->cT P f
 call:∀f h args W e W',H.call f=some h->h args W=some (e,W')->∀ρ args' w m,cw ρ W.next W'.next->HR P ρ W.get w->aJ ρ args args'->CallsIn Fence.wide m P f args'.toArray w (QF P ρ W w e W')
 entersD:∀f h,H.defd f=some h->cT P f
 defd:∀f h args p W p' W',H.defd f=some h->h args p W=some (p',W')->∀ρ args' w m u,cw ρ W.next W'.next->HR P ρ W.get w->aJ ρ args args'->gK ρ p u ->
  CallsDIn Fence.wide m P f args'.toArray u w fun en u' w'=>(∃v,en=.returned v)/\∃ρ',bW ρ W.get W.next w ρ' W'.get W'.next w'/\HR P ρ' W'.get w'/\gK ρ' p' (settle u')
section
variable {P:Program} {ρ:Ren}
theorem KL{W:XW}{w:World}{fr:XF}{N:Nat}{tm:Array Value}{g:ResultVar->Sem Value}(hg1:∀t,g (.tmp t)=pure (tm.getD t undef))(hg2:∀a t,g (.cell a t)=do loadVar t (<-asAddr (tm.getD a undef)))
 {r:ResultVar} {v:Value} (hH:HR P ρ W.get w) (hF:FR ρ N fr tm) (h:AZ P W fr r=some v):∃u,(g r).run P w=.ok u w/\VR ρ v u:=by
 unfold AZ at h;split at h
 ·rw[hg1];exact⟨_,rfl,hF.rep _ _ h⟩
 rename_i a t;split at h
 ·rename_i p hp;obtain⟨b,u,h1,h2,h3⟩:=yY hH (hF.rep _ _ hp) h;refine⟨u,?_,h3⟩;rw[hg2,h1];exact h2
 cases h
theorem Ab{W:XW}{w:World}{fr:XF}{N:Nat}{tm:Array Value}{g:ResultVar->Sem Value}(hg1:∀t,g (.tmp t)=pure (tm.getD t undef))(hg2:∀a t,g (.cell a t)=do loadVar t (<-asAddr (tm.getD a undef)))
 (hH:HR P ρ W.get w) (hF:FR ρ N fr tm):∀(l:List ResultVar) (vs:List Value),p9 P W fr l=some vs->∃us,(l.mapM g).run P w=.ok us w/\aJ ρ vs us
 |[],vs,h=>by cases h;exact⟨[],rfl,.nil⟩
 |r::l,vs,h=>by
  unfold p9 at h;split at h
  ·rename_i v us h1 h2;cases h;obtain⟨u,q1,q2⟩:=KL hg1 hg2 hH hF h1;obtain⟨us',q3,q4⟩:=Ab hg1 hg2 hH hF l us h2;refine⟨u::us',?_,.cons _ _ _ _ q2 q4⟩;have:=yQ;rw[List.mapM_cons,Yj,q1,Yi,Yj,q3,Yi];rfl
  cases h
theorem Ie{vs us:List Value}(h:aJ ρ vs us):VR ρ (s6 vs) (if h:us.toArray.size=1 then us.toArray[0]else .tuple us.toArray):=by
 cases h with
 |nil=>exact .tuple [] [] .nil
 |cons v u l l' hv hs=>
  cases hs with
  |nil=>exact hv
  |cons v2 u2 l2 l2' hv2 hs2=>
   rw[dif_neg (by simp)];exact .tuple _ _ (.cons _ _ _ _ hv (.cons _ _ _ _ hv2 hs2))
def Qs(tm:Array Value):ResultVar->Sem Value
 |.tmp t=>pure (tm.getD t undef)
 |.cell a t=>do loadVar t (<-asAddr (tm.getD a undef))
theorem Fi(fn:Func)(tm:Array Value):results fn tm=(do let vs <-fn.results.mapM (Qs tm);pure (if h:vs.size=1 then vs[0]else .tuple vs)):=rfl
theorem o4{W:XW}{w:World}{fr:XF}{N:Nat}{tm:Array Value}{fn:Func}{vs:List Value}(hH:HR P ρ W.get w)(hF:FR ρ N fr tm)(h:p9 P W fr fn.results.toList=some vs) :
 ∃u,(results fn tm).run P w=.ok u w/\VR ρ (s6 vs) u:=by
 have:=yQ;obtain⟨us,h1,h2⟩:=Ab (g:=Qs tm) (fun _=>rfl) (fun _ _=>rfl) hH hF _ _ h;refine⟨_,?_,Ie h2⟩;rw[Fi,Array.mapM_eq_mapM_toList,map_eq_pure_bind,Yj,Yj,h1];rfl
theorem run_takeDeferred{w:World}{b:Nat}(h:w.heap[b]?=some (.deferred (some []))):(Instr.takeDeferred b).run P w=.ok [] (fX w b (.deferred none)):=by
 unfold Instr.takeDeferred;rw[Yj];simp only[getObj,Sem.run,h,Yi];rw[Yj];simp only[setObj,Sem.run,h,Yi];rfl
theorem DP{p:Option Value}{u:FrameMode}(h:gK ρ p u):u≠.run:=by
 rintro rfl;cases p<;>exact h
theorem gK.mono{ρ':Ren}(hr:ρ.le ρ'){p:Option Value}{u:FrameMode}(h:gK ρ p u):gK ρ' p u:=by
 cases p with
 |none=>cases u<;>exact h
 |some v=>
  cases u<;>first|exact h|skip
  obtain⟨v',h1,h2⟩:=h;exact⟨v',h1.mono hr,h2⟩
theorem nj{H:cC}(hS:uR P H){fn:Func}{tm:Array Value}{T:Ending->World->Prop}{m:Nat}{p':Option Value}{W':XW}:∀(ds:List b9) (p:Option Value) (W:XW),dE H ds p W=some (p',W') ->
 ∀(ρ:Ren) (l:List Deferred) (w:World) (u:FrameMode),cw ρ W.next W'.next->HR P ρ W.get w->gl ρ ds l->gK ρ p u ->
 (∀ρ' u' w',bW ρ W.get W.next w ρ' W'.get W'.next w'->HR P ρ' W'.get w'->gK ρ' p' u'->LeavesIn Fence.wide m P fn tm T [] u' w')->LeavesInM Fence.wide m P fn tm T l u w
 |[],p,W,h,ρ,l,w,u,hfr,hH,hD,hp,hk=>by
  cases h;cases hD;exact hk ρ u w (.refl _ _ _ _) hH hp
 |.mark r::ds,p,W,h,ρ,l,w,u,hfr,hH,hD,hp,hk=>by
  cases hD with
  |mark _ i _ ds' hr hD=>
   unfold dE at h;split at h
   ·rename_i hg;obtain⟨ob,hb,hor⟩:=hH.obj r i _ hr hg;cases hor;obtain⟨p1,p2⟩:=hH.put hr (by rw[hg];simp) (.defd true) (gh w i.b _) (jA hb) .defd1;refine⟨DP hp,.inl ⟨i.b,_,rfl,run_takeDeferred hb,?_⟩⟩;exact nj hS ds p _ h ρ ds' _ u hfr p1 hD hp fun ρ' u' w' g1 g2 g3=>hk ρ' u' w' (p2.trans g1) g2 g3
   cases h
 |.call f args cap::ds,p,W,h,ρ,l,w,u,hfr,hH,hD,hp,hk=>by
  cases hD with
  |call _ _ _ args' cap' _ ds' h1 h2 hD=>
   unfold dE at h;split at h
   ·rename_i k hkk;split at h
    ·rename_i p1 W1 hq;have n1:W.next<=W1.next:=(hS.ext.defd _ _ _ _ _ _ _ hkk hq).next;have n2:W1.next<=W'.next:=(jm hS.ext _ _ _ _ _ h).next;have hen:=hS.entersD _ _ hkk;have ea:args'.toArray++cap'.toArray=(args'++cap').toArray:=by simp
     refine⟨DP hp,.inr ⟨fun h=>(by cases h),.func f,cap'.toArray,f,args'.toArray++cap'.toArray,rfl,kA hen,fun _ _=>trivial,?_⟩⟩;rw[ea];refine CallsDIn.mono (hS.defd _ _ _ _ _ _ _ hkk hq ρ _ w (m-1) u (hfr.left n2) hH (h1.append h2) hp) fun en u' w' g=>?_
     obtain⟨⟨v,rfl⟩,ρ1,g1,g2,g3⟩:=g;exact nj hS ds p1 W1 h ρ1 ds' w' (settle u') (hfr.right g1) g2 (hD.mono g1.le) g3 fun ρ' u2 w2 k1 k2 k3=>hk ρ' u2 w2 (g1.trans k1) k2 k3
    cases h
   cases h
theorem wb:∀(l:List Value) (fr:XF) (n t:Nat) (v:Value),(vY fr n l).get t=some v->(n<=t/\l[t-n]?=some v)\/fr.get t=some v
 |[],fr,n,t,v,h=>.inr h
 |u::l,fr,n,t,v,h=>by
  rcases wb l _ _ t v h with⟨h1,h2⟩|h
  ·refine .inl ⟨by omega,?_⟩;have:t-n=t-(n+1)+1:=by omega
   rw[this];simpa using h2
  rcases PT.set_some h with⟨rfl,hq⟩|⟨_,hq⟩
  ·exact .inl ⟨Nat.le_refl _,by simpa using hq⟩
  exact .inr hq
theorem uH{args args':List Value}{N:Nat}(h:aJ ρ args args')(hN:args.length<=N):FR ρ N (xu args) (args'.toArray++Array.replicate (N-args'.toArray.size) undef):=by
 have hl:=h.length;refine⟨by simp;omega,fun t v hv=>?_⟩;rcases wb _ _ _ _ _ hv with⟨_,h1⟩|h1
 ·obtain⟨u,q1,q2⟩:=h.get t v (by simpa using h1);have:(args'.toArray++Array.replicate (N-args'.toArray.size) undef).getD t undef=u:=by
   rw[YK,Array.getElem?_append_left (by
    have:=(List.getElem?_eq_some_iff.1 q1).1;simpa using this)]
   simp[q1]
  rw[this];exact q2
 rw[PT.get_full]at h1;cases h1
theorem JU{H:cC}{R:XK}(hS:uR P H)(hR:fY R)(hC:ja P R){f:FuncId}{args:List Value}{W:XW}{e:aZ}{W':XW}(h:qe P H R f args W (H.call f)=some (.fin e W')) :
 cT P f/\∀ρ args' w m,cw ρ W.next W'.next->HR P ρ W.get w->aJ ρ args args'->CallsIn Fence.wide m P f args'.toArray w (QF P ρ W w e W'):=by
 unfold qe at h;split at h
 ·rename_i k hk;unfold vU at h;split at h
  ·rename_i v W1 hq;cases h;exact⟨hS.enters _ _ hk,hS.call _ _ _ _ _ _ hk hq⟩
  cases h
 unfold Lw at h;split at h
 ·rename_i fn hf;cases hn:gq fn<;>rw[hn]at h
  ·cases h
  have h:Jz P H R fn args W fn.body=some (.fin e W'):=h;unfold Jz at h;split at h
  ·rename_i c hc;cases hb:Nat.ble args.length fn.ntmps<;>rw[hb]at h
   ·cases h
   have h:zD P H fn (R (.code fn.ntmps none c ⟨xu args,W,[]⟩))=some (.fin e W'):=h;refine⟨⟨fn,hf,hn,by rw[hc];rfl⟩,fun ρ args' w m hfr hH hA=>?_⟩;unfold zD at h;split at h
   ·rename_i ex s hq;unfold Lr at h;split at h
    ·rename_i p hp;have n1:W.next<=s.W.next:=(hR _ _ hq).next;have key:∀W2 p2,dE H s.ds p s.W=some (p2,W2)->W'.next=W2.next->(∀ρ' u' w',bW ρ W.get W.next w ρ' W2.get W2.next w'->HR P ρ' W2.get w'->gK ρ' p2 u'->∀tm,FR ρ' fn.ntmps s.fr tm->LeavesIn Fence.wide m P fn tm (QF P ρ W w e W') [] u' w') ->
      CallsIn Fence.wide m P f args'.toArray w (QF P ρ W w e W'):=fun W2 p2 hs hW hk=>by
      rw[hW]at hfr;have n2:s.W.next<=W2.next:=(jm hS.ext _ _ _ _ _ hs).next;refine callsIn_of_wp_marks hf hc trivial (wpIn_mono (hC _ _ _ _ _ _ hq ρ none { tmps:=_,defers:=[] } w m trivial (hfr.left n2) hH (uH hA (Nat.le_of_ble_eq_true hb)) .nil) fun x a1 w1 hx=>?_) rfl;obtain⟨ρ1,⟨g1,g2,g3,g4⟩,hx⟩:=hx;have go:∀u,gK ρ1 p u->LeavesInM Fence.wide m P fn a1.tmps (QF P ρ W w e W') a1.defers u w1:=fun u hu=>
       nj hS _ _ _ hs ρ1 _ w1 u (hfr.right g1) g2 g4 hu fun ρ' u' w' k1 k2 k3=>hk ρ' u' w' (g1.trans k1) k2 k3 _ (g3.mono k1.le)
      cases ex<;>cases x<;>first|exact hx.elim|skip
      ·cases hp;exact go .returning trivial
      ·cases hp
      ·cases hp;exact go .returning trivial
      cases hp;obtain⟨v',h1,rfl⟩:=hx;exact go (.panicking _) ⟨v',h1,rfl⟩
     unfold nU at h;split at h
     ·rename_i v W1 hs;cases h;refine key _ _ hs rfl fun ρ' u' w' g1 g2 g3 tm hF=>?_
      cases u'<;>first|exact g3.elim|skip
      exact⟨ρ',g1,g2,g3⟩
     ·rename_i W1 hs;unfold uQ at h;split at h
      ·rename_i vs hr;cases h;refine key _ _ hs rfl fun ρ' u' w' g1 g2 g3 tm hF=>?_
       cases u'<;>first|exact g3.elim|skip
       obtain⟨u,q1,q2⟩:=o4 g2 hF hr;exact⟨u,q1,ρ',g1,g2,q2⟩
      cases h
     cases h
    cases h
   cases h
  cases h
 cases h
theorem lY{H:cC}(hm:P.follows .mixedOrders=true)(hS:uR P H)(hD:∀R,fY R->ja P R->nY P R->JK P R):∀n,ja P (cd P H n)/\nY P (cd P H n)/\RF P (cd P H n)
 |0=>⟨fun _ _ _ _ _ _ h=>(by cases h),fun _ _ _ _ _ h=>(by cases h),fun _ _ _ _ _ _ h=>(by cases h)⟩
 |n+1=>by
  obtain⟨hC,hF,hL⟩:=lY hm hS hD n;have hR:=nD (P:=P) hS.ext n;have hDr:=hD _ hR hC hF;exact⟨fun N rd c s e s' h ρ rb a w m h1 h2 h3 h4 h5=>(Ct hm hR hC hF hL hDr h h1 h2 h3 h4 h5).1,
   fun f args W e W' h=>JU hS hR hC h,
   fun N rd b s e s' h ρ rb a w m h1 h2 h3 h4 h5=>(Ct (c:=.loop b) hm hR hC hF hL hDr (show kR P (cd P H n) N rd s (.loop b)=_ from h) h1 h2 h3 h4 h5).2 b rfl⟩
end
def PT.room{α:Type}:PT α->Nat->Bool
 |.lf,_=>false
 |.nd l v r,n=>bif Nat.beq n 0 then true else bif Nat.beq (n%2) 1 then l.room (n/2)else r.room (n/2-1)
theorem PT.get_set_room{α:Type}:∀(t:PT α) (n:Nat) (x:Option α),(t.set n x).get n=if t.room n=true then x else none
 |.lf,n,x=>by simp[PT.set,PT.get,PT.room]
 |.nd l v r,n,x=>by
  unfold PT.set PT.room;cases h0:Nat.beq n 0 with
  |true=>simp[PT.get,h0]
  |false=>
   cases h1:Nat.beq (n%2) 1 with
   |true=>
    simp only[cond_false,cond_true,PT.get,h0,h1];exact PT.get_set_room l _ x
   |false=>
    simp only[cond_false,PT.get,h0,h1];exact PT.get_set_room r _ x
theorem PT.room_set{α:Type}:∀(t:PT α) (n m:Nat) (x:Option α),(t.set m x).room n=t.room n
 |.lf,n,m,x=>rfl
 |.nd l v r,n,m,x=>by
  unfold PT.set;cases h0:Nat.beq m 0 with
  |true=>rfl
  |false=>
   cases h1:Nat.beq (m%2) 1 with
   |true=>
    simp only[cond_false,cond_true,PT.room];rw[PT.room_set l]
   |false=>
    simp only[cond_false,PT.room];rw[PT.room_set r]
section
variable {P:Program} {W:XW} {fr fr':XF}
theorem mA:∀{l:List Operand},(∀x∈l,ev fr' x=ev fr x)->evs fr' l=evs fr l
 |[],_=>rfl
 |x::l,h=>by
  have e1:=h x (by simp);have e2:=mA (l:=l) fun y hy=>h y (by simp[hy])
  simp only[evs,e1,e2]
theorem rC:∀{l:List (Nat×Operand)},(∀x∈l.map (·.2),ev fr' x=ev fr x)->evP fr' l=evP fr l
 |[],_=>rfl
 |(i,x)::l,h=>by
  have e1:=h x (by simp);have e2:=rC (l:=l) fun y hy=>h y (by simp only[YM,YD];exact .inr hy)
  simp only[evP,e1,e2]
theorem oZ{d:Nat}{x:Option Operand}(h:∀y∈x.toList,ev fr' y=ev fr y):cK fr' d x=cK fr d x:=by
 cases x with
 |none=>rfl
 |some y=>simp only[cK,h y (by simp)]
theorem CP{v:Value}{lo hi mx:Option Operand}{d:Option TypeDesc}(h1:∀y∈lo.toList,ev fr' y=ev fr y)(h2:∀y∈hi.toList,ev fr' y=ev fr y)(h3:∀y∈mx.toList,ev fr' y=ev fr y) :
 gN P fr' W v lo hi mx d=gN P fr W v lo hi mx d:=by
 have b1:∀n,cK fr' n lo=cK fr n lo:=fun n=>oZ h1
 have b2:∀n,cK fr' n hi=cK fr n hi:=fun n=>oZ h2
 unfold gN;cases mx with
 |none=>simp only[b1,b2]
 |some m=>
  have b3:∀n,cK fr' n (some m)=cK fr n (some m):=fun n=>oZ h3
  simp only[b1,b2,b3]
theorem Ir{ty:TypeId}{op:Op}(h:∀x∈op.operands,ev fr' x=ev fr x):bU P fr' W ty op=bU P fr W ty op:=by
 cases op<;>simp only[Op.operands]at h<;>simp only[bU]<;>(try rw[h _ (by simp)])<;>(try rw[h _ (by simp)])<;>(try rw[h _ (by simp)])
 case pick c a b=>
  have e:∀t:Bool,ev fr' (bif t then a else b)=ev fr (bif t then a else b):=fun t=>by cases t<;>exact h _ (by simp)
  unfold vm;simp only[e]
 case build t ps=>rw[rC fun x hx=>h x (by simpa using hx)]
 case buildSlice t n ps=>unfold wL;rw[rC fun x hx=>h x (by simpa using hx)]
 case makeFunc f a c=>rw[mA (l:=a.toList) fun x hx=>h x (by simp at hx;simp[hx]),mA (l:=c.toList) fun x hx=>h x (by simp at hx;simp[hx])]
 case makeMap t r=>
  have:iX fr' r=iX fr r:=by
   cases r with
   |none=>rfl
   |some x=>simp only[iX,h x (by simp)]
  rw[this]
 case slice t x lo hi mx=>
  unfold rq;have e1:∀y∈lo.toList,ev fr' y=ev fr y:=fun y hy=>h y (by simp at hy;simp[hy])
  have e2:∀y∈hi.toList,ev fr' y=ev fr y:=fun y hy=>h y (by simp at hy;simp[hy])
  have e3:∀y∈mx.toList,ev fr' y=ev fr y:=fun y hy=>h y (by simp at hy;simp[hy])
  split
  ·exact CP e1 e2 e3
  rfl
 case call c=>
  obtain⟨cl,args,ats⟩:=c;have e:evs fr' args.toList=evs fr args.toList:=mA fun x hx=>h x (by simp at hx;simp[Call.operands,hx])
  simp only[sj,e];cases cl with
  |value f=>simp only;rw[h f (by simp[Call.operands])]
  |_=>rfl
 case «defer» c=>
  obtain⟨cl,args,ats⟩:=c;have e:evs fr' args.toList=evs fr args.toList:=mA fun x hx=>h x (by simp at hx;simp[Call.operands,hx])
  simp only[uJ,e];cases cl with
  |value f=>simp only;rw[h f (by simp[Call.operands])]
  |_=>rfl
theorem ry{W:XW}{ds:List b9}{o:Option XF}{s:XS}(h:jL W ds o=some (.on s)):o=some s.fr/\W=s.W/\ds=s.ds:=by
 unfold jL at h;split at h<;>cases h;exact⟨rfl,rfl,rfl⟩
def Fk(k:XF->Option O1)(N:Nat)(d:Option Tmp)(s':XS)(n:Nat):Prop:=∃v,cO N fr d v=some s'.fr/\(s'.ds.length=n\/s'.ds.length=n+1)/\∀f f',cO N f d v=some f'->k f=some (.on ⟨f',s'.W,s'.ds⟩)
theorem kw{N:Nat}{d:Option Tmp}{W:XW}{ds:List b9}{n:Nat}(hn:ds.length=n\/ds.length=n+1){v:Option Value}{s':XS}(h:jL W ds (cO N fr d v)=some (.on s')):Fk (fr:=fr) (fun f=>jL W ds (cO N f d v)) N d s' n:=by
 obtain⟨h1,rfl,rfl⟩:=ry h;exact⟨v,h1,hn,fun f f' h=>by simp only[h];rfl⟩
theorem F6{R:XK}{N:Nat}{d:Option Tmp}{ds:List b9}{lp:Nat}{args:List Value}{o:Option ag}{s':XS}(h:pz R N fr d ds lp args W o=some (.on s')) :
 Fk (fr:=fr) (fun f=>pz R N f d ds lp args W o) N d s' ds.length:=by
 unfold pz at h;split at h
 ·rename_i pend tm N' ps asg body df;unfold oV at h;split at h
  ·rename_i fr1 h1;unfold oX at h;split at h
   ·rename_i s1 hq1;unfold oR at h;split at h
    ·rename_i pend2 tm2 N2 ps2 asg2 body2 df2 hg2;unfold oU at h;split at h
     ·rename_i e s2 hq2;unfold om at h;split at h
      ·rename_i st pd rr st3 pd3 tm3 N3 ps3 asg3 body3 df3 hj hg3;obtain⟨v,b1,b2,b3⟩:=kw (.inl rfl) h;refine⟨v,b1,b2,fun f f' hf=>?_⟩;have:=b3 f f' hf;simp only[pz,h1,oV,hq1,oX,hg2,oR,hq2,oU,hg3,hj,om];exact this
      cases h
     cases h
    cases h
   cases h
  cases h
 cases h
theorem Jh{R:XK}{N:Nat}{rd:Option Nat}{ds:List b9}{d:Option Tmp}{x:Option XR}{s':XS}(h:la R N rd ⟨fr,W,ds⟩ d x=some (.on s')) :
 Fk (fr:=fr) (fun f=>la R N rd ⟨f,W,ds⟩ d x) N d s' ds.length:=by
 unfold la at h;split at h
 ·exact kw (.inl rfl) h
 ·exact kw (.inl rfl) h
 ·exact kw (.inl rfl) h
 ·cases h
 ·unfold Ea at h;split at h
  ·exact kw (.inr rfl) h
  cases h
 ·rename_i f args;unfold ne at h;split at h
  ·rename_i v W1 hq;obtain⟨u,b1,b2,b3⟩:=kw (.inl rfl) h;refine⟨u,b1,b2,fun f f' hf=>?_⟩;have:=b3 f f' hf;simp only[la,ne,hq];exact this
  ·cases h
  cases h
 ·exact F6 h
 cases h
def drop:XF->List Tmp->XF
 |f,[]=>f
 |f,t::l=>drop (f.set t none) l
theorem Aw:∀(l:List Tmp) (f:XF) (t:Nat) (v:Value),(drop f l).get t=some v->t∉l/\f.get t=some v
 |[],f,t,v,h=>⟨by simp,h⟩
 |u::l,f,t,v,h=>by
  obtain⟨h1,h2⟩:=Aw l _ t v h;rcases PT.set_some h2 with⟨_,q⟩|⟨q1,q2⟩
  ·cases q
  exact⟨by simp[q1,h1],q2⟩
theorem vy:∀(l:List Tmp) (f:XF) (t:Nat),t∉l->(drop f l).get t=f.get t
 |[],f,t,h=>rfl
 |u::l,f,t,h=>by
  simp only[YD,not_or]at h;show(drop (f.set u none) l).get t=_;rw[vy l _ t h.2,PT.get_set_ne _ _ _ _ h.1]
theorem rp:∀(l:List Tmp) (f:XF) (t:Nat),(drop f l).room t=f.room t
 |[],f,t=>rfl
 |u::l,f,t=>by
  show(drop (f.set u none) l).room t=_;rw[rp l,PT.room_set]
end
theorem Xa{P:Program}{ρ ρ':Ren}{V V' G G':GH}{nx nx':Nat}{w w':World}(hV:HR P ρ V w)(hsub:∀n o,ρ n≠none->G n=some o->V n=some o)(hS:bW ρ G nx w ρ' G' nx' w')(hG':HR P ρ' G' w')
 (hV':∀n o,ρ' n≠none->V' n=some o->G' n=some o\/(ρ n≠none/\V n=some o/\G n=none/\G' n=none)):HR P ρ' V' w'/\bW ρ V nx w ρ' V' nx' w':=by
 have hlive:∀n,ρ n≠none->G n≠none->V n≠none:=fun n h1 h2=>by
  cases e:G n with
  |none=>exact absurd e h2
  |some o=>rw[hsub n o h1 e];simp
 have notImg:∀n i,ρ n=some i->V n≠none->G n=none->¬eX ρ G i.b:=fun n i h1 h2 h3=>by
  rintro ⟨m,j,k1,k2,k3⟩;have:=hV.inj m n j i k1 h1 (hlive m (by rw[k1];simp) k2) h2 k3;subst this;exact k2 h3
 have live':∀n i,ρ' n=some i->V' n≠none->G' n≠none\/(ρ n=some i/\V n≠none/\G n=none):=fun n i h1 h2=>by
  cases e:V' n with
  |none=>exact absurd e h2
  |some o=>
   rcases hV' n o (by rw[h1];simp) e with h|⟨k1,k2,k3,k4⟩
   ·exact .inl (by rw[h];simp)
   cases e2:ρ n with
   |none=>exact absurd e2 k1
   |some j=>
    have:=hS.le n j e2;rw[h1]at this;cases this;exact .inr ⟨rfl,by rw[k2];simp,k3⟩
 have cross:∀n m i j,ρ' n=some i->G' n≠none->ρ m=some j->V m≠none->G m=none->i.b=j.b->False:=fun n m i j h1 h2 h3 h4 h5 h6=>by
  rcases hS.img i.b ⟨n,i,h1,h2,rfl⟩with q|q
  ·rw[h6]at q;exact notImg m j h3 h4 h5 q
  have:=hV.live h3 h4;omega
 have himg:∀b,eX ρ G b->eX ρ V b:=fun b ⟨n,i,k1,k2,k3⟩=>⟨n,i,k1,hlive n (by rw[k1];simp) k2,k3⟩
 refine⟨⟨fun n i o h1 h2=>?_,fun n m i j h1 h2 h3 h4 h5=>?_,fun b o hb=>⟨(hG'.frz b o hb).1,fun⟨n,i,k1,k2,k3⟩=>?_⟩⟩,⟨hS.le,hS.keeps.mono fun b _ hb=>?_,fun b hb=>?_,hS.dom,hS.next,fun b o e=>(hS.fzn b o e).imp id (Or.imp (himg b) id)⟩⟩
 ·rcases hV' n o (by rw[h1];simp) h2 with h|⟨k1,k2,k3,k4⟩
  ·exact hG'.obj n i o h1 h
  cases e2:ρ n with
  |none=>exact absurd e2 k1
  |some j=>
   have:=hS.le n j e2;rw[h1]at this;cases this;obtain⟨ob,q1,q2⟩:=hV.obj n i o e2 k2;exact⟨ob,hS.keeps.heap q1 (notImg n i e2 (by rw[k2];simp) k3),q2.mono hS.le⟩
 ·rcases live' n i h1 h3 with a|⟨a1,a2,a3⟩
  ·rcases live' m j h2 h4 with b|⟨b1,b2,b3⟩
   ·exact hG'.inj n m i j h1 h2 a b h5
   exact(cross n m i j h1 a b1 b2 b3 h5).elim
  rcases live' m j h2 h4 with b|⟨b1,b2,b3⟩
  ·exact(cross m n j i h2 b a1 a2 a3 h5.symm).elim
  exact hV.inj n m i j a1 b1 a2 b2 h5
 ·rcases live' n i k1 k2 with a|⟨a1,a2,a3⟩
  ·exact(hG'.frz b o hb).2 ⟨n,i,k1,a,k3⟩
  rcases hS.fzn b o hb with q|q|q
  ·exact(hV.frz b o q).2 ⟨n,i,a1,a2,k3⟩
  ·exact notImg n i a1 a2 a3 (by rw[k3];exact q)
  have:=hV.live a1 a2;omega
 ·obtain⟨n,i,k1,k2,k3⟩:=hb;exact⟨n,i,k1,hlive n (by rw[k1];simp) k2,k3⟩
 obtain⟨n,i,k1,k2,k3⟩:=hb;rcases live' n i k1 k2 with a|⟨a1,a2,a3⟩
 ·rcases hS.img b ⟨n,i,k1,a,k3⟩with⟨m,j,q1,q2,q3⟩|q
  ·exact .inl ⟨m,j,q1,hlive m (by rw[q1];simp) q2,q3⟩
  exact .inr q
 exact .inl ⟨n,i,a1,a2,k3⟩
open Classical in
noncomputable def pick(p:Nat->Prop):Nat->Nat
 |0=>0
 |k+1=>if p k then k+1 else pick p k
theorem p8{p:Nat->Prop}{k:Nat}(h:p k):pick p (k+1)=k+1:=if_pos h
theorem pX{p:Nat->Prop}{k:Nat}(h:¬p k):pick p (k+1)=pick p k:=if_neg h
theorem nc{p q:Nat->Prop}:∀{k:Nat},(∀j,j<k->(p j↔q j))->pick p k=pick q k
 |0,_=>rfl
 |k+1,h=>by
  have ih:=nc (k:=k) fun j hj=>h j (Nat.lt_succ_of_lt hj)
  by_cases hp:p k
  ·rw[p8 hp,p8 ((h k (YJ _)).1 hp)]
  rw[pX hp,pX (fun e=>hp ((h k (YJ _)).2 e)),ih]
theorem mF{p:Nat->Prop}:∀{k i:Nat},i<=k->(∀j,i<=j->j<k->¬p j)->pick p k=pick p i
 |0,i,h,_=>by rw[Nat.le_zero.1 h]
 |k+1,i,h,hn=>by
  rcases Yz i (k+1)with q|q
  ·rw[pX (hn k (by omega) (YJ _))];exact mF (by omega) fun j h1 h2=>hn j h1 (by omega)
  have:i=k+1:=by omega
  rw[this]
theorem sm{p:Nat->Prop}{k i:Nat}(hi:i<k)(h:p i)(hl:∀j,j<k->p j->j<=i):pick p k=i+1:=by
 rw[mF (i:=i+1) hi fun j h1 h2 h3=>by have:=hl j h2 h3;omega,p8 h]
theorem uu{α:Type}{f:Nat->α}{τ:Nat->Prop}:∀{i:Nat},(∀j,j<i->¬τ j->f (j+1)=f j)->f (pick τ i)=f i
 |0,_=>rfl
 |i+1,h=>by
  by_cases hp:τ i
  ·rw[p8 hp]
  rw[pX hp,h i (YJ _) hp];exact uu fun j hj=>h j (Nat.lt_succ_of_lt hj)
theorem py{α:Type}{f:Nat->α}{p τ:Nat->Prop}{k i:Nat}(hi:i<=k)(hst:∀j,j<k->¬τ j->f (j+1)=f j)(h:∀j,j<k->(p j↔j<i/\τ j)):f (pick p k)=f i:=by
 rw[mF hi fun j h1 h2 h3=>by have:=((h j h2).1 h3).1;omega,nc (q:=τ) fun j hj=>⟨fun e=>((h j (by omega)).1 e).2,fun e=>(h j (by omega)).2 ⟨hj,e⟩⟩];exact uu fun j hj=>hst j (by omega)
theorem CK(e j:Nat):(2^e).testBit j=decide (e=j):=Nat.testBit_two_pow
theorem vR{acc:List Nat}:∀{es:List Nat} {j:Nat},(pj acc es).testBit j=true->∃e∈es,e=j\/(acc.getD e 0).testBit j=true
 |[],j,h=>by simp[pj]at h
 |e::es,j,h=>by
  unfold pj at h;rw[Nat.testBit_or,Nat.testBit_or,CK]at h;simp only[YR,decide_eq_true_eq]at h;rcases h with(h|h)|h
  ·exact⟨e,by simp,.inl h⟩
  ·exact⟨e,by simp,.inr h⟩
  obtain⟨e',h1,h2⟩:=vR h;exact⟨e',by simp[h1],h2⟩
theorem ph{ops:Array Oper}{D:Nat->Prop}(hc:∀i o,ops[i]?=some o->D i->∀e∈eh o,D e):∀(l:List Oper) (acc:List Nat),(∀j,l[j]?=ops[acc.length+j]?) ->
 (∀i o,i<acc.length->ops[i]?=some o->(∀e∈eh o,D e)->∀j,(acc.getD i 0).testBit j=true->D j) ->
 ∀i o,ops[i]?=some o->i<acc.length+l.length->(∀e∈eh o,D e)->∀j,((sG l acc).getD i 0).testBit j=true->D j
 |[],acc,hl,ha,i,o,ho,hi,he,j,hj=>ha i o (by simpa using hi) ho he j hj
 |x::l,acc,hl,ha,i,o,ho,hi,he,j,hj=>by
  refine ph hc l (acc++[pj acc (eh x)]) (fun j=>?_) (fun i o hi ho he j hj=>?_) i o ho (by simp at hi ⊢;omega) he j hj
  ·have:=hl (j+1);simp only[List.getElem?_cons_succ]at this;rw[this,Yh];congr 1;simp;omega
  simp only[Yh,YN]at hi;rcases Yz i acc.length with q|q
  ·refine ha i o q ho he j ?_;rw[Yn,YY q]at hj;rwa [Yn]
  have e1:i=acc.length:=by omega
  subst e1;have e2:ops[acc.length]?=some x:=by have:=hl 0;simpa using this.symm
  rw[e2]at ho;cases ho;rw[Yn,YQ (Nat.le_refl _)]at hj;simp only[Nat.sub_self,List.getElem?_cons_zero,Zd]at hj;obtain⟨e,h1,h2|h2⟩:=vR hj
  ·subst h2;exact he e h1
  rcases Yz e acc.length with q2|q2
  ·cases ho2:ops[e]? with
   |none=>
    have h3:ops.size<=e:=Array.getElem?_eq_none_iff.1 ho2;have h4:=(Array.getElem?_eq_some_iff.1 e2).1;omega
   |some o2=>exact ha e o2 q2 ho2 (hc e o2 ho2 (he e h1)) j h2
  rw[Yn,YA q2]at h2;simp at h2
theorem m9{ops:Array Oper}{D:Nat->Prop}(hc:∀i o,ops[i]?=some o->D i->∀e∈eh o,D e){i:Nat}{o:Oper}(ho:ops[i]?=some o)(he:∀e∈eh o,D e){j:Nat}(hj:((cJ ops).getD i 0).testBit j=true):D j:=
 ph hc ops.toList [] (fun j=>by simp) (fun i o h=>by simp at h) i o ho (by simpa using(Array.getElem?_eq_some_iff.1 ho).1) he j hj
theorem yP{ms:List Nat}{i n:Nat}:∀{l:List bJ} {j0 d:Nat} {r:bJ},l[d]?=some r->i≠j0+d->eG ms i (j0+d)=false->n∈io r->n∈dJ ms i l j0
 |[],j0,d,r,h,_,_,_=>by simp at h
 |x::l,j0,0,r,h,h1,h2,h3=>by
  simp at h;subst h;unfold dJ;have e1:Nat.beq i j0=false:=by cases e:Nat.beq i j0 with|false=>rfl|true=>exact absurd (Yp e) (by simpa using h1)
  rw[e1,show eG ms i j0=false by simpa using h2];exact Zu _ h3
 |x::l,j0,d+1,r,h,h1,h2,h3=>by
  have h1':i≠j0+1+d:=fun e=>h1 (by omega)
  have:=yP (ms:=ms) (n:=n) (j0:=j0+1) (l:=l) (d:=d) (r:=r) (by simpa using h) h1' (by rw[show j0+1+d=j0+(d+1) by omega];exact h2) h3;unfold dJ;cases Nat.beq i j0||eG ms i j0
  ·exact Zp _ this
  exact this
theorem zh{ms:List Nat}{i n:Nat}:∀{l:List bJ} {j0 d:Nat} {r:bJ},l[d]?=some r->i≠j0+d->eG ms i (j0+d)=false->n∈io r->(j0+d,r)∈jX ms i l j0
 |[],j0,d,r,h,_,_,_=>by simp at h
 |x::l,j0,0,r,h,h1,h2,h3=>by
  simp at h;subst h;unfold jX;have e1:Nat.beq i j0=false:=by cases e:Nat.beq i j0 with|false=>rfl|true=>exact absurd (Yp e) (by simpa using h1)
  have e2:(io x).isEmpty=false:=by cases e:io x with|nil=>rw[e]at h3;cases h3|cons _ _=>rfl
  rw[e1,show eG ms i j0=false by simpa using h2,e2];exact Yw
 |x::l,j0,d+1,r,h,h1,h2,h3=>by
  have h1':i≠j0+1+d:=fun e=>h1 (by omega)
  have:=zh (ms:=ms) (n:=n) (j0:=j0+1) (l:=l) (d:=d) (r:=r) (by simpa using h) h1' (by rw[show j0+1+d=j0+(d+1) by omega];exact h2) h3;rw[show j0+1+d=j0+(d+1) by omega]at this;unfold jX;cases Nat.beq i j0||eG ms i j0||(io x).isEmpty
  ·exact YH _ this
  exact this
theorem uL{ms:List Nat}{i:Nat}:∀{l:List bJ} {j0 j:Nat} {r:bJ},(j,r)∈jX ms i l j0->∃d,j=j0+d/\l[d]?=some r/\i≠j/\eG ms i j=false
 |[],j0,j,r,h=>by cases h
 |x::l,j0,j,r,h=>by
  unfold jX at h;cases e:(Nat.beq i j0||eG ms i j0||(io x).isEmpty)with
  |true=>
   rw[e]at h;obtain⟨d,h1,h2,h3⟩:=uL (l:=l) h;exact⟨d+1,by omega,by simpa using h2,h3⟩
  |false=>
   rw[e]at h;rcases List.mem_cons.1 h with h|h
   ·cases h;simp only[Bool.or_eq_false_iff]at e;exact⟨0,rfl,rfl,Nat.ne_of_beq_eq_false e.1.1,e.1.2⟩
   obtain⟨d,h1,h2,h3⟩:=uL (l:=l) h;exact⟨d+1,by omega,by simpa using h2,h3⟩
def fp(W W':XW):List Nat:=(W'.log.take (W'.nlog-W.nlog)).filter fun n=>Nat.blt n W.next
theorem bu.mods{W W':XW}(h:bu W W'):∃l,W'.log=l++W.log/\W'.nlog=W.nlog+l.length/\W'.log.take (W'.nlog-W.nlog)=l:=by
 obtain⟨l,h1,h2,_⟩:=h.log;exact⟨l,h1,h2,by rw[h1,h2,Zh,List.take_left]⟩
theorem bu.same{W W':XW}(h:bu W W'){n:Nat}(hn:n∉fp W W')(hr:¬(W.next<=n/\n<W'.next)):W'.get n=W.get n:=by
 obtain⟨l,h1,h2,h3⟩:=h.log;obtain⟨l',k1,k2,k3⟩:=h.mods;have e:l'=l:=List.append_cancel_right (k1.symm.trans h1);subst e;rcases Yz n W.next with q|q
 ·refine h3 n (fun e=>hn ?_) q;unfold fp;rw[k3,List.mem_filter];exact⟨e,lj q⟩
 rw[XW.get_ge q,XW.get_ge (by have:=h.next;omega)]
theorem AF{W W':XW}{n:Nat}(h:n∈fp W W'):n<W.next:=nB.1 (List.mem_filter.1 h).2
section
variable {P:Program} {R:XK} {N:Nat} {rd:Option Nat} {ops:Array Oper}
theorem D1{s s':XS}{o:Oper}(h:nW P R N rd ops s o=some (.on s')):∃v,cO N s.fr o.dst v=some s'.fr/\(s'.ds.length=s.ds.length->s'.ds=s.ds):=by
 have key:∀{W:XW} {ds:List b9} {v:Option Value},(ds=s.ds\/ds.length=s.ds.length+1)->jL W ds (cO N s.fr o.dst v)=some (.on s')->∃v,cO N s.fr o.dst v=some s'.fr/\(s'.ds.length=s.ds.length->s'.ds=s.ds):=by
  intro W ds v hd hq;obtain⟨h1,rfl,rfl⟩:=ry hq;refine⟨v,h1,fun e=>?_⟩;rcases hd with hd|hd
  ·exact hd
  omega
 unfold nW oF at h;split at h
 ·unfold la at h;split at h
  ·exact key (.inl rfl) h
  ·exact key (.inl rfl) h
  ·exact key (.inl rfl) h
  ·cases h
  ·unfold Ea at h;split at h
   ·exact key (.inr rfl) h
   cases h
  ·unfold ne at h;split at h
   ·exact key (.inl rfl) h
   ·cases h
   cases h
  ·rename_i lp args;unfold pz at h;split at h
   ·unfold oV at h;split at h
    ·unfold oX at h;split at h
     ·unfold oR at h;split at h
      ·unfold oU at h;split at h
       ·unfold om at h;split at h
        ·exact key (.inl rfl) h
        cases h
       cases h
      cases h
     cases h
    cases h
   cases h
  cases h
 ·exact key (.inl rfl) h
 cases h
theorem MZ{fr fr':XF}{d:Option Tmp}{v:Option Value}{t:Tmp}(h:cO N fr d v=some fr')(ht:d≠some t):fr'.get t=fr.get t:=by
 unfold cO at h;split at h
 ·cases h;rfl
 rename_i u;cases hb:Nat.blt u N<;>rw[hb]at h<;>cases h;exact PT.get_set_ne _ _ _ _ fun e=>ht (by rw[e])
theorem s9{fr fr':XF}{t:Tmp}{v:Option Value}(h:cO N fr (some t) v=some fr'):fr'.get t=if fr.room t=true then v else none:=by
 simp only[cO]at h;cases hb:Nat.blt t N<;>rw[hb]at h<;>cases h;exact PT.get_set_room _ _ _
theorem vN{fr fr' f:XF}{d:Option Tmp}{v:Option Value}(h:cO N fr d v=some fr'):∃f',cO N f d v=some f':=by
 unfold cO at h ⊢;split at h
 ·exact⟨_,rfl⟩
 rename_i u;cases hb:Nat.blt u N<;>rw[hb]at h<;>cases h;exact⟨_,rfl⟩
theorem tQ:∀(l:List Oper) (s:XS) (rs:List bJ) (s':XS),aW P R N rd ops l s=some (rs,s')->∃σ:Nat->XS,σ 0=s/\σ l.length=s'/\rs.length=l.length /\
 ∀i o,l[i]?=some o->nW P R N rd ops (σ i) o=some (.on (σ (i+1)))/\rs[i]?=some ⟨o,σ i,σ (i+1)⟩
 |[],s,rs,s',h=>by cases h;exact⟨fun _=>s,rfl,rfl,rfl,fun i o h=>by simp at h⟩
 |x::l,s,rs,s',h=>by
  unfold aW iH at h;split at h
  ·rename_i s1 hq;unfold dI at h;split at h
   ·rename_i l1 t hq2;cases h;obtain⟨σ,h1,h2,h3,h4⟩:=tQ l s1 l1 _ hq2;refine⟨fun i=>match i with|0=>s|i+1=>σ i,rfl,h2,by simp[h3],fun i o ho=>?_⟩;cases i with
    |zero=>
     simp at ho;subst ho;simp only[h1];exact⟨hq,rfl⟩
    |succ i=>simpa using h4 i o (by simpa using ho)
   cases h
  cases h
theorem qK{o:Oper}{e:Nat}:e∈eh o↔∃x∈o.after,Region.binds .any x=true/\x.on=e:=by
 unfold eh;simp only[List.mem_map,List.mem_filter,Array.mem_toList_iff];exact⟨fun⟨x,⟨h1,h2⟩,h3⟩=>⟨x,h1,h2,h3⟩,fun⟨x,h1,h2,h3⟩=>⟨x,⟨h1,h2⟩,h3⟩⟩
theorem sN:∀(fuel k:Nat) (listed:Array Bool),listed.size=ops.size->(∀j,j<ops.size->listed[j]?=some (decide (j<k)))->fuel+k=ops.size->Region.lexFrom .any ops fuel k listed=true ->
 ∀i o,k<=i->ops[i]?=some o->(∀e∈eh o,e<i)/\∀j oj,ops[j]?=some oj->i<j->i∈eh oj\/o.apart ops oj=true
 |0,k,listed,hs,hl,hf,h,i,o,hi,ho=>by
  have:=(Array.getElem?_eq_some_iff.1 ho).1;omega
 |fuel+1,k,listed,hs,hl,hf,h,i,o,hi,ho=>by
  unfold Region.lexFrom at h;simp only[Yr]at h;obtain⟨⟨h1,h2⟩,h3⟩:=h;by_cases hik:i=k
  ·subst hik;obtain⟨hr0,o',ho',hr⟩:=mem_ready.1 (by simpa using h1);rw[ho]at ho';cases ho';refine⟨fun e he=>?_,fun j oj hj hij=>?_⟩
   ·obtain⟨x,q1,q2,rfl⟩:=qK.1 he;have:=hr x q1 q2;rw[YK]at this;rcases Yz x.on ops.size with q|q
    ·rw[hl _ q]at this;simpa using this
    rw[Array.getElem?_eq_none (by omega)]at this;simp at this
   by_cases hm:i∈eh oj
   ·exact .inl hm
   refine .inr (Region.free_spec ho h2 j oj hj (by omega) ?_ fun e he hb heq=>hm (qK.2 ⟨e,he,hb,heq⟩));have hjs:=(Array.getElem?_eq_some_iff.1 hj).1;rw[YK,hl _ hjs];simp;omega
  refine sN fuel (k+1) _ (by simpa using hs) (fun j hj=>?_) (by omega) h3 i o (by omega) ho;by_cases hjk:k=j
  ·subst hjk;rw[Array.getElem?_setIfInBounds_self_of_lt (by omega)];simp
  rw[Y0 hjk,hl j hj];congr 1;rw[decide_eq_decide];omega
end
structure iP(P:Program)(R:XK)(N:Nat)(rd:Option Nat)(ops:Array Oper)(J:Nat->Bool)(σ:Nat->XS)(rs:List bJ):Prop where
 step:∀i o,ops[i]?=some o->(J i=false->nW P R N rd ops (σ i) o=some (.on (σ (i+1))))/\rs[i]?=some ⟨o,σ i,σ (i+1)⟩
 put:∀i o,ops[i]?=some o->∃v,cO N (σ i).fr o.dst v=some (σ (i+1)).fr
 ext:∀i,i<ops.size->bu (σ i).W (σ (i+1)).W
 lex:∀i o,ops[i]?=some o->∀e∈eh o,e<i
 apart:∀i j oi oj,ops[i]?=some oi->ops[j]?=some oj->i<j->i∈eh oj\/oi.apart ops oj=true
 cond:∀i o,ops[i]?=some o->J i=false->ia ops (σ i).fr o=some true->dJ (cJ ops) i rs 0=[]\/ox P ⟨o,σ i,σ (i+1)⟩ i (dJ (cJ ops) i rs 0) (jX (cJ ops) i rs 0) (some true)=true
 ds:∀i,i<=ops.size->(σ i).ds=(σ 0).ds
 len:rs.length=ops.size
section
variable {P:Program} {R:XK} {N:Nat} {rd:Option Nat} {ops:Array Oper} {rs:List bJ}
theorem uo{ms:List Nat}:∀(l:List bJ) (i0 d:Nat) (r:bJ),ji P ops ms rs l i0=true->l[d]?=some r->ox P r (i0+d) (dJ ms (i0+d) rs 0) (jX ms (i0+d) rs 0) (ia ops r.s.fr r.o)=true
 |[],i0,d,r,h,hr=>by simp at hr
 |x::l,i0,0,r,h,hr=>by
  simp at hr;subst hr;unfold ji at h;simp only[Yr]at h;exact h.1
 |x::l,i0,d+1,r,h,hr=>by
  unfold ji at h;simp only[Yr]at h;have:=uo l (i0+1) d r h.2 (by simpa using hr);rwa [show i0+1+d=i0+(d+1) by omega]at this
theorem uh{ms:List Nat}{i:Nat}:∀{l:List bJ} {j:Nat},Ar l=true->dJ ms i l j=[]
 |[],j,h=>rfl
 |x::l,j,h=>by
  unfold Ar at h;simp only[List.all_cons,Yr]at h;unfold dJ;have e:io x=[]:=by simpa using h.1
  have ih:=uh (ms:=ms) (i:=i) (l:=l) (j:=j+1) h.2;cases(Nat.beq i j||eG ms i j)<;>simp[ih,e]
theorem tP:∀(l:List bJ) (n d:Nat) (r:bJ),jo l n=true->l[d]?=some r->r.s'.ds.length=n
 |[],n,d,r,h,hr=>by simp at hr
 |x::l,n,0,r,h,hr=>by
  simp at hr;subst hr;unfold jo at h;simp only[Yr]at h;exact Yp h.1
 |x::l,n,d+1,r,h,hr=>by
  unfold jo at h;simp only[Yr]at h;exact tP l n d r h.2 (by simpa using hr)
theorem Q6(hR:fY R){s s':XS}(h:aW P R N rd ops ops.toList s=some (rs,s'))(hk:jJ P ops s.ds.length rs=true):∃σ,σ 0=s/\σ ops.size=s'/\iP P R N rd ops (fun _=>false) σ rs:=by
 obtain⟨σ,h1,h2,h3,h4⟩:=tQ _ _ _ _ h;have h4:∀i o,ops[i]?=some o->nW P R N rd ops (σ i) o=some (.on (σ (i+1)))/\rs[i]?=some ⟨o,σ i,σ (i+1)⟩:=fun i o ho=>h4 i o (by simpa using ho)
 unfold jJ at hk;simp only[Yr,YR]at hk;obtain⟨⟨k1,k2⟩,k3⟩:=hk;unfold Region.lexB at k1;simp only[Yr]at k1;have lx:=sN ops.size 0 _ (by simp) (fun j hj=>by simp[hj]) (by omega) k1.2;refine⟨σ,h1,by simpa using h2,⟨fun i o ho=>⟨fun _=>(h4 i o ho).1,(h4 i o ho).2⟩,fun i o ho=>(D1 (h4 i o ho).1).imp fun v hv=>hv.1,fun i hi=>?_,fun i o ho=>(lx i o (Yq _) ho).1,fun i j oi oj hi hj hij=>(lx i oi (Yq _) hi).2 j oj hj hij,fun i o ho _ hw=>?_,fun i hi=>?_,by simpa using h3⟩⟩
 ·exact po hR (h4 i _ (YS hi)).1
 ·rcases k3 with k3|k3
  ·exact .inl (uh k3)
  right;have:=uo rs 0 i _ k3 (h4 i o ho).2;simp only[Nat.zero_add,hw]at this;exact this
 induction i with
 |zero=>rfl
 |succ i ih=>
  have ih:=ih (by omega);obtain⟨g1,g2⟩:=h4 i _ (YS (show i<ops.size by omega));obtain⟨v,_,g3⟩:=D1 g1;have g4:=tP _ _ _ _ k2 g2;rw[g3 (by rw[ih,h1];exact g4),ih]
end
def kC(σ:Nat->XS)(j n:Nat):Prop:=n∈fp (σ j).W (σ (j+1)).W\/((σ j).W.next<=n/\n<(σ (j+1)).W.next)
def Wr(ops:Array Oper)(j:Nat)(t:Tmp):Prop:=∃o,ops[j]?=some o/\o.dst=some t
noncomputable def VD(ops:Array Oper)(σ:Nat->XS)(D:Nat->Prop):GH:=fun n=>(σ (pick (fun j=>D j/\kC σ j n) ops.size)).W.get n
noncomputable def TD(ops:Array Oper)(σ:Nat->XS)(D:Nat->Prop)(t:Tmp):Option Value:=(σ (pick (fun j=>D j/\Wr ops j t) ops.size)).fr.get t
def Gf(ops:Array Oper)(D:Nat->Prop):Prop:=∀j o,ops[j]?=some o->D j->∀e∈eh o,D e
structure pg(P:Program)(N:Nat)(ops:Array Oper)(σ:Nat->XS)(ρ0:Ren)(w0:World)(D:Nat->Prop)(ρ:Ren)(a:Act)(w:World):Prop where
 hr:HR P ρ (VD ops σ D) w
 le:ρ0.le ρ
 keeps:ai (eX ρ0 (σ 0).W.get) w0 w
 img:∀b,eX ρ (VD ops σ D) b->eX ρ0 (σ 0).W.get b\/w0.heap.size<=b
 dom:∀n,ρ n≠none->ρ0 n≠none\/∃j,D j/\j<ops.size/\(σ j).W.next<=n/\n<(σ (j+1)).W.next
 sz:a.tmps.size=N
 tm:∀t v,TD ops σ D t=some v->VR ρ v (a.tmps.getD t undef)
 ds:gl ρ (σ 0).ds a.defers
 fzn:∀b o,ρ.fz b=some o->ρ0.fz b=some o\/eX ρ0 (σ 0).W.get b\/w0.heap.size<=b
section
variable {P:Program} {R:XK} {N:Nat} {rd rb:Option Nat} {ops:Array Oper} {rs:List bJ} {J:Nat->Bool} {σ:Nat->XS}
theorem Ll{i:Nat}{o:Oper}(h:ops[i]?=some o):i<ops.size:=(Array.getElem?_eq_some_iff.1 h).1
theorem pW{j:Nat}(h:j<ops.size):∃o,ops[j]?=some o:=⟨_,YS h⟩
theorem iP.nx(h:iP P R N rd ops J σ rs){i:Nat}:∀{j:Nat},i<=j->j<=ops.size->(σ i).W.next<=(σ j).W.next
 |0,hij,_=>by rw[Nat.le_zero.1 hij];exact Nat.le_refl _
 |j+1,hij,hj=>by
  rcases Yz i (j+1)with q|q
  ·exact Nat.le_trans (h.nx (j:=j) (by omega) (by omega)) (h.ext j (by omega)).next
  have:i=j+1:=by omega
  rw[this];exact Nat.le_refl _
theorem iP.stW(h:iP P R N rd ops J σ rs){j n:Nat}(hj:j<ops.size)(hn:¬kC σ j n):(σ (j+1)).W.get n=(σ j).W.get n:=
 (h.ext j hj).same (fun e=>hn (.inl e)) (fun e=>hn (.inr e))
theorem iP.stT(h:iP P R N rd ops J σ rs){j:Nat}{t:Tmp}(hj:j<ops.size)(hn:¬Wr ops j t):(σ (j+1)).fr.get t=(σ j).fr.get t:=by
 obtain⟨o,ho⟩:=pW hj;obtain⟨v,h1⟩:=h.put j o ho;exact MZ h1 fun e=>hn ⟨o,ho,e⟩
theorem iP.born(h:iP P R N rd ops J σ rs){i j n:Nat}(hi:i<ops.size)(hj:j<ops.size)(h1:(σ i).W.next<=n)(h2:n<(σ (i+1)).W.next)(h3:(σ j).W.next<=n)(h4:n<(σ (j+1)).W.next):i=j:=by
 rcases ZE i j with q|q|q
 ·have:=h.nx (i:=i+1) (j:=j) q (by omega);omega
 ·exact q
 have:=h.nx (i:=j+1) (j:=i) q (by omega);omega
structure oM(ops:Array Oper)(D:Nat->Prop)(i:Nat)(o:Oper):Prop where
 op:ops[i]?=some o
 un:¬D i
 after:∀e∈eh o,D e
 closed:Gf ops D
variable {D:Nat->Prop} {i:Nat} {o:Oper}
theorem oM.lt(hr:oM ops D i o):i<ops.size:=Ll hr.op
theorem zP(h:iP P R N rd ops J σ rs)(hr:oM ops D i o){j:Nat}(hj:j<ops.size)(ho:eG (cJ ops) i j=true)(hD:D j):j<i:=by
 obtain⟨oj,hoj⟩:=pW hj;unfold eG at ho;rcases YR _ _▸ho with q|q
 ·exact absurd (m9 hr.closed hoj (hr.closed j oj hoj hD) q) hr.un
 exact m9 (D:=fun x=>x<i) (fun i' o' h1 h2 e he=>Nat.lt_trans (h.lex i' o' h1 e he) h2) hr.op (h.lex i o hr.op) q
theorem Gz(h:iP P R N rd ops J σ rs)(hr:oM ops D i o){j:Nat}(hj:j<i)(ho:eG (cJ ops) i j=true):D j:=by
 have hi:=hr.lt;obtain⟨oj,hoj⟩:=pW (show j<ops.size by omega);unfold eG at ho;rcases YR _ _▸ho with q|q
 ·have:=m9 (D:=fun x=>x<j) (fun i' o' h1 h2 e he=>Nat.lt_trans (h.lex i' o' h1 e he) h2) hoj (h.lex j oj hoj) q;omega
 exact m9 hr.closed hr.op hr.after q
section
variable {ρ0 ρ:Ren} {w0 w:World} {a:Act}
theorem pg.alloc(hI:pg P N ops σ ρ0 w0 D ρ a w)(h:iP P R N rd ops J σ rs)(hfr:cw ρ0 (σ 0).W.next (σ ops.size).W.next){j n:Nat}(hj:j<ops.size)(hn:ρ n≠none)(h1:(σ j).W.next<=n)(h2:n<(σ (j+1)).W.next):D j:=by
 rcases hI.dom n hn with q|⟨j',q1,q2,q3,q4⟩
 ·have k1:=h.nx (i:=0) (j:=j) (Yq _) (by omega);have k2:=h.nx (i:=j+1) (j:=ops.size) hj (Nat.le_refl _);exact absurd (hfr n (by omega) (by omega)) q
 rw[h.born hj q2 h1 h2 q3 q4];exact q1
theorem Gc(hI:pg P N ops σ ρ0 w0 D ρ a w)(h:iP P R N rd ops J σ rs)(hfr:cw ρ0 (σ 0).W.next (σ ops.size).W.next)(hr:oM ops D i o){n:Nat}(hn:ρ n≠none)(hlt:n<(σ i).W.next)
 (hu:∀j,j<ops.size->j≠i->eG (cJ ops) i j=false->n∈fp (σ j).W (σ (j+1)).W->(D j↔j<i)):VD ops σ D n=(σ i).W.get n:=by
 have hi:=hr.lt;refine py (f:=fun j=>(σ j).W.get n) (τ:=fun j=>kC σ j n) (by omega) (fun j hj ht=>h.stW hj ht) fun j hj=>⟨fun⟨h1,h2⟩=>⟨?_,h2⟩,fun⟨h1,h2⟩=>⟨?_,h2⟩⟩
 ·rcases h2 with h2|⟨h2,h3⟩
  ·cases q:eG (cJ ops) i j with
   |true=>exact zP h hr hj q h1
   |false=>exact(hu j hj (fun e=>hr.un (e▸h1)) q h2).1 h1
  rcases Yz j i with q|q
  ·exact q
  have:=h.nx (i:=i) (j:=j) q (by omega);omega
 rcases h2 with h2|⟨h2,h3⟩
 ·cases q:eG (cJ ops) i j with
  |true=>exact Gz h hr h1 q
  |false=>exact(hu j hj (by omega) q h2).2 h1
 exact hI.alloc h hfr hj hn h2 h3
theorem Fv(h:iP P R N rd ops J σ rs)(hr:oM ops D i o){n:Nat}(ht:kC σ i n)(hu:∀j,j<ops.size->j≠i->eG (cJ ops) i j=false->n∉fp (σ j).W (σ (j+1)).W) :
 VD ops σ (fun j=>D j\/j=i) n=(σ (i+1)).W.get n:=by
 have hi:=hr.lt;have key:∀j,j<ops.size->(D j\/j=i)/\kC σ j n->j<=i:=?_
 ·unfold VD;rw[sm (p:=fun j=>(D j\/j=i)/\kC σ j n) hi ⟨.inr rfl,ht⟩ key]
 intro j hj ⟨h1,h2⟩;by_cases hji:j=i
 ·omega
 have hD:D j:=h1.resolve_right hji;rcases h2 with h2|⟨h2,h3⟩
 ·cases q:eG (cJ ops) i j with
  |true=>have:=zP h hr hj q hD;omega
  |false=>exact absurd h2 (hu j hj hji q)
 rcases ht with ht|⟨h4,h5⟩
 ·have:=AF ht;rcases Yz j i with q|q
  ·omega
  have:=h.nx (i:=i) (j:=j) q (by omega);omega
 exact absurd (h.born hj hi h2 h3 h4 h5) hji
theorem zK{n:Nat}(ht:¬kC σ i n):VD ops σ (fun j=>D j\/j=i) n=VD ops σ D n:=by
 unfold VD;rw[nc (p:=fun j=>(D j\/j=i)/\kC σ j n) (q:=fun j=>D j/\kC σ j n) fun j hj=>⟨fun⟨h1,h2⟩=>⟨h1.resolve_right fun e=>ht (e▸h2),h2⟩,fun⟨h1,h2⟩=>⟨.inl h1,h2⟩⟩]
theorem XH(h:iP P R N rd ops J σ rs)(hr:oM ops D i o){t:Tmp}(ht:t∈o.looksAt ops\/∀j,¬Wr ops j t):TD ops σ D t=(σ i).fr.get t:=by
 have hi:=hr.lt;refine py (f:=fun j=>(σ j).fr.get t) (τ:=fun j=>Wr ops j t) (by omega) (fun j hj ht=>h.stT hj ht) fun j hj=>⟨fun⟨h1,h2⟩=>⟨?_,h2⟩,fun⟨h1,h2⟩=>⟨?_,h2⟩⟩
 ·rcases ht with ht|ht
  ·obtain⟨oj,hoj,hd⟩:=h2;rcases ZE j i with q|q|q
   ·exact q
   ·exact absurd (q▸h1) hr.un
   rcases h.apart i j o oj hr.op hoj q with k|k
   ·exact absurd (hr.closed j oj hoj h1 i k) hr.un
   exact absurd ht ((Oper.apart_spec k).2.2 t hd)
  exact absurd h2 (ht j)
 rcases ht with ht|ht
 ·obtain⟨oj,hoj,hd⟩:=h2;rcases h.apart j i oj o hoj hr.op h1 with k|k
  ·exact hr.after j k
  exact absurd ht ((Oper.apart_spec k).1 t hd)
 exact absurd h2 (ht j)
theorem Mr(h:iP P R N rd ops J σ rs)(hr:oM ops D i o){t:Tmp}(hd:o.dst=some t):TD ops σ (fun j=>D j\/j=i) t=(σ (i+1)).fr.get t:=by
 have hi:=hr.lt;have key:∀j,j<ops.size->(D j\/j=i)/\Wr ops j t->j<=i:=?_
 ·unfold TD;rw[sm (p:=fun j=>(D j\/j=i)/\Wr ops j t) hi ⟨.inr rfl,o,hr.op,hd⟩ key]
 intro j hj ⟨h1,h2⟩;obtain⟨oj,hoj,hdj⟩:=h2;rcases h1 with h1|h1
 ·rcases Yz i j with q|q
  ·rcases h.apart i j o oj hr.op hoj q with k|k
   ·exact absurd (hr.closed j oj hoj h1 i k) hr.un
   exact absurd hdj ((Oper.apart_spec k).2.1 t hd)
  exact q
 omega
theorem Mf{t:Tmp}(hr:oM ops D i o)(hd:o.dst≠some t):TD ops σ (fun j=>D j\/j=i) t=TD ops σ D t:=by
 have key:∀j,j<ops.size->((D j\/j=i)/\Wr ops j t↔D j/\Wr ops j t):=fun j hj=>⟨fun⟨h1,h2⟩=>⟨h1.resolve_right fun e=>?_,h2⟩,fun⟨h1,h2⟩=>⟨.inl h1,h2⟩⟩
 ·unfold TD;rw[nc key]
 subst e;obtain⟨oj,hoj,hdj⟩:=h2;rw[hr.op]at hoj;cases hoj;exact hd hdj
def mg(ops:Array Oper)(o:Oper):List Tmp:=(ops.toList.filterMap (·.dst)).filter fun t=>!(o.looksAt ops).contains t
theorem vG(hI:pg P N ops σ ρ0 w0 D ρ a w)(h:iP P R N rd ops J σ rs)(hr:oM ops D i o):FR ρ N (drop (σ i).fr (mg ops o)) a.tmps:=by
 refine⟨hI.sz,fun t v ht=>?_⟩;obtain⟨h1,h2⟩:=Aw _ _ _ _ ht;refine hI.tm t v ?_;rw[XH h hr ?_]
 ·exact h2
 by_cases hl:t∈o.looksAt ops
 ·exact .inl hl
 refine .inr fun j ⟨oj,hoj,hd⟩=>h1 ?_
 unfold mg;rw[List.mem_filter,List.mem_filterMap];exact⟨⟨oj,Array.mem_toList_iff.2 (Array.mem_of_getElem? hoj),hd⟩,by simpa using hl⟩
theorem ua{f:XF}{t:Tmp}(ht:t∈o.looksAt ops):(drop f (mg ops o)).get t=f.get t:=
 vy _ _ _ fun e=>by
  unfold mg at e;have:=(List.mem_filter.1 e).2;simp[ht]at this
theorem La{f:XF}:∀x∈o.op.operands,ev (drop f (mg ops o)) x=ev f x:=fun x hx=>by
 cases x with
 |tmp t=>exact ua (Zu _ (List.mem_filterMap.2 ⟨.tmp t,by simpa using hx,rfl⟩))
 |_=>rfl
theorem vE{f:XF}:ia ops (drop f (mg ops o)) o=ia ops f o:=by
 unfold ia;cases hg:o.guard with
 |none=>rfl
 |some jw=>
  obtain⟨j,b⟩:=jw;simp only;cases ht:(ops[j]?).bind (·.dst)with
  |none=>rfl
  |some t=>
   simp only;rw[ua (Zp _ (by simp[hg,ht]))]
theorem ze{d:Option Tmp}{u:Value}{t:Tmp}(h:d≠some t):(a.put d u).tmps.getD t undef=a.tmps.getD t undef:=by
 cases d with
 |none=>rfl
 |some s=>
  simp only[Act.put,YK];rw[Y0 fun e=>h (by rw[e])]
end
end
theorem wD(W:XW):fp W W=[]:=by unfold fp;rw[Nat.sub_self];rfl
theorem Fy(W:XW)(o:ag):fp W (W.push o)=[]:=by
 unfold fp;show((W.log.take (W.nlog-W.nlog)).filter _)=[];rw[Nat.sub_self];rfl
theorem nO:∀(l:List Nat) (W:XW),(dv W l).next=W.next
 |[],W=>rfl
 |n::l,W=>nO l (W.put n none)
theorem rk:∀(l:List Nat) (W:XW) (n:Nat),(dv W l).heap.room n=W.heap.room n
 |[],W,n=>rfl
 |m::l,W,n=>by
  show(dv (W.put m none) l).heap.room n=_;rw[rk l];exact PT.room_set _ _ _ _
theorem yN(W:XW)(o:ag):(W.push o).get W.next=if W.heap.room W.next=true then some o else none:=by
 rw[XW.get_lt (W:=W.push o) (YJ _)];exact PT.get_set_room _ _ _
theorem sJ(V:XW):∀(l:List Nat) (W:XW),(xK W V l).next=W.next
 |[],W=>rfl
 |n::l,W=>sJ V l (W.put n (V.get n))
theorem Ai(V:XW):∀(l:List Nat) (W:XW) (n:Nat) (o:ag),(xK W V l).get n=some o->(n∈l/\V.get n=some o)\/(n∉l/\W.get n=some o)
 |[],W,n,o,h=>.inr ⟨by simp,h⟩
 |m::l,W,n,o,h=>by
  rcases Ai V l (W.put m (V.get m)) n o h with⟨h1,h2⟩|⟨h1,h2⟩
  ·exact .inl ⟨YH _ h1,h2⟩
  rcases XW.get_put h2 with⟨rfl,q⟩|⟨q1,q2⟩
  ·exact .inl ⟨Yw,q⟩
  exact .inr ⟨by simp[q1,h1],q2⟩
theorem aM{W:XW}{n:Nat}{o:ag}(h:W.get n=some o):n<W.next:=by
 rcases Yz n W.next with q|q
 ·exact q
 rw[XW.get_ge q]at h;cases h
theorem Bc{A B C E:XW}(h1:bu A B)(h2:bu B C)(h3:bu C E){n:Nat}(hn:n∈fp B C):n∈E.log.take (E.nlog-A.nlog):=by
 obtain⟨l1,a1,a2,_⟩:=h1.mods;obtain⟨l2,b1,b2,b3⟩:=h2.mods;obtain⟨l3,c1,c2,_⟩:=h3.mods;have hn:n∈l2:=by unfold fp at hn;rw[b3]at hn;exact(List.mem_filter.1 hn).1
 have e1:E.log=(l3++(l2++l1))++A.log:=by rw[c1,b1,a1];simp
 have e2:E.nlog-A.nlog=(l3++(l2++l1)).length:=by rw[c2,b2,a2];simp;omega
 rw[e1,e2,List.take_left];simp[hn]
section
variable {P:Program} {R:XK} {N:Nat} {rd rb:Option Nat} {ops:Array Oper} {rs:List bJ} {J:Nat->Bool} {σ:Nat->XS} {D:Nat->Prop} {i:Nat} {o:Oper} {ρ0 ρ:Ren} {w0 w:World} {a:Act} {m:Nat} {K:Act->World->Prop} {Q:Exit->Act->World->Prop}
theorem iP.extc(h:iP P R N rd ops J σ rs){i:Nat}:∀{j:Nat},i<=j->j<=ops.size->bu (σ i).W (σ j).W
 |0,hij,_=>by rw[Nat.le_zero.1 hij];exact .refl _
 |j+1,hij,hj=>by
  rcases Yz i (j+1)with q|q
  ·exact(h.extc (j:=j) (by omega) (by omega)).trans (h.ext j (by omega))
  have:i=j+1:=by omega
  rw[this];exact .refl _
theorem KV(hR:fY R)(hC:ja P R)(hF:nY P R)(hI:pg P N ops σ ρ0 w0 D ρ a w)(h:iP P R N rd ops J σ rs)(hfr:cw ρ0 (σ 0).W.next (σ ops.size).W.next)(hr:oM ops D i o)(hrd:iY ρ rd rb){Wx Wx':XW}{x:XR}
 (hx:bU P (σ i).fr Wx o.type o.op=some x) (hk:la R N rd ⟨(σ i).fr,Wx,(σ i).ds⟩ o.dst (some x)=some (.on ⟨(σ (i+1)).fr,Wx',(σ (i+1)).ds⟩))
 (hn:Wx.next=(σ i).W.next) (hn':Wx'.next=(σ (i+1)).W.next) (hsub:∀n ob,ρ n≠none->Wx.get n=some ob->VD ops σ D n=some ob)
 (hV':∀n ob,ρ n≠none\/((σ i).W.next<=n/\n<(σ (i+1)).W.next)->VD ops σ (fun j=>D j\/j=i) n=some ob->Wx'.get n=some ob\/(ρ n≠none/\VD ops σ D n=some ob/\Wx.get n=none/\Wx'.get n=none))
 (hK:∀ρ' a' w',pg P N ops σ ρ0 w0 (fun j=>D j\/j=i) ρ' a' w'->K a' w'):o.wpIn (FW rb) m P a w K Q:=by
 have hi:=hr.lt;have up:∀n i',ρ n=some i'->Wx.get n≠none->VD ops σ D n≠none:=fun n i' k1 k2=>by
  cases e:Wx.get n with
  |none=>exact absurd e k2
  |some ob=>rw[hsub n ob (by rw[k1];simp) e];simp
 have hlive:HR P ρ Wx.get w:=⟨fun n i' ob h1 h2=>hI.hr.obj n i' ob h1 (hsub n ob (by rw[h1];simp) h2),fun n n' i1 i2 h1 h2 h3 h4 h5=>hI.hr.inj n n' i1 i2 h1 h2 (up n i1 h1 h3) (up n' i2 h2 h4) h5,
  fun b ob e=>⟨(hI.hr.frz b ob e).1,fun⟨n,i',k1,k2,k3⟩=>(hI.hr.frz b ob e).2 ⟨n,i',k1,up n i' k1 k2,k3⟩⟩⟩
 have hd:rd=none\/∀c,o.op≠.defer c:=by
  cases rd with
  |none=>exact .inl rfl
  |some l=>
   refine .inr fun c hc=>?_
   rw[hc]at hx;obtain⟨f,as,cap,rfl⟩:=yz hx;cases hk
 obtain⟨v,b1,b2,b3⟩:=Jh hk;obtain⟨f',hf'⟩:=vN (f:=drop (σ i).fr (mg ops o)) b1;have hk':=b3 _ f' hf';have hx':bU P (drop (σ i).fr (mg ops o)) Wx o.type o.op=some x:=by rw[Ir La];exact hx
 have hfp:=vG hI h hr;have hfr':cw ρ Wx.next Wx'.next:=fun n h1 h2=>by
  cases e:ρ n with
  |none=>rfl
  |some q=>exact absurd (hI.alloc h hfr hi (by rw[e];simp) (by omega) (by omega)) hr.un
 refine Db hR hC hF (s:=⟨drop (σ i).fr (mg ops o),Wx,(σ i).ds⟩) hrd hd (tp hlive hfp.ev hx') hk' hfr' hlive hfp (by rw[h.ds i (by omega)];exact hI.ds) (fun s' hs ρ' a' w' hu ho=>?_) (fun v s' hs=>by cases hs);cases hs;obtain⟨u,hu⟩:=hu;obtain⟨g1,g2,g3,g4⟩:=ho;have g1:bW ρ Wx.get Wx.next w ρ' Wx'.get Wx'.next w':=g1;have g2:HR P ρ' Wx'.get w':=g2;obtain⟨q1,q2⟩:=Xa hI.hr hsub g1 g2 (V':=VD ops σ (fun j=>D j\/j=i)) fun n ob k1 k2=>hV' n ob ((g1.dom n k1).imp id fun⟨e1,e2⟩=>⟨by omega,by omega⟩) k2
 refine hK ρ' a' w' ⟨q1,hI.le.trans q2.le,hI.keeps.trans' q2.keeps (fun b hb e=>(hI.img b e).elim id fun g=>by omega),fun b e=>?_,fun n k=>?_,g3.size,fun t v' ht=>?_,?_,fun b o e=>(q2.fzn b o e).elim (hI.fzn b o) fun q=>.inr (q.elim (hI.img b) fun g=>.inr (Nat.le_trans hI.keeps.size g))⟩
 ·exact(q2.img b e).elim (hI.img b) fun g=>.inr (Nat.le_trans hI.keeps.size g)
 ·rcases g1.dom n k with k|⟨k1,k2⟩
  ·exact(hI.dom n k).imp id fun⟨j,e1,e2⟩=>⟨j,.inl e1,e2⟩
  exact .inr ⟨i,.inr rfl,hi,by omega,by omega⟩
 ·by_cases hdt:o.dst=some t
  ·rw[Mr h hr hdt]at ht;refine g3.rep t v' ?_;show f'.get t=some v';rw[hdt]at b1 hf';rw[s9 hf',rp,<-s9 b1];exact ht
  rw[Mf hr hdt]at ht;rw[hu,ze hdt];exact(hI.tm t v' ht).mono g1.le
 have:(σ (i+1)).ds=(σ 0).ds:=h.ds (i+1) hi;rw[<-this];exact g4
theorem u6(hR:fY R)(hC:ja P R)(hF:nY P R)(hI:pg P N ops σ ρ0 w0 D ρ a w)(h:iP P R N rd ops J σ rs)(hfr:cw ρ0 (σ 0).W.next (σ ops.size).W.next)(hr:oM ops D i o)(hrd:iY ρ rd rb){Wx:XW}{v:Option Value}
 (hx:bU P (σ i).fr Wx o.type o.op=some (.val v)) (hk:la R N rd (σ i) o.dst (some (.val v))=some (.on (σ (i+1)))) (hn:Wx.next=(σ i).W.next) (hsub:∀n ob,ρ n≠none->Wx.get n=some ob->VD ops σ D n=some ob)
 (hK:∀ρ' a' w',pg P N ops σ ρ0 w0 (fun j=>D j\/j=i) ρ' a' w'->K a' w'):o.wpIn (FW rb) m P a w K Q:=by
 obtain⟨h1,h2,h3⟩:=ry (show jL (σ i).W (σ i).ds (cO N (σ i).fr o.dst v)=some (.on (σ (i+1)))from hk);refine KV (Wx:=Wx) (Wx':=Wx) hR hC hF hI h hfr hr hrd hx ?_ hn (by rw[<-h2];exact hn) hsub (fun n ob k1 k2=>?_) hK
 ·show jL Wx (σ i).ds (cO N (σ i).fr o.dst v)=_;rw[h1,h3];rfl
 have nt:¬kC σ i n:=fun e=>by
  unfold kC at e;rw[<-h2,wD]at e;rcases e with e|⟨e1,e2⟩
  ·cases e
  omega
 rw[zK nt]at k2;have k1:ρ n≠none:=k1.resolve_right fun⟨e1,e2⟩=>by rw[<-h2]at e2;omega
 cases e:Wx.get n with
 |none=>exact .inr ⟨k1,k2,rfl,rfl⟩
 |some ob'=>
  have:=hsub n ob' k1 e;rw[k2]at this;cases this;exact .inl rfl
theorem PC(hR:fY R)(hC:ja P R)(hF:nY P R)(hI:pg P N ops σ ρ0 w0 D ρ a w)(h:iP P R N rd ops J σ rs)(hfr:cw ρ0 (σ 0).W.next (σ ops.size).W.next)(hr:oM ops D i o)(hJ:J i=false)(hrd:iY ρ rd rb)
 (hK:∀ρ' a' w',pg P N ops σ ρ0 w0 (fun j=>D j\/j=i) ρ' a' w'->K a' w') :
 if Region.wanted o (yielded ops a.tmps)=true then o.wpIn (FW rb) m P a w K Q else(∀f,o.about P w a.eval=some f->(FW rb).fn f)/\K (a.put o.dst undef) w:=by
 have hi:=hr.lt;have h1:=(h.step i o hr.op).1 hJ;have hfp:=vG hI h hr;unfold nW oF at h1;split at h1
 ·rename_i hw;rw[if_pos (kq hfp (vE.trans hw))];cases hx:bU P (σ i).fr (σ i).W o.type o.op with
  |none=>rw[hx]at h1;cases h1
  |some x=>
   rw[hx]at h1;have inU:∀n j,j<ops.size->j≠i->eG (cJ ops) i j=false->n∈fp (σ j).W (σ (j+1)).W->n∈dJ (cJ ops) i rs 0:=fun n j hj hji ho hm=>by
    obtain⟨oj,hoj⟩:=pW hj;exact yP (d:=j) (h.step j oj hoj).2 (by omega) (by rw[Nat.zero_add];exact ho) hm
   have vat:∀n ob,ρ n≠none->(σ i).W.get n=some ob->n∉dJ (cJ ops) i rs 0->VD ops σ D n=some ob:=fun n ob k1 k2 k3=>by
    rw[Gc hI h hfr hr k1 (aM k2) fun j hj hji ho hm=>absurd (inU n j hj hji ho hm) k3];exact k2
   have plain:(∀n ob,ρ n≠none->(σ i).W.get n=some ob->VD ops σ D n=some ob) ->
    (∀n,kC σ i n->VD ops σ (fun j=>D j\/j=i) n=(σ (i+1)).W.get n)->(∀n ob,ρ n≠none->n<(σ i).W.next->VD ops σ D n=some ob->(σ i).W.get n=some ob)->o.wpIn (FW rb) m P a w K Q:=fun hsub hnew hback=>by
    refine KV (Wx:=(σ i).W) (Wx':=(σ (i+1)).W) hR hC hF hI h hfr hr hrd hx h1 rfl rfl hsub (fun n ob k1 k2=>?_) hK;by_cases ht:kC σ i n
    ·rw[hnew n ht]at k2;exact .inl k2
    rw[zK ht]at k2;have k1:ρ n≠none:=k1.resolve_right fun e=>ht (.inr e)
    rcases Yz n (σ i).W.next with q|q
    ·left;rw[h.stW hi ht];exact hback n ob k1 q k2
    right;have:(σ (i+1)).W.next<=n:=Nat.le_of_not_lt fun e=>ht (.inr ⟨q,e⟩)
    exact⟨k1,k2,XW.get_ge q,XW.get_ge this⟩
   rcases h.cond i o hr.op hJ hw with hU|hU
   ·have nu:∀n j,j<ops.size->j≠i->eG (cJ ops) i j=false->n∉fp (σ j).W (σ (j+1)).W:=fun n j hj hji ho hm=>by
     have:=inU n j hj hji ho hm;rw[hU]at this;cases this
    refine plain (fun n ob k1 k2=>vat n ob k1 k2 (by rw[hU];simp)) (fun n ht=>Fv h hr ht (nu n)) fun n ob k1 k2 k3=>?_
    rw[<-Gc hI h hfr hr k1 k2 fun j hj hji ho hm=>absurd hm (nu n j hj hji ho)];exact k3
   unfold ox at hU;simp only[YR,Yr]at hU;rcases hU with hU|⟨hg,hU⟩
   ·have hU:dJ (cJ ops) i rs 0=[]:=by simpa using hU
    have nu:∀n j,j<ops.size->j≠i->eG (cJ ops) i j=false->n∉fp (σ j).W (σ (j+1)).W:=fun n j hj hji ho hm=>by
     have:=inU n j hj hji ho hm;rw[hU]at this;cases this
    refine plain (fun n ob k1 k2=>vat n ob k1 k2 (by rw[hU];simp)) (fun n ht=>Fv h hr ht (nu n)) fun n ob k1 k2 k3=>?_
    rw[<-Gc hI h hfr hr k1 k2 fun j hj hji ho hm=>absurd hm (nu n j hj hji ho)];exact k3
   rcases hU with⟨hc,hcx⟩|hU
   ·
    have hsub:∀n ob,ρ n≠none->(dv (σ i).W (dJ (cJ ops) i rs 0)).get n=some ob->VD ops σ D n=some ob:=fun n ob k1 k2=>
     vat n ob k1 (mc _ _ n ob k2) fun e=>by rw[um _ _ n e]at k2;cases k2
    cases hy:bU P (σ i).fr (dv (σ i).W (dJ (cJ ops) i rs 0)) o.type o.op with
    |none=>simp only[hy]at hcx;cases hcx
    |some y=>
     have:=Ke (mc (σ i).W (dJ (cJ ops) i rs 0)) hc hy;rw[hx]at this;cases this;simp only[hy]at hcx;cases x<;>first|(cases hcx;done)|skip
     ·exact u6 hR hC hF hI h hfr hr hrd hy h1 (nO _ _) hsub hK
     rename_i ob k;obtain⟨g1,g2,g3⟩:=ry (show jL ((σ i).W.push ob) (σ i).ds (cO N (σ i).fr o.dst (some (k (σ i).W.next)))=some (.on (σ (i+1)))from h1);have hnx:=nO (dJ (cJ ops) i rs 0) (σ i).W;have hnx':(σ (i+1)).W.next=(σ i).W.next+1:=by rw[<-g2];rfl
     refine KV (Wx:=dv (σ i).W (dJ (cJ ops) i rs 0)) (Wx':=(dv (σ i).W (dJ (cJ ops) i rs 0)).push ob) hR hC hF hI h hfr hr hrd hy ?_ hnx (by rw[hnx'];show(dv _ _).next+1=_;rw[hnx]) hsub (fun n ob' k1 k2=>?_) hK
     ·show jL _ (σ i).ds (cO N (σ i).fr o.dst (some (k (dv _ _).next)))=_;rw[hnx,g1,g3];rfl
     have hmods:∀n,kC σ i n↔n=(σ i).W.next:=fun n=>by
      unfold kC;rw[<-g2,Fy];constructor
      ·rintro (e|⟨e1,e2⟩)
       ·cases e
       have e2:n<(σ i).W.next+1:=e2;omega
      rintro rfl;exact .inr ⟨Nat.le_refl _,YJ _⟩
     by_cases ht:n=(σ i).W.next
     ·left;rw[Fv h hr ((hmods n).2 ht) fun j hj hji ho hm=>?_]at k2
      ·subst ht;rw[<-g2,yN]at k2;have hp:=yN (dv (σ i).W (dJ (cJ ops) i rs 0)) ob;rw[hnx,rk]at hp;rw[hp];exact k2
      have:=List.all_eq_true.1 hg n (inU n j hj hji ho hm);simp only[YR]at this;rcases this with e|e
      ·have:=nB.1 e;omega
      have:=Nat.le_of_ble_eq_true e;omega
     rw[zK fun e=>ht ((hmods n).1 e)]at k2;have k1:ρ n≠none:=k1.resolve_right fun⟨e1,e2⟩=>by omega
     have hp:((dv (σ i).W (dJ (cJ ops) i rs 0)).push ob).get n=(dv (σ i).W (dJ (cJ ops) i rs 0)).get n:=XW.get_push_ne (by rw[hnx];exact ht);rw[hp];cases e:(dv (σ i).W (dJ (cJ ops) i rs 0)).get n with
     |none=>exact .inr ⟨k1,k2,rfl,rfl⟩
     |some ob2=>
      have:=hsub n ob2 k1 e;rw[k2]at this;cases this;exact .inl rfl
   ·
    unfold Mi at hU;split at hU
    ·rename_i j q hus;simp only[Yr,YR]at hU;obtain⟨hs,hb⟩:=hU;obtain⟨d,e1,e2,e3,e4⟩:=uL (show(j,q)∈jX (cJ ops) i rs 0 by rw[hus];exact Yw);have e1:j=d:=by omega
     subst e1;have hj:j<ops.size:=by have:=(List.getElem?_eq_some_iff.1 e2).1;rw[h.len]at this;exact this
     obtain⟨oj,hoj⟩:=pW hj;have hq:=(h.step j oj hoj).2;rw[hq]at e2;cases e2;have uniq:∀n j',j'<ops.size->j'≠i->eG (cJ ops) i j'=false->n∈fp (σ j').W (σ (j'+1)).W->j'=j:=fun n j' k1 k2 k3 k4=>by
      obtain⟨o',ho'⟩:=pW k1;have:=zh (ms:=cJ ops) (i:=i) (n:=n) (j0:=0) (d:=j') (h.step j' o' ho').2 (by omega) (by rw[Nat.zero_add];exact k3) k4;rw[hus]at this;simp only[Nat.zero_add,List.mem_singleton]at this;exact(Prod.mk.inj this).1
     obtain⟨v,hv1,hv2⟩:∃v,x=.val v/\bU P (σ i).fr (xK (σ i).W (bif Nat.blt i j then(σ (j+1)).W else(σ j).W) (fp (σ j).W (σ (j+1)).W)) o.type o.op=some (.val v):=by
      have hs:x8 (bU P (σ i).fr (σ i).W o.type o.op) (bU P (σ i).fr (xK (σ i).W (bif Nat.blt i j then(σ (j+1)).W else(σ j).W) (fp (σ j).W (σ (j+1)).W)) o.type o.op)=true:=hs;rw[hx]at hs;unfold x8 at hs;split at hs
      ·rename_i k1 k2 k3 k4 k5 k6;simp only[Yr,decide_eq_true_eq]at hs;obtain⟨rfl,rfl⟩:=hs;cases k5;exact⟨_,rfl,k6⟩
      cases hs
     subst hv1;by_cases hDj:D j↔j<i
     ·refine u6 hR hC hF hI h hfr hr hrd hx h1 rfl (fun n ob k1 k2=>?_) hK;rw[Gc hI h hfr hr k1 (aM k2) fun j' hj' hji ho hm=>by rw[uniq n j' hj' hji ho hm];exact hDj];exact k2
     refine u6 hR hC hF hI h hfr hr hrd hv2 h1 (sJ _ _ _) (fun n ob k1 k2=>?_) hK;have hlt:n<(σ i).W.next:=by have:=aM k2;rwa [sJ]at this
     rcases Ai _ _ _ _ _ k2 with⟨c1,c2⟩|⟨c1,c2⟩
     ·rcases Yz i j with hij|hij
      ·have hD:D j:=Classical.byContradiction fun e=>hDj ⟨fun e'=>absurd e' e,fun e'=>by omega⟩
       rw[lj hij]at c2;rw[<-c2];unfold VD;rw[sm (p:=fun j=>D j/\kC σ j n) hj ⟨hD,.inl c1⟩ fun j' hj' ⟨d1,d2⟩=>by
        rcases d2 with d2|⟨d2,d3⟩
        ·cases qo:eG (cJ ops) i j' with
         |true=>have:=zP h hr hj' qo d1;omega
         |false=>rw[uniq n j' hj' (fun e=>hr.un (e▸d1)) qo d2];exact Nat.le_refl _
        rcases Yz j' i with q|q
        ·omega
        have:=h.nx (i:=i) (j:=j') q (by omega);omega]
       rfl
      have hji:j<i:=by omega
      have hD:¬D j:=fun e=>hDj ⟨fun _=>hji,fun _=>e⟩
      rw[vB hij]at c2;rw[<-c2];have hbt:∀j',j<j'->j'<i->n∉fp (σ j').W (σ (j'+1)).W:=fun j' a1 a2 a3=>by
       rcases hb with hb|hb
       ·have:=nB.1 hb;omega
       have hmem:n∈Rv ⟨oj,σ j,σ (j+1)⟩ ⟨o,σ i,σ (i+1)⟩:=Bc (h.extc (i:=j+1) (j:=j') a1 (by omega)) (h.ext j' (by omega)) (h.extc (i:=j'+1) (j:=i) a2 (by omega)) a3;have:=List.all_eq_true.1 (List.all_eq_true.1 hb n hmem) n c1;rw[YC]at this;cases this
      refine py (f:=fun j=>(σ j).W.get n) (τ:=fun j=>kC σ j n) (i:=j) (by omega) (fun j hj ht=>h.stW hj ht) fun j' hj'=>⟨fun⟨d1,d2⟩=>⟨?_,d2⟩,fun⟨d1,d2⟩=>⟨?_,d2⟩⟩
      ·rcases d2 with d2|⟨d2,d3⟩
       ·cases qo:eG (cJ ops) i j' with
        |true=>
         have h3:=zP h hr hj' qo d1;rcases ZE j' j with q|q|q
         ·exact q
         ·exact absurd (q▸d1) hD
         exact absurd d2 (hbt j' q h3)
        |false=>exact absurd (uniq n j' hj' (fun e=>hr.un (e▸d1)) qo d2▸d1) hD
       have:=AF c1;rcases Yz j' j with q|q
       ·exact q
       have:=h.nx (i:=j) (j:=j') q (by omega);omega
      rcases d2 with d2|⟨d2,d3⟩
      ·cases qo:eG (cJ ops) i j' with
       |true=>exact Gz h hr (by omega) qo
       |false=>have:=uniq n j' hj' (by omega) qo d2;omega
      exact hI.alloc h hfr hj' k1 d2 d3
     rw[Gc hI h hfr hr k1 hlt fun j' hj' hji ho hm=>absurd (uniq n j' hj' hji ho hm▸hm) c1];exact c2
    cases hU
 ·rename_i hw;rw[if_neg (by rw[kq hfp (vE.trans hw)];exact YE)];obtain⟨g1,g2,g3⟩:=ry h1;refine⟨fun _ _=>trivial,hK ρ _ _ ?_⟩;have nt:∀n,¬kC σ i n:=fun n e=>by
   unfold kC at e;rw[<-g2,wD]at e;rcases e with e|⟨e1,e2⟩
   ·cases e
   omega
  have hV:VD ops σ (fun j=>D j\/j=i)=VD ops σ D:=funext fun n=>zK (nt n)
  refine⟨by rw[hV];exact hI.hr,hI.le,hI.keeps,by rw[hV];exact hI.img,fun n k=>(hI.dom n k).imp id fun⟨j,e1,e2⟩=>⟨j,.inl e1,e2⟩,?_,fun t v ht=>?_,?_,hI.fzn⟩
  ·cases o.dst with
   |none=>exact hI.sz
   |some d=>simpa[Act.put]using hI.sz
  ·by_cases hdt:o.dst=some t
   ·rw[Mr h hr hdt]at ht;obtain⟨f',hf'⟩:=vN (f:=drop (σ i).fr (mg ops o)) g1;have:=(FR.putT (a:=a) (u:=undef) hfp (fun x e=>by cases e;exact ov) hf').rep t v (by
     rw[hdt]at g1 hf';rw[s9 hf',rp,<-s9 g1];exact ht)
    exact this
   rw[Mf hr hdt]at ht;rw[ze hdt];exact hI.tm t v ht
  rw[co];exact hI.ds
 cases h1
end
section
variable {P:Program} {R:XK} {N:Nat} {rd rb:Option Nat} {ops:Array Oper} {rs:List bJ} {J:Nat->Bool} {σ:Nat->XS} {ρ0:Ren} {w0:World} {m:Nat} {Q:Exit->Act->World->Prop}
def gR(listed:Array Bool)(j:Nat):Prop:=listed.getD j false=true
theorem D0{listed:Array Bool}{j:Nat}(h:gR listed j):j<listed.size:=by
 unfold gR at h;rcases Yz j listed.size with q|q
 ·exact q
 rw[YK,Array.getElem?_eq_none q]at h;cases h
theorem xg{listed:Array Bool}{j:Nat}:listed.getD j true=false↔j<listed.size/\¬gR listed j:=by
 unfold gR;rw[YK,YK];rcases Yz j listed.size with q|q
 ·rw[YS q];simp[q]
 rw[Array.getElem?_eq_none q];simp;omega
theorem LN{listed:Array Bool}{i:Nat}(hi:i<listed.size):gR (listed.setIfInBounds i true)=fun j=>gR listed j\/j=i:=funext fun j=>propext (by
 unfold gR;rw[YK,YK];by_cases hij:i=j
 ·subst hij;rw[Array.getElem?_setIfInBounds_self_of_lt hi];simp
 rw[Y0 hij];simp[Ne.symm hij])
theorem LQ(h:iP P R N rd ops J σ rs){listed:Array Bool}(hs:listed.size=ops.size)(hr:Region.ready .any ops listed=[]):∀j,j<ops.size->gR listed j:=fun j=>by
 induction j using Nat.strongRecOn with
 |_ j ih=>
  intro hj;obtain⟨o,ho⟩:=pW hj;refine Classical.byContradiction fun hn=>?_
  have:j∈Region.ready .any ops listed:=mem_ready.2 ⟨xg.2 ⟨by omega,hn⟩,o,ho,fun e he hb=>by
   have hlt:=h.lex j o ho e.on (qK.2 ⟨e,he,hb,rfl⟩);exact ih e.on hlt (by omega)⟩
  rw[hr]at this;cases this
theorem FE(hR:fY R)(hC:ja P R)(hF:nY P R)(h:iP P R N rd ops J σ rs)(hJ:∀i,J i=false)(hfr:cw ρ0 (σ 0).W.next (σ ops.size).W.next)(hrd:iY ρ0 rd rb)
 (hQ:∀ρ a w,pg P N ops σ ρ0 w0 (fun j=>j<ops.size) ρ a w->Q .normal a w):∀(fuel:Nat) (listed:Array Bool) (U:List Nat) (ρ:Ren) (a:Act) (w:World),listed.size=ops.size ->
 (∀j,j<ops.size->¬gR listed j->j∈U)->U.length<=fuel->Gf ops (gR listed)->pg P N ops σ ρ0 w0 (gR listed) ρ a w->wpAnyIn (FW rb) m P .any ops Q fuel listed a w:=by
 have fin:∀listed ρ a w,listed.size=ops.size->(∀j,j<ops.size->gR listed j)->pg P N ops σ ρ0 w0 (gR listed) ρ a w->Q .normal a w:=fun listed ρ a w hs hall hI=>by
  have e:gR listed=fun j=>j<ops.size:=funext fun j=>propext ⟨fun k=>hs▸D0 k,hall j⟩
  rw[e]at hI;exact hQ ρ a w hI
 intro fuel
 induction fuel with
 |zero=>
  intro listed U ρ a w hs hU hl hc hI;have hU0:U=[]:=List.length_eq_zero_iff.1 (Nat.le_zero.1 hl);have hall:∀j,j<ops.size->gR listed j:=fun j hj=>Classical.byContradiction fun e=>by
   have:=hU j hj e;rw[hU0]at this;cases this
  refine⟨?_,fin listed ρ a w hs hall hI⟩;rw[List.eq_nil_iff_forall_not_mem];intro j hj;obtain⟨k1,k2⟩:=mem_ready.1 hj;obtain⟨q1,q2⟩:=xg.1 k1;exact q2 (hall j (by omega))
 |succ fuel ih=>
  intro listed U ρ a w hs hU hl hc hI;refine⟨fun hnil=>fin listed ρ a w hs (LQ h hs hnil) hI,fun i hi=>?_⟩;obtain⟨k1,o,ho,k2⟩:=mem_ready.1 hi;obtain⟨q1,q2⟩:=xg.1 k1;have hr:oM ops (gR listed) i o:=⟨ho,q2,fun e he=>by
   obtain⟨x,p1,p2,rfl⟩:=qK.1 he;exact k2 x p1 p2,hc⟩
  unfold wpOpIn;rw[ho];refine PC hR hC hF hI h hfr hr (hJ i) (hrd.mono hI.le) fun ρ' a' w' hI'=>?_
  have hset:=LN q1;refine ih (listed.setIfInBounds i true) (U.erase i) ρ' a' w' (by simpa using hs) (fun j hj hn=>?_) ?_ (fun j oj hj hd e he=>?_) (by rw[hset];exact hI')
  ·rw[hset]at hn;simp only[not_or]at hn;exact(List.mem_erase_of_ne hn.2).2 (hU j hj hn.1)
  ·rw[ZA (hU i (by omega) q2)];omega
  rw[hset]at hd ⊢;rcases hd with hd|rfl
  ·exact .inl (hc j oj hj hd e he)
  rw[ho]at hj;cases hj;exact .inl (hr.after e he)
theorem mB(hm:P.follows .mixedOrders=true)(R:XK)(hR:fY R)(hC:ja P R)(hF:nY P R):JK P R:=by
 intro N rd id ops s rs s' ht hk ρ rb a w m hrd hfr hH hFR hD;obtain⟨σ,h0,h1,h⟩:=Q6 hR ht hk;subst h0 h1;have hno:∀j,¬gR (Array.replicate ops.size false) j:=fun j e=>by
  have hj:=D0 e;unfold gR at e;rw[YK,YS hj]at e;simp at e
 have hV:VD ops σ (gR (Array.replicate ops.size false))=(σ 0).W.get:=funext fun n=>by
  unfold VD;rw[mF (Yq _) fun j _ _ e=>hno j e.1];rfl
 have hT:∀t,TD ops σ (gR (Array.replicate ops.size false)) t=(σ 0).fr.get t:=fun t=>by
  unfold TD;rw[mF (Yq _) fun j _ _ e=>hno j e.1];rfl
 refine wpIn_region_any hm (FE (ρ0:=ρ) (w0:=w.drew) hR hC hF h (fun _=>rfl) hfr hrd (fun ρ' a' w' hI=>?_) ops.size _ (List.range ops.size) ρ a w.drew (by simp) (fun j hj _=>List.mem_range.2 hj) (by simp) (fun j o ho hd=>absurd hd (hno j)) ?_)
 ·have hV':VD ops σ (fun j=>j<ops.size)=(σ ops.size).W.get:=funext fun n=>
   py (f:=fun j=>(σ j).W.get n) (τ:=fun j=>kC σ j n) (i:=ops.size) (Nat.le_refl _) (fun j hj ht=>h.stW hj ht) fun j hj=>Iff.rfl
  have hT':∀t,TD ops σ (fun j=>j<ops.size) t=(σ ops.size).fr.get t:=fun t=>
   py (f:=fun j=>(σ j).fr.get t) (τ:=fun j=>Wr ops j t) (i:=ops.size) (Nat.le_refl _) (fun j hj ht=>h.stT hj ht) fun j hj=>Iff.rfl
  refine⟨ρ',⟨bW.drew ⟨hI.le,hI.keeps,fun b hb=>?_,fun n hn=>?_,h.nx (Yq _) (Nat.le_refl _),hI.fzn⟩,?_,⟨hI.sz,fun t v e=>hI.tm t v (by rw[hT'];exact e)⟩,?_⟩,trivial⟩
  ·rw[<-hV']at hb;exact hI.img b hb
  ·rcases hI.dom n hn with q|⟨j,q1,q2,q3,q4⟩
   ·exact .inl q
   have k1:=h.nx (i:=0) (j:=j) (Yq _) (by omega);have k2:=h.nx (i:=j+1) (j:=ops.size) q2 (Nat.le_refl _);exact .inr ⟨by omega,by omega⟩
  ·rw[<-hV'];exact hI.hr
  rw[h.ds _ (Nat.le_refl _)];exact hI.ds
 refine⟨by rw[hV];exact hH.drew,.refl _,.refl _ _,fun b hb=>.inl (by rw[hV]at hb;exact hb),fun n hn=>.inl hn,hFR.size,fun t v e=>hFR.rep t v (by rw[hT]at e;exact e),hD,fun _ _ h=>.inl h⟩
end
def zR:Op->Bool
 |.call ⟨.builtin .recover,args,_⟩=>args.isEmpty
 |_=>false
def MD(ops:Array Oper)(rest:Code):List Oper->Option (Array Oper×Oper×List Oper×Code)
 |o::l=>bif zR o.op&&o.guard.isNone then some (ops,o,l,rest)else none
 |[]=>none
def QE:Code->Option (Array Oper×Oper×List Oper×Code)
 |.seq (.region _ ops false) rest=>MD ops rest ops.toList
 |_=>none
def Iq(W:XW)(ds:List b9):Option XF->Option XS
 |some fr=>some ⟨fr,W,ds⟩
 |none=>none
def zI(N:Nat)(s:XS)(d:Option Tmp):Option XR->Option XS
 |some (.val v)=>Iq s.W s.ds (cO N s.fr d v)
 |some (.new o k)=>Iq (s.W.push o) s.ds (cO N s.fr d (some (k s.W.next)))
 |some (.mod v W)=>Iq W s.ds (cO N s.fr d (some v))
 |_=>none
def wH(P:Program)(N:Nat):List Oper->XS->Option XS
 |[],s=>some s
 |o::l,s=>bif o.guard.isNone then(match zI N s o.dst (bU P s.fr s.W o.type o.op)with
  |some s'=>wH P N l s'
  |none=>none)else none
def My:gg->Bool
 |.norm=>true
 |.ret=>true
 |_=>false
def MJ:Option XO->Option (Option Value×XW)
 |some (.code e s)=>bif My e&&s.ds.isEmpty then some (none,s.W)else none
 |_=>none
def Me(R:XK)(N:Nat)(rest:Code):Option XS->Option (Option Value×XW)
 |some s=>MJ (R (.code N none rest s))
 |none=>none
def ME(P:Program)(R:XK)(N:Nat)(W:XW)(l:List Oper)(rest:Code):Option XF->Option (Option Value×XW)
 |some fr=>Me R N rest (wH P N l ⟨fr,W,[]⟩)
 |none=>none
def L5(P:Program)(R:XK)(fn:Func)(args:List Value)(p:Option Value)(W:XW):Option (Array Oper×Oper×List Oper×Code)->Option (Option Value×XW)
 |some (_,o,l,rest)=>bif gq fn&&Nat.ble args.length fn.ntmps&&fn.results.isEmpty then ME P R fn.ntmps W l rest (cO fn.ntmps (xu args) o.dst (some (p.getD .nilIface)))else none
 |none=>none
def Fg(P:Program)(R:XK)(f:FuncId)(args:List Value)(p:Option Value)(W:XW):Option (Option Value×XW):=
 match P.funcs[f]? with
 |some fn=>match fn.body with
  |some c=>L5 P R fn args p W (QE c)
  |none=>none
 |none=>none
section
variable {P:Program} {N:Nat}
theorem lF{W:XW}{ds:List b9}{o:Option XF}{s:XS}(h:Iq W ds o=some s):o=some s.fr/\W=s.W/\ds=s.ds:=by
 unfold Iq at h;split at h<;>cases h;exact⟨rfl,rfl,rfl⟩
theorem y5{s s':XS}{d:Option Tmp}{x:Option XR}(hm:∀v W',x=some (.mod v W')->bu s.W W')(h:zI N s d x=some s'):bu s.W s'.W:=by
 unfold zI at h;split at h
 ·obtain⟨_,h2,_⟩:=lF h;rw[<-h2];exact .refl _
 ·obtain⟨_,h2,_⟩:=lF h;rw[<-h2];exact .push _ _
 ·obtain⟨_,h2,_⟩:=lF h;rw[<-h2];exact hm _ _ rfl
 cases h
theorem u3:∀(l:List Oper) (s s':XS),wH P N l s=some s'->bu s.W s'.W
 |[],s,s',h=>by cases h;exact .refl _
 |o::l,s,s',h=>by
  unfold wH at h;cases hg:o.guard.isNone<;>rw[hg]at h
  ·cases h
  simp only[cond_true]at h;split at h
  ·rename_i s1 h1;exact(y5 (fun v W' q=>x3 q) h1).trans (u3 l s1 s' h)
  cases h
theorem LB{ρ:Ren}{s s':XS}{o:Oper}{x:XR}{a:Act}{w:World}(hX:cN P ρ s.W w (execOp a.eval o) x)(h:zI N s o.dst (some x)=some s')(hfr:cw ρ s.W.next s'.W.next)
 (hH:HR P ρ s.W.get w) (hFR:FR ρ N s.fr a.tmps) (hD:gl ρ s.ds a.defers):∃u w' ρ',oz P (execOp a.eval o) w u w'/\lC P ρ s.W w N s' ρ' (a.put o.dst u) w':=by
 cases x with
 |val v=>
  obtain⟨u,hg,hv⟩:=hX;obtain⟨h1,h2,h3⟩:=lF h;obtain⟨fr',W',ds'⟩:=s';simp only at h1 h2 h3;subst h2 h3;exact⟨u,w,ρ,hg,.refl _ _ _ _,hH,FR.putT hFR hv h1,by rw[co];exact hD⟩
 |new ob k=>
  obtain⟨h1,h2,h3⟩:=lF h;obtain⟨fr',W',ds'⟩:=s';simp only at h1 h2 h3;subst h2 h3;obtain⟨u,ρ',w',hg,hs,hh,hv⟩:=hX (hfr _ (Nat.le_refl _) (YJ _));exact⟨u,w',ρ',hg,hs,hh,FR.putT (hFR.mono hs.le) (fun x e=>by cases e;exact hv) h1,by rw[co];exact hD.mono hs.le⟩
 |mod v W1=>
  obtain⟨h1,h2,h3⟩:=lF h;obtain⟨fr',W',ds'⟩:=s';simp only at h1 h2 h3;subst h2 h3;obtain⟨u,ρ',w',hg,hs,hh,hv⟩:=hX hfr;exact⟨u,w',ρ',hg,hs,hh,FR.putT (hFR.mono hs.le) (fun x e=>by cases e;exact hv) h1,by rw[co];exact hD.mono hs.le⟩
 |_=>cases h
theorem BE{ops:Array Oper}{m:Nat}{cs:List Frame}{Q:Exit->Act->List Frame->World->Prop}:∀(l:List Oper) (s s':XS),wH P N l s=some s'->∀(k:Nat),(∀j,l[j]?=ops[k+j]?) ->
 ∀(ρ:Ren) (a:Act) (w:World),cw ρ s.W.next s'.W.next->HR P ρ s.W.get w->FR ρ N s.fr a.tmps->gl ρ s.ds a.defers->(∀ρ' a' w',lC P ρ s.W w N s' ρ' a' w'->Q .normal a' cs w') ->
 wpOpsSIn Fence.wide m P ops Q (List.range' k l.length) a cs w
 |[],s,s',h,k,hl,ρ,a,w,hfr,hH,hFR,hD,hQ=>by
  cases h;exact hQ ρ a w ⟨.refl _ _ _ _,hH,hFR,hD⟩
 |o::l,s,s',h,k,hl,ρ,a,w,hfr,hH,hFR,hD,hQ=>by
  have ho:ops[k]?=some o:=by have:=hl 0;simpa using this.symm
  unfold wH at h;cases hg:o.guard.isNone<;>rw[hg]at h
  ·cases h
  simp only[cond_true]at h;split at h
  ·rename_i s1 h1;have hw:Region.wanted o (yielded ops a.tmps)=true:=by
    unfold Region.wanted;cases e:o.guard with
    |none=>rfl
    |some _=>rw[e]at hg;cases hg
   cases hx:bU P s.fr s.W o.type o.op with
   |none=>rw[hx]at h1;cases h1
   |some x=>
    rw[hx]at h1;have n1:s.W.next<=s1.W.next:=(y5 (fun v W' q=>by cases q;exact x3 hx) h1).next;have n2:s1.W.next<=s'.W.next:=(u3 l s1 s' h).next;obtain⟨u,w',ρ1,g1,g2,g3,g4,g5⟩:=LB (tp hH hFR.ev hx) h1 (hfr.left n2) hH hFR hD;have ih:=BE (m:=m) (cs:=cs) (Q:=Q) l s1 s' h (k+1) (fun j=>by have:=hl (j+1);simpa[Zt,YX 1 j]using this) ρ1 (a.put o.dst u) w' (hfr.right g2) g3 g4 g5 fun ρ' a' w2 hq=>hQ ρ' a' w2 (hq.trans' g2)
    show wpOpsSIn Fence.wide m P ops Q (k::List.range' (k+1) l.length) a cs w;simp only[wpOpsSIn,ho,hw,if_true];refine⟨fun _ _=>trivial,?_⟩;rcases g1 with g1|⟨g1,rfl⟩
    ·rw[g1];exact ih
    rw[g1];exact ih
  cases h
theorem CQ{o:Oper}{a:Act}{w:World}(h:zR o.op=true):(execOp a.eval o).run P w=.ok .recover w:=by
 obtain⟨dst,op,type,pos,after,guard⟩:=o;unfold zR at h;split at h
 ·rename_i args ats heq;have:args=#[]:=by simpa using h
  simp only at heq;subst heq this;rfl
 cases h
theorem Cj{R:XK}(hR:fY R)(hC:ja P R){f:FuncId}{args:List Value}{p p':Option Value}{W W':XW}(h:Fg P R f args p W=some (p',W')):cT P f/\bu W W'/\∀ρ args' w m u,cw ρ W.next W'.next->HR P ρ W.get w->aJ ρ args args'->gK ρ p u ->
 CallsDIn Fence.wide m P f args'.toArray u w fun en u' w'=>(∃v,en=.returned v)/\∃ρ',bW ρ W.get W.next w ρ' W'.get W'.next w'/\HR P ρ' W'.get w'/\gK ρ' p' (settle u'):=by
 unfold Fg at h;split at h
 ·rename_i fn hf;split at h
  ·rename_i c hb;unfold L5 at h;split at h
   ·rename_i _ ops o l rest hp;cases hk:(gq fn&&Nat.ble args.length fn.ntmps&&fn.results.isEmpty)<;>rw[hk]at h
    ·cases h
    simp only[cond_true]at h;simp only[Yr]at hk;obtain⟨⟨hn,hlen⟩,hres⟩:=hk;unfold QE at hp;split at hp
    ·rename_i id ops' rest';unfold MD at hp;split at hp
     ·rename_i o' l' hol;cases hk2:(zR o'.op&&o'.guard.isNone)<;>rw[hk2]at hp<;>cases hp;simp only[Yr]at hk2;unfold ME at h;split at h
      ·rename_i fr1 h1;unfold Me at h;split at h
       ·rename_i s1 h2;unfold MJ at h;split at h
        ·rename_i e s2 h3;cases hk3:(My e&&s2.ds.isEmpty)<;>rw[hk3]at h<;>cases h;simp only[Yr]at hk3;have x1:bu W s1.W:=u3 _ _ _ h2;have x2:bu s1.W s2.W:=hR _ _ h3;refine⟨⟨fn,hf,hn,by rw[hb];rfl⟩,x1.trans x2,fun ρ args' w m u hfr hH hA hP=>?_⟩;refine callsDIn_of_wpSIn hf hb trivial fun c₀ cs hu=>wpSIn_seq (wpSIn_region ?_)
         have hsz:ops.size=l.length+1:=by rw[<-YU,hol];rfl
         have ho0:ops[0]?=some o:=by rw[<-YP,hol];rfl
         have hrg:List.range ops.size=0::List.range' 1 l.length:=by rw[hsz,List.range_eq_range'];rfl
         have hw:∀t,Region.wanted o (yielded ops t)=true:=fun t=>by
          unfold Region.wanted;cases e:o.guard with
          |none=>rfl
          |some _=>rw[e]at hk2;cases hk2.2
         have hds:s2.ds=[]:=by simpa using hk3.2
         have go:∀(v:Value) (u':FrameMode),VR ρ (p.getD .nilIface) v->settle u'=.returning->wpOpsSIn Fence.wide m P ops (Exit.thenS (rest.wpSIn Fence.wide m P (bodyPostS P fn c₀ cs fun en u' w'=>(∃v,en=.returned v)/\∃ρ',bW ρ W.get W.next w ρ' s2.W.get s2.W.next w'/\HR P ρ' s2.W.get w'/\gK ρ' none (settle u'))) (bodyPostS P fn c₀ cs fun en u' w'=>(∃v,en=.returned v)/\∃ρ',bW ρ W.get W.next w ρ' s2.W.get s2.W.next w'/\HR P ρ' s2.W.get w'/\gK ρ' none (settle u')))
          (List.range' 1 l.length) (({ tmps:=args'.toArray++Array.replicate (fn.ntmps-args'.toArray.size) undef,defers:=[] }:Act).put o.dst v) ({ c₀ with mode:=u' }::cs) w:=fun v u' hv hset=>by
          refine BE l ⟨fr1,W,[]⟩ s1 h2 1 (fun j=>by rw[YX,<-YP,hol];rfl) ρ _ w (hfr.left x2.next) hH (FR.putT (a:={ tmps:=_,defers:=[] }) (uH hA (Nat.le_of_ble_eq_true hlen)) (fun x e=>by cases e;exact hv) h1) (by rw[co];exact .nil) fun ρ1 a1 w1 ho1=>?_
          obtain⟨g1,g2,g3,g4⟩:=ho1;refine wpSIn_of_wpIn rfl (wpIn_mono (hC _ _ _ _ _ _ h3 ρ1 none a1 w1 m trivial (hfr.right g1) g2 g3 g4) fun ex a2 w2 hq=>?_);obtain⟨ρ2,⟨k1,k2,k3,k4⟩,hex⟩:=hq;rw[hds]at k4;have kd:a2.defers=[]:=by cases hdd:a2.defers with|nil=>rfl|cons _ _=>rw[hdd]at k4;cases k4
          have hr0:p9 P s2.W s2.fr fn.results.toList=some []:=by
           have:fn.results=#[]:=by simpa using hres
           rw[this];rfl
          obtain⟨r,q1,q2⟩:=o4 k2 k3 hr0;have fin:a2.defers=[]/\∃u'',{ c₀ with mode:=u' }::cs={ c₀ with mode:=u'' }::cs/\∃v,(results fn a2.tmps).run P w2=.ok v w2/\((∃v',Ending.returned v=.returned v')/\∃ρ',bW ρ W.get W.next w ρ' s2.W.get s2.W.next w2/\HR P ρ' s2.W.get w2/\gK ρ' none (settle u'')):=
           ⟨kd,u',rfl,r,q1,⟨_,rfl⟩,ρ2,g1.trans k1,k2,by rw[hset];trivial⟩
          cases ex<;>cases e<;>first|exact hex.elim|(cases hk3.1;done)|skip
          ·exact fin
          exact fin
         rw[hrg];simp only[wpOpsSIn,ho0,hw,if_true,CQ hk2.1];refine⟨fun _ _=>trivial,?_⟩;cases p with
         |none=>
          cases u<;>first|exact hP.elim|skip
          have hrec:recoverD (c₀::cs)=none:=by simp only[recoverD,hu]
          rw[hrec];have:=go .nilIface .returning (.flat 1 _ rfl) rfl;have hc:({ c₀ with mode:=FrameMode.returning }:Frame)=c₀:=by rw[<-hu]
          rw[hc]at this;exact this
         |some v=>
          cases u<;>first|exact hP.elim|skip
          obtain⟨v',hv,rfl⟩:=hP;have hrec:recoverD (c₀::cs)=some (v',{ c₀ with mode:=.panicking [{ v:=v',recovered:=true }] }::cs):=by simp only[recoverD,hu]
          rw[hrec];exact go v' _ hv rfl
        cases h
       cases h
      cases h
     cases hp
    cases hp
   cases h
  cases h
 cases h
end
def fN{α:Type}(n:Nat)(k:Nat->α):α:=match n with
 |0=>k 0
 |m+1=>k (m+1)
def fW{α:Type}(x:aw)(k:aw->α):α:=fN x.toNat fun n=>k (BitVec.ofNat 32 n)
def kT{α:Type}(b:List UInt8):Nat->List aw->(List aw->α)->α
 |0,W,k=>k W
 |i+1,W,k=>fW (jv b W) fun x=>kT b i (W++[x]) k
def kS{α:Type}(W:List aw):Nat->Nat->S8->(S8->α)->α
 |0,_,s,k=>k s
 |n+1,i,s,k=>fW (rT s (bV kc i) (bV W i)) fun t=>fW (t+rU s) fun x=>fW (s.d+t) fun y=>kS W n (i+1) ⟨x,s.a,s.b,s.c,y,s.e,s.f,s.g⟩ k
def fS{α:Type}(s:S8)(k:S8->α):α:=fW s.a fun a=>fW s.b fun b=>fW s.c fun c=>fW s.d fun d=>fW s.e fun e=>fW s.f fun f=>fW s.g fun g=>fW s.h fun h=>k ⟨a,b,c,d,e,f,g,h⟩
def xq{α:Type}(s:S8)(b:List UInt8)(k:S8->α):α:=kT b 64 [] fun W=>kS W 64 0 s fun t=>fS (pY s t) k
def zM{α:Type}(m:List UInt8):Nat->Nat->S8->(S8->α)->α
 |0,_,s,k=>k s
 |n+1,i,s,k=>xq s ((m.drop (64*i)).take 64) fun s=>zM m n (i+1) s k
def fL{α:Type}:List UInt8->List UInt8->(List UInt8->α)->α
 |[],acc,k=>k acc.reverse
 |x::l,acc,k=>fN x.toNat fun n=>fL l (UInt8.ofNat n::acc) k
def E4{α:Type}(l:List UInt8)(k:List UInt8->α):α:=fL l [] fun l=>zM (iJ l) ((iJ l).length/64) 0 (S8.of iv) fun s=>fL (s.list.flatMap bR) [] k
theorem zQ{α:Type}(n:Nat)(k:Nat->α):fN n k=k n:=by cases n<;>rfl
theorem kW{α:Type}(x:aw)(k:aw->α):fW x k=k x:=by
 unfold fW;rw[zQ];simp
theorem mt{α:Type}(b:List UInt8)(k:List aw->α):∀(n i:Nat),kT b n (cD b i) k=k (cD b (i+n))
 |0,i=>rfl
 |n+1,i=>by
  unfold kT;rw[kW];have:=mt b k n (i+1);rw[show i+1+n=i+(n+1) by omega]at this;exact this
theorem nZ{α:Type}(W:List aw)(s:S8)(k:S8->α):∀(n i:Nat),kS W n i (e9 W s i) k=k (e9 W s (i+n))
 |0,i=>rfl
 |n+1,i=>by
  unfold kS;rw[kW,kW,kW];have:=nZ W s k n (i+1);rw[show i+1+n=i+(n+1) by omega]at this;exact this
theorem ET{α:Type}(s:S8)(k:S8->α):fS s k=k s:=by
 unfold fS;simp only[kW]
theorem Dz{α:Type}(s:S8)(b:List UInt8)(k:S8->α):xq s b k=k (dc s b):=by
 unfold xq;have h1:=mt b (fun W=>kS W 64 0 s fun t=>fS (pY s t) k) 64 0;rw[show cD b 0=[]from rfl]at h1;rw[h1];have h2:=nZ (cD b (0+64)) s (fun t=>fS (pY s t) k) 64 0;rw[show e9 (cD b (0+64)) s 0=s from rfl]at h2;rw[h2,ET];rfl
theorem Aj{α:Type}(m:List UInt8)(k:S8->α):∀(n i:Nat),zM m n i (mX m i) k=k (mX m (i+n))
 |0,i=>rfl
 |n+1,i=>by
  unfold zM;rw[Dz];have:=Aj m k n (i+1);rw[show i+1+n=i+(n+1) by omega]at this;exact this
theorem EX{α:Type}(k:List UInt8->α):∀(l acc:List UInt8),fL l acc k=k (acc.reverse++l)
 |[],acc=>by simp[fL]
 |x::l,acc=>by
  unfold fL;rw[zQ,EX k l];simp
theorem wY{α:Type}(l:List UInt8)(k:List UInt8->α):E4 l k=k (dz l):=by
 unfold E4;rw[EX];have:=Aj (iJ l) (fun s=>fL (s.list.flatMap bR) [] k) ((iJ l).length/64) 0;rw[show mX (iJ l) 0=S8.of iv from rfl,Nat.zero_add]at this;simp only[List.reverse_nil,List.nil_append];rw[this,EX];simp[dz]
def D8(W:XW)(h:List UInt8):Option (Value×XW):=some (.agg (ao h).toArray,W)
def xx(args:List Value)(W:XW):Option (Value×XW):=match args with
 |[.string s]=>bif Nat.ble s.size 140737488351232 then E4 s.data.toList (D8 W)else none
 |_=>none
def x6(W:XW)(n o:Nat):Option XW->Option (Value×XW)
 |some W'=>some (.tuple #[],W')
 |none=>none
def Av(P:Program)(bt:TypeId)(W:XW)(n o len:Nat)(e:TypeId):Option Value->Option (Value×XW)
 |some (.pointer none)=>bif liesAt P P.depth e (len/P.cellsOf e) o bt 1 then x6 W n o (dV W n o [.pointer (some ⟨n,o,none⟩)])else none
 |some (.pointer (some ⟨m,p,none⟩))=>bif Nat.beq n m&&Nat.beq o p then some (.tuple #[],W)else none
 |_=>none
def Fx(P:Program)(bt:TypeId)(W:XW)(n o:Nat):Option ag->Option (Value×XW)
 |some (.cells c e _)=>Av P bt W n o c.length e c[o]?
 |_=>none
def jp(P:Program)(bt:TypeId)(args:List Value)(W:XW):Option (Value×XW):=match args with
 |[.pointer (some ⟨n,o,none⟩)]=>Fx P bt W n o (W.get n)
 |_=>none
section
variable {P:Program}
theorem HR.keep{ρ:Ren}{G:GH}{w w':World}(h:HR P ρ G w)(hk:ai aG w w'):HR P ρ G w':=
 ⟨fun n i o h1 h2=>let⟨ob,q1,q2⟩:=h.obj n i o h1 h2;⟨ob,hk.heap q1 (fun e=>e),q2⟩,h.inj,fun b o e=>let⟨q1,q2⟩:=h.frz b o e;⟨hk.heap q1 (fun e=>e),q2⟩⟩
theorem bW.keep{ρ:Ren}{G:GH}{nx:Nat}{w w':World}(hk:ai aG w w'):bW ρ G nx w ρ G nx w':=
 ⟨.refl _,hk.mono fun _ _ e=>e.elim,fun _ h=>.inl h,fun _ h=>.inl h,Nat.le_refl _,fun _ _ h=>.inl h⟩
theorem uU:∀l:List UInt8,(ao l).all (aO 7)=true
 |[]=>rfl
 |x::l=>by
  simp only[ao,YM,List.all_cons];rw[show aO 7 (bv x)=true from rfl];exact uU l
theorem Bz{args:List Value}{W W':XW}{v:Value}(h:xx args W=some (v,W')):bu W W':=by
 unfold xx at h;split at h
 ·rename_i s;cases hb:Nat.ble s.size 140737488351232<;>rw[hb]at h
  ·cases h
  rw[cond_true,wY]at h;cases h;exact .refl _
 cases h
theorem Af{f:FuncId}(hc:∀(s:ByteArray) (w:World),s.size<=140737488351232->Calls P f #[.string s] w fun e w'=>e=.returned (.agg (ao (dz s.data.toList)).toArray)/\ai aG w w')
 {args:List Value} {W W':XW} {v:Value} (h:xx args W=some (v,W')) {ρ:Ren} {args':List Value} {w:World} {m:Nat} (hH:HR P ρ W.get w) (hA:aJ ρ args args'):CallsIn Fence.wide m P f args'.toArray w (QF P ρ W w (.ret v) W'):=by
 unfold xx at h;split at h
 ·rename_i s;cases hb:Nat.ble s.size 140737488351232<;>rw[hb]at h
  ·cases h
  rw[cond_true,wY]at h;cases h;have hle:=Nat.le_of_ble_eq_true hb;cases hA with
  |cons _ x _ l' h1 h2=>
   cases h2;have:x=.string s:=h1.of_flat 1 rfl;subst this;refine CallsIn.mono (callsIn_wide.2 (hc s w hle)) fun e w' ⟨he,hk⟩=>?_
   subst he;exact⟨ρ,.keep hk,hH.keep hk,.flat 8 _ (by
    show(ao _).toArray.toList.all (aO 7)=true;rw[List.toList_toArray];exact uU _)⟩
 cases h
theorem C4{fits:TypeId->Bool}{e:TypeId}{count count' off n q:Nat}:∀{d:Nat},rowAt P fits d e count off n=true->q+count<=count'->rowAt P fits d e count' (off+q*P.cellsOf e) n=true
 |0,h,_=>by cases h
 |d+1,h,hc=>by
  unfold rowAt at h ⊢;by_cases hs:P.cellsOf e=0
  ·simp[hs]at h
  have hp:0<P.cellsOf e:=Nat.pos_of_ne_zero hs;simp only[hs,if_false]at h ⊢;rw[Nat.add_mul_mod_self_right,Nat.add_mul_div_right _ _ hp];simp only[YR,Yr,decide_eq_true_eq]at h ⊢;rcases h with⟨⟨h1,h2⟩,h3⟩|⟨h1,h2⟩
  ·exact .inl ⟨⟨h1,by omega⟩,h3⟩
  exact .inr ⟨by omega,h2⟩
theorem nC{e:TypeId}{count count' off q:Nat}(hc:q+count<=count'):∀{d:Nat} {u:TypeId} {n:Nat},liesAt P d e count off u n=true->liesAt P d e count' (off+q*P.cellsOf e) u n=true
 |0,_,_,h=>by cases h
 |d+1,u,n,h=>by
  unfold liesAt at h ⊢;simp only[YR]at h ⊢;rcases h with h|h
  ·exact .inl (C4 h hc)
  right;cases hu:P.underlying u with
  |none=>rw[hu]at h;cases h
  |some t=>
   rw[hu]at h;cases t<;>first|(cases h;done)|skip
   exact nC hc h
theorem xy{bt:TypeId}{args:List Value}{W W':XW}{v:Value}(h:jp P bt args W=some (v,W')):bu W W':=by
 unfold jp at h;split at h
 ·unfold Fx at h;split at h
  ·unfold Av at h;split at h
   ·rename_i n o _ _ _ _ _ _;revert h;generalize liesAt _ _ _ _ _ _ _=b;intro h;cases b
    ·cases h
    simp only[cond_true]at h;unfold x6 at h;split at h
    ·rename_i W1 hs;cases h;exact lu hs
    cases h
   ·revert h;generalize(_&&_:Bool)=b;intro h;cases b<;>cases h;exact .refl _
   cases h
  cases h
 cases h
theorem yd{f:FuncId}{bt:TypeId}
 (hu:∀(b q:Nat) (w:World),w.cell? ⟨b,q,none⟩=some (.pointer (some ⟨b,q,none⟩))->Calls P f #[.pointer (some ⟨b,q,none⟩)] w fun e w'=>e=.returned (.tuple #[])/\w'=w)
 (hf:∀(b q z:Nat) (e:TypeId) (w:World),w.cell? ⟨b,q,none⟩=some (.pointer none)->w.shape? b=some (e,z)->q<z->liesAt P P.depth e (z/P.cellsOf e) q bt 1=true->w.frozen? ⟨b,q,none⟩=false ->
  Calls P f #[.pointer (some ⟨b,q,none⟩)] w fun e w'=>e=.returned (.tuple #[])/\w'=w.setCell ⟨b,q,none⟩ (.pointer (some ⟨b,q,none⟩)))
 {args:List Value} {W W':XW} {v:Value} (h:jp P bt args W=some (v,W')) {ρ:Ren} {args':List Value} {w:World} {m:Nat} (hH:HR P ρ W.get w) (hA:aJ ρ args args'):CallsIn Fence.wide m P f args'.toArray w (QF P ρ W w (.ret v) W'):=by
 unfold jp at h;split at h
 ·rename_i n o;cases hA with
  |cons _ x _ l' h1 h2=>
   cases h2;obtain⟨i,hi,rfl⟩:∃i,ρ n=some i/\x=.pointer (some ⟨i.b,o+i.s,none⟩):=by
    cases h1 with
    |flat k _ hk=>cases k<;>simp[aO]at hk
    |ptr _ _ i hi=>exact⟨i,hi,rfl⟩
   unfold Fx at h;split at h
   ·rename_i c e fr hg;obtain⟨c',f',hb,hz,hr,hk,hl,hrow⟩:=lR hH hi hg;unfold Av at h;split at h
    ·rename_i _ hv;cases hq:liesAt P P.depth e (c.length/P.cellsOf e) o bt 1<;>rw[hq]at h
     ·cases h
     simp only[cond_true]at h;unfold x6 at h;split at h
     ·rename_i W1 hs;cases h;obtain⟨v',y1,y2⟩:=hrow o _ hv;have y3:v'=.pointer none:=y2.of_flat 1 rfl;subst y3;have ho:o<c.length:=(List.getElem?_eq_some_iff.1 hv).1;have hs1:=D6 hH hi hg;obtain⟨ob,hb2,hff⟩:=Ao hH hi hg;rw[hb]at hb2;cases hb2;obtain⟨hff,_⟩:=hff _ _ _ rfl;obtain⟨cc,ee,ff,hg2,hl2,hfr2,_,hW1⟩:=nh hs;rw[hg]at hg2;cases hg2;obtain⟨s1,s2,s3⟩:=kI hH hi hs (.cons _ _ _ _ (.ptr n o i hi) .nil);have hlies:liesAt P P.depth e (i.z/P.cellsOf e) (o+i.s) bt 1=true:=by
       by_cases hce:P.cellsOf e=0
       ·rw[hce]at hq ⊢;simp only[Nat.div_zero]at hq ⊢;have:=nC (q:=0) (count':=0) (by omega) hq;have hno:∀d u n off,liesAt P d e 0 off u n=true->False:=fun d=>by
         induction d with
         |zero=>intro u n off h;cases h
         |succ d ih=>
          intro u n off h;unfold liesAt at h;simp only[YR]at h;rcases h with h|h
          ·cases hd:P.depth with
           |zero=>rw[hd]at h;cases h
           |succ dd=>rw[hd]at h;unfold rowAt at h;simp[hce]at h
          cases hu':P.underlying u with
          |none=>rw[hu']at h;cases h
          |some t=>
           rw[hu']at h;cases t<;>first|(cases h;done)|skip
           exact ih _ _ _ h
        exact(hno _ _ _ _ hq).elim
       have hke:P.cellsOf e=i.k:=by
        cases hinf:P.info? e with
        |none=>simp[Program.cellsOf,hinf]at hce
        |some t=>simp[Program.cellsOf,hinf,hk t hinf]
       have hp:0<i.k:=by rw[<-hke];exact Nat.pos_of_ne_zero hce
       have hdiv:i.s=i.s/i.k*i.k:=by have:=Nat.div_add_mod i.s i.k;rw[hs1,Nat.add_zero,Nat.mul_comm]at this;exact this.symm
       have hcount:i.s/i.k+c.length/P.cellsOf e<=i.z/P.cellsOf e:=by have a1:=Nat.add_mul_div_right c.length (i.s/i.k) hp;rw[<-hdiv]at a1;rw[hke,YX,<-a1];exact Nat.div_le_div_right (by omega)
       have:=nC (P:=P) hcount hq;rw[hke,<-hdiv]at this;rw[hke];exact this
      have hcall:=hf i.b (o+i.s) i.z e w (by rw[aY hb,YX];exact y1) (by simp[World.shape?,hb,hz]) (by omega) hlies (by
       simp only[World.frozen?,hb];cases q:(decide (f'.1<=o+i.s)&&decide (o+i.s<f'.2))with
       |false=>rfl
       |true=>
        simp only[Yr,decide_eq_true_eq]at q;exact absurd (hff o (by omega) (by omega) (by omega)) (hfr2 o (Nat.le_refl _) (by simp)))
      refine CallsIn.mono (callsIn_wide.2 hcall) fun en w' ⟨he,hw⟩=>?_
      subst he hw;have hset:w.setCells i.b (o+i.s) [.pointer (some ⟨i.b,o+i.s,none⟩)]=w.setCell ⟨i.b,o+i.s,none⟩ (.pointer (some ⟨i.b,o+i.s,none⟩)):=rfl;rw[hset]at s2 s3;exact⟨ρ,s3,s2,.flat 8 _ rfl⟩
     cases h
    ·rename_i _ m' p hv;cases hq:(Nat.beq n m'&&Nat.beq o p)<;>rw[hq]at h
     ·cases h
     cases h;simp only[Yr]at hq;have e1:=Yp hq.1;have e2:=Yp hq.2;subst e1 e2;obtain⟨v',y1,y2⟩:=hrow o _ hv;have y3:v'=.pointer (some ⟨i.b,o+i.s,none⟩):=by
      cases y2 with
      |flat k _ hk=>cases k<;>simp[aO]at hk
      |ptr _ _ i' hi'=>rw[hi]at hi';cases hi';rfl
     subst y3;refine CallsIn.mono (callsIn_wide.2 (hu i.b (o+i.s) w (by rw[YX i.s o]at y1;rw[aY hb];exact y1))) fun en w' ⟨he,hw⟩=>?_
     subst he hw;exact⟨ρ,.refl _ _ _ _,hH,.flat 8 _ rfl⟩
    cases h
   cases h
 cases h
end
end Go.Proofs.YthlkgmdkabelpaaGreat.X
