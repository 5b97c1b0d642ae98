/-
  Packed by program (tools/pack.py) out of the texts MS1 MS0 MSA MS2 MS3. No condition.
-/
import Derived.Test.YthlkgmdkabelpaaGreatZM
import Derived.Test.YthlkgmdkabelpaaGreatZ2
set_option linter.all false
namespace Go.Proofs.YthlkgmdkabelpaaGreat.X
open Go Go.RowKit Go.Proofs.YthlkgmdkabelpaaGreat.St
theorem PO(a:List HB)(ha:a.length<=1000000):Fn Tryz.prog 24 [sl a,sl a] (.ret (.bool true)):=by
 refine fY Tryz.func24 Tryz.results24 (h:=?_);refine rs ?_;refine rS ?_;refine cf ?_;refine sk (rS ?_);refine fo (fun i:Nat=>⟨ao [(0,some (sl a)),(1,some (sl a)),(5,some (.int .i64 (i:Nat)))],wd [] 0 [] 0,[]⟩) (fun i=>i<=a.length) (fun i=>a.length-i) 0 (abW _) (fun i hv h=>?_) (fun i hv h=>?_)
 ·refine bs (rd ?_);refine cf ?_;refine ap ?_;refine rl ?_;exact nx (i+1) (by omega) (by omega)
 refine rs ?_;refine rt ?_;rfl
theorem Ui:bg Tryz.prog 8 [] (wd [] 0 [] 0) fun e W'=>e=.ret (.pointer (some ⟨0,0,none⟩))/\W'.get 0=some (aE [] 0)/\W'.next<=1:=by
 refine low Tryz.func8 Tryz.results8 (h:=?_);refine rs ?_;refine rs ?_;refine rt ?_;exact⟨rfl,by simp(disch:=decide) only[ae,ab,aa];rfl,Nat.le_refl _⟩
theorem QG:bg Tryz.prog 9 [] (wd [] 0 [] 0) fun e W'=>e=.ret (.pointer (some ⟨0,0,none⟩))/\W'.get 0=some (.cells [.slice none 0 0] 69 (0,0))/\W'.next<=1:=by
 refine low Tryz.func9 Tryz.results9 (h:=?_);refine rs ?_;refine rs ?_;refine rt ?_;exact⟨rfl,by simp(disch:=decide) only[ae,ab,aa],Nat.le_refl _⟩
theorem mO{P:Program}{k:Nat}{s s2 s':XS}(h:bz P k s s2)(h':bz P k s2 s'):bz P k s s':=fun N ρ0 W0 w0 e ex a w h0 h1 h2 hc=>h' N ρ0 W0 w0 e ex a w h0 h1 h2 (h N ρ0 W0 w0 e ex a w h0 h1 h2 hc)
theorem UB{W:XW}{e:TypeId}{b n len cap s by_:Nat}{C src:List Value}(hg:W.get b=some (.cells C e (0,0)))(hc:bd cap=true)(hl:C.length=len*s)(hn:0<n)(hp:0<s)(hb:by_*(len+n)<=1099511627776)(hb2:len+n<=1099511627776) :
 tW W e s n by_ src (.slice (some ⟨b,0,none⟩) len cap)=some (.mod (.slice (some ⟨W.next,0,none⟩) (len+n) cap) ((W.put b none).push (.cells (C++src) e (0,0)))):=by
 show tN (match W.get b with
  |some (.cells c e' fr)=>bif Nat.beq e e'&&Nat.beq c.length (len*s)then(bif bd cap then(bif Nat.beq n 0&&Nat.ble len cap then iQ (W.put b none) (.cells c e fr) len cap else none)else _)else none
  |_=>none) (bif Nat.beq n 0 then _ else bif Nat.blt 0 s then pa W len n cap s by_ e src (some ⟨b,0,none⟩)else none)=_
 rw[hg];show tN (bif Nat.beq e e&&Nat.beq C.length (len*s)then(bif bd cap then(bif Nat.beq n 0&&Nat.ble len cap then iQ (W.put b none) (.cells C e (0,0)) len cap else none)else _)else none) _=_;rw[acb,hl,acb,hc,gz (show n≠0 by omega)];simp only[Bool.and_true,cond_true,Bool.false_and,cond_false];rw[mj hp,cond_true];show pa W len n cap s by_ e src (some ⟨b,0,none⟩)=_;have h1:Nat.ble (0+(len+n)*s) (nU (W.get b))=false:=by rw[hg];refine BQ ?_;show C.length<_;rw[hl,Nat.zero_add,ac7];have:=Nat.mul_pos hn hp;omega
 show(bif bd cap||_ then(bif Nat.ble (0+(len+n)*s) (nU (W.get b))&&_&&_ then _ else wZ W b 0 len n cap s by_ e src (W.get b))else _)=_;rw[hc,Bool.true_or,cond_true,h1,Bool.false_and,Bool.false_and,cond_false,hg];show(bif bd cap&&Nat.beq e e&&Nat.ble (0+len*s) C.length&&fi by_ (len+n)&&!nX (0,0) _ _&&(Nat.beq 0 0||_)&&Nat.beq (0%s) 0 then iQ (W.put b none) (.cells ((C.drop 0).take (len*s)++src) e (0,0)) (len+n) cap else none)=_;rw[hc,acb,hl,Nat.zero_add,ox (Nat.le_refl _),uB hb hb2,Nat.zero_mod,List.drop_zero,List.take_of_length_le (by rw[hl];exact Nat.le_refl _)];rfl
theorem QV{W:XW}{n s b cap:Nat}{C:List Value}(hg:b9 (W.get b)=some C)(hl:C.length=n*s)(hn:0<n):fE W s n (.slice (some ⟨b,0,none⟩) n cap)=some C:=by
 cases hw:W.get b with
 |none=>rw[hw]at hg;cases hg
 |some o=>
  rw[hw]at hg;cases o with
  |cells c e fr=>
   cases hg;show(bif Nat.beq n 0 then some []else match W.get b with
    |some (.cells c _ _)=>let q:=(c.drop 0).take (n*s);bif Nat.beq q.length (n*s)then some q else none
    |_=>none)=_
   rw[hw,gz (show n≠0 by omega)];show(bif Nat.beq ((C.drop 0).take (n*s)).length (n*s)then some ((C.drop 0).take (n*s))else none)=_;rw[List.drop_zero,List.take_of_length_le (by rw[hl];exact Nat.le_refl _),hl,acb];rfl
  |_=>cases hg
def Cr(b cap:Nat)(C:List Value)(m:Nat):Value:=.slice (some ⟨b,0,none⟩) m cap
theorem WH{W:XW}{e:TypeId}{b n len cap s by_:Nat}{C src:List Value}(hg:b9 (W.get b)=some C)(he:W.get b=some (.cells C e (0,0)))(hc:bd cap=true)(hl:C.length=len*s)(hn:0<n)(hp:0<s)(hb:by_*(len+n)<=1099511627776)(hb2:len+n<=1099511627776) :
 tW W e s n by_ src (Cr b cap C len)=some (.mod (Cr W.next cap (C++src) (len+n)) ((W.put b none).push (.cells (C++src) e (0,0)))):=UB he hc hl hn hp hb hb2
theorem Qo{W:XW}{n s b cap:Nat}{C:List Value}(hg:b9 (W.get b)=some C)(hl:C.length=n*s)(hn:0<n):fE W s n (Cr b cap C n)=some C:=QV hg hl hn
theorem Mx{b cap m:Nat}{C:List Value}:(Cr b cap C m).cells=#[Cr b cap C m]:=rfl
theorem RO{b cap m:Nat}{C:List Value}:dr (Cr b cap C m)=true:=rfl
theorem Ns{b cap m:Nat}{C:List Value}:pE (Cr b cap C m)=some m:=rfl
theorem wM:∀{l o o':List Int},o.length<=9->qv l o=some o'->o'.length<=9
 |[],o,o',h,e=>by cases e;exact h
 |x::l,o,o',h,e=>by
  unfold qv at e;split at e
  ·exact wM h e
  split at e
  ·cases e
  rename_i q;exact wM (by omega) e
theorem Dv{l:List Int}:(rK l).1.length<=9:=by
 unfold rK;cases h:qv l []with
 |none=>exact abW _
 |some o=>exact wM (o:=[]) (abW _) h
@[go_sem high] theorem fold_sl {t:List Int}:gq (.cells [sl t] 35 (0,0)) 1 1=some (.new (ro 35 [t]) fun k=>gs k 1 [t]):=rfl
@[go_sem high] theorem fold_sl0:gq (.cells [] 35 (0,0)) 0 0=some (.new (ro 35 ([]:List (List Int))) fun k=>gs k 0 ([]:List (List Int))):=rfl
theorem Ga{l:List (List Int)}{s:List Int}:lc l s<=l.length:=BV l.length 0 l.length (by omega) (abW _)
theorem G2{P:Program}{N k:Nat}{c r:Code}{s:XS}{Q:XQ}{α:Type}(S:α->XS)(V:α->Prop)(h:ar P N k c s fun e s'=>e=.norm/\∃a,V a/\bz P k s' (S a))(q:∀a,V a->ar P N k r (S a) Q):ar P N k (.seq c r) s Q:=
 ai (fu (fun e s' ⟨he,a,hv,hl⟩=>by subst he;exact eR hl (q a hv)) h)
attribute [go_sem high] WH Qo RO Ns
attribute [go_sem ↓ high] Mx
abbrev zC:ah:=.cells [.slice none 0 0] 40 (0,0)
def OS(n:Nat)(o1:List Ce)(x:Ce)(o2:List Ce):ah:=.cells (o1.flatMap El.enc++([.int .i64 x.id,.int .i64 x.dim,gs n aq x.sd]++o2.flatMap El.enc)) 58 (0,0)
theorem wW{P:Program}{k m n nl:Nat}{o:ah}{F:List (Nat×Option Value)}{L:List (Nat×Option ah)}{lg:List Nat}{ds:List cq}(hm:n<=m)(hn:m<16383):bz P k ⟨ao F,wd L n lg nl,ds⟩ ⟨ao F,wd ((m,some o)::L) (m+1) lg nl,ds⟩:=by
 refine Gu (fun t v h=>⟨v,h,i8⟩) (fun x q h=>?_) (Nat.le_succ_of_le hm) rfl;obtain⟨h1,h2⟩:=bY h;by_cases e:x<n
 ·left;rw[aa (by omega)]at h2;exact(ae e (by omega)).trans h2
 exact .inr (Nat.le_of_not_lt e)
structure Sx where
 j:Nat
 o:List Ce
 h:Option (Ce×List Ce)
def Xp(x:Sx):ah:=match x.h with
 |none=>ro 58 x.o
 |some (c,o2)=>OS 3 x.o c o2
def sd3(x:Sx):ah:=match x.h with
 |none=>ro 60 ([]:List Sd)
 |some (c,_)=>ro 60 c.sd
instance {x:Sx}:jO Tryz.prog (sd3 x):=⟨by unfold sd3;split<;>exact aB b7.h⟩
theorem GD{ρ:Ren}:∀{a a' b b':List Value},aU ρ a a'->aU ρ b b'->aU ρ (a++b) (a'++b')
 |_,_,_,_,.nil,h=>h
 |_,_,_,_,.cons _ _ _ _ h hs,h'=>.cons _ _ _ _ h (GD hs h')
theorem Aw{ρ:Ren}:∀{a b x:List Value},aU ρ (a++b) x->∃x1 x2,x=x1++x2/\aU ρ a x1/\aU ρ b x2
 |[],b,x,h=>⟨[],x,rfl,.nil,h⟩
 |v::a,b,_,.cons _ v' _ l' h hs=>by
  obtain⟨x1,x2,rfl,h1,h2⟩:=Aw (a:=a) (b:=b) hs;exact⟨v'::x1,x2,rfl,.cons _ _ _ _ h h1,h2⟩
theorem uU{T:RT}{a a' b b':List Value}(h:jz T a a')(h':jz T b b'):jz T (a++b) (a'++b'):=fun ρ ρ' x ht hv=>by
 obtain⟨x1,x2,rfl,h1,h2⟩:=Aw hv;exact GD (h _ _ _ ht h1) (h' _ _ _ ht h2)
instance {x:Sx}:x8 Tryz.prog (Xp x) 3:=⟨fun θ h=>by
 unfold Xp;split
 ·exact aT aj (aB b7.h)
 exact cm (uU ((inferInstance:b7 _).h _ aj) (uU (av ((inferInstance:Br (.int .i64 _)).h _ aj) (av ((inferInstance:Br (.int .i64 _)).h _ aj) (av (ga h rfl) aR))) ((inferInstance:b7 _).h _ aj)))⟩
instance {n:Nat}{o1 o2:List Ce}{x:Ce}:x8 Tryz.prog (OS n o1 x o2) n:=⟨fun θ h=>cm (uU ((inferInstance:b7 _).h _ aj) (uU (av ((inferInstance:Br (.int .i64 _)).h _ aj) (av ((inferInstance:Br (.int .i64 _)).h _ aj) (av (ga h rfl) aR))) ((inferInstance:b7 _).h _ aj)))⟩
abbrev cF(all:List (List Int))(j:Nat)(r:List (Nat×Option Value)):List (Nat×Option Value):=(2,some (.pointer (some ⟨0,0,none⟩)))::(3,some (sl all))::(13,some (.pointer (some ⟨1,0,none⟩)))::(14,some (.int .i64 (j:Nat)))::r
abbrev sF(l all:List (List Int))(i:Nat)(r:List (Nat×Option Value)):List (Nat×Option Value):=(0,some (sl l))::(2,some (.pointer (some ⟨0,0,none⟩)))::(3,some (sl all))::(4,some (.int .i64 (i:Nat)))::r
section
variable {P:Program} [hM:kz P] {N k:Nat} {all:Array Oper} {l:List Oper} {o:Oper} {s s1:XS} {Q:XQ}
theorem xc{f:FuncId}{args:List Value}{S:aW->XW->Prop}(he:cS P f)(hl:bg P f args s.W S)
 (q:∀e W',S e W'->∃v fr',e=.ret v/\cw N s.fr o.dst (some v)=some fr'/\jm P N k all l ⟨fr',W',s.ds⟩ Q) (hw:gQ all s.fr o=some true:=by rfl)
 (hx:cj P s.fr s.W o.type o.op=some (.enter f args):=by simp(disch:=first|decide|omega|(simp only[abP,List.length_cons,List.length_nil,abR,abT,abX]<;>omega)|(simp(disch:=decide) only[ae,ab,aa,b9.eq_1];done)) only[go_sem]<;>with_reducible rfl):jm P N k all (o::l) s Q:=fD he hw hx hl q
end
end Go.Proofs.YthlkgmdkabelpaaGreat.X
