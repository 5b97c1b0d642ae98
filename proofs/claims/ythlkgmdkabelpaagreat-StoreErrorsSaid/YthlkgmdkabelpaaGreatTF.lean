/-
  Packed by program (tools/pack.py) out of the texts F40 U0 U01 U1 U2 U3 U4. No condition.
-/
import Derived.Test.YthlkgmdkabelpaaGreatTD
import Derived.Test.YthlkgmdkabelpaaGreatTE
import Derived.Test.YthlkgmdkabelpaaGreatTS
set_option linter.all false
namespace Go.Proofs.YthlkgmdkabelpaaGreat.X
open Go Go.RowKit
abbrev HB:={ l:List UInt8 // l.length=32 }
def cr(h:HB):Value:=.agg (ao h.1).toArray
structure qa(P:Program)(T e:TypeId):Prop where
 hu:P.underlying T=some (.array 32 e)
 hsz:(P.info? e).map (·.size)=some 1
 hue:P.underlying e=some (.int .u8)
 hg:P.eqGuardType P.depth T=false
section
variable {P:Program} {T e:TypeId}
theorem H8{k:IntKind}(hue:P.underlying e=some (.int k)){d:Nat}{j:IntKind}{a b:Int}:aD P (Op.equalIn (d+1) e (.int j a) (.int j b))=some (a==b):=by
 rw[Op.equalIn,aV,eW hue];show aD P (if j=j then pure (a==b)else stuck "==: kinds differ")=_;rw[if_pos rfl];rfl
theorem LE(a b:UInt8):((((a.toNat:Nat):Int))==((b.toNat:Nat):Int))=(a==b):=by
 by_cases h:a=b
 ·subst h;simp
 have h2:a.toNat≠b.toNat:=fun q=>h (UInt8.toNat_inj.1 q)
 have:(((a.toNat:Nat):Int))≠((b.toNat:Nat):Int):=by omega
 rw[beq_false_of_ne this,beq_false_of_ne h]
theorem sI(H:qa P T e)(a b:List UInt8)(ha:a.length=32)(hb:b.length=32)(d:Nat) :
 aD P (Op.equalIn (d+2) T (.agg (ao a).toArray) (.agg (ao b).toArray))=some (a==b):=by
 rw[show d+2=(d+1)+1 from rfl,Op.equalIn,aV,eW H.hu];simp only[Option.bind_some];rw[aV,vT H.hsz];simp only[Option.bind_some];rw[Std.Legacy.Range.forIn_eq_forIn_range',aV];have key:∀L:List Nat,(∀i∈L,i<32)->aD P (forIn L ((none:Option Bool),()) (fun i __s=>do
  let __do_lift <-part e (ao a).toArray (i*1)
  let __do_lift_1 <-part e (ao b).toArray (i*1)
  let __do_lift <-Op.equalIn (d+1) e __do_lift __do_lift_1
  if(!__do_lift)=true then pure (ForInStep.done (some false,()))else pure (ForInStep.yield (none,())):Nat->Option Bool×Unit->Sem (ForInStep (Option Bool×Unit))))
  = some (if L.all (fun i=>a.getD i 0==b.getD i 0)then none else some false,()):=by
  intro L
  induction L with
  |nil=>intro _;rfl
  |cons i L ih=>
   intro hL;have hin:i<32:=hL i (by simp);have hat:∀q:List UInt8,q.length=32->aD P (part e (ao q).toArray (i*1))=some (.int .u8 (((q.getD i 0).toNat:Nat):Int)):=fun q hq=>tN H.hue (by
    rw[Nat.mul_one,List.getElem?_toArray];show(q.map bv)[i]?=_;rw[Y7,Yl (by omega),Yn,Yl (by omega)];rfl)
   rw[List.forIn_cons,aV,aV,hat a ha];simp only[Option.bind_some];rw[aV,hat b hb];simp only[Option.bind_some];rw[aV,H8 H.hue];simp only[Option.bind_some,LE];cases hq:(a.getD i 0==b.getD i 0)with
   |true=>
    have e1:(List.all (i::L) fun i=>a.getD i 0==b.getD i 0)=List.all L fun i=>a.getD i 0==b.getD i 0:=by simp only[List.all_cons,hq,Bool.true_and]
    rw[e1];exact ih fun j hj=>hL j (by simp[hj])
   |false=>
    have e1:(List.all (i::L) fun i=>a.getD i 0==b.getD i 0)=false:=by simp only[List.all_cons,hq,Bool.false_and]
    rw[e1];rfl
 rw[key _ (by
  intro i hi;simp[Std.Legacy.Range.size]at hi;omega)]
 have hall:((List.range' [:32].start [:32].size [:32].step).all (fun i=>a.getD i 0==b.getD i 0))=(a==b):=by
  rw[Bool.eq_iff_iff,Zz,beq_iff_eq];constructor
  ·intro h;apply Zb;intro i;by_cases hi:i<32
   ·have:=h i (by simp[Std.Legacy.Range.size];omega);rw[beq_iff_eq,Yn,Yn,Yl (by omega),Yl (by omega)]at this;rw[Yl (by omega),Yl (by omega)];exact congrArg some this
   rw[YA (by omega),YA (by omega)]
  rintro rfl i _;simp
 rw[hall];cases a==b<;>rfl
theorem Bw(H:qa P T e){a b:List UInt8}(ha:a.length=32)(hb:b.length=32){x y:Operand} :
 dM P .eql T x y (some (.agg (ao a).toArray)) (some (.agg (ao b).toArray))=some (.val (some (.bool (a==b))))/\dM P .neq T x y (some (.agg (ao a).toArray)) (some (.agg (ao b).toArray))=some (.val (some (.bool (!(a==b))))):=by
 have h1:aD P (Go.eqGuard .eql T x y (.agg (ao a).toArray) (.agg (ao b).toArray))=some ():=by show aD P (if !(P.eqGuardType P.depth T)then pure ()else _)=_;rw[H.hg];rfl
 have h2:aD P (Go.eqGuard .neq T x y (.agg (ao a).toArray) (.agg (ao b).toArray))=some ():=by show aD P (if !(P.eqGuardType P.depth T)then pure ()else _)=_;rw[H.hg];rfl
 have hE:aD P (Op.equal T (.agg (ao a).toArray) (.agg (ao b).toArray))=some (a==b):=sI H a b ha hb 9998;have q1:aD P (n8 .eql T x y (.agg (ao a).toArray) (.agg (ao b).toArray))=some (.bool (a==b)):=by unfold n8;rw[aV,h1];simp only[Option.bind_some];show aD P (Op.equal T (.agg (ao a).toArray) (.agg (ao b).toArray) >>= fun r=>(pure (Value.bool r):Sem Value))=_;rw[aV,hE];rfl
 have q2:aD P (n8 .neq T x y (.agg (ao a).toArray) (.agg (ao b).toArray))=some (.bool (!(a==b))):=by unfold n8;rw[aV,h2];simp only[Option.bind_some];show aD P (Op.equal T (.agg (ao a).toArray) (.agg (ao b).toArray) >>= fun r=>(pure (Value.bool (!r)):Sem Value))=_;rw[aV,hE];rfl
 have f:=sK (qJ a);have g:=sK (qJ b);constructor
 ·show(bif bZ _&&bZ _ then kX (aD P _)else _)=_;rw[f,g,q1];rfl
 show(bif bZ _&&bZ _ then kX (aD P _)else _)=_;rw[f,g,q2];rfl
variable {β:Type}
def gx(enc:β->Value):List (HB×β)->Nat->List MapEntry
 |[],_=>[]
 |x::l,i=>{ key:=cr x.1,val:=enc x.2,born:=i }::gx enc l (i+1)
def iK(enc:β->Value)(l:List (HB×β)):List MapEntry:=gx enc l 0
def bM(h:HB):List (HB×β)->Option β
 |[]=>none
 |x::l=>if h=x.1 then some x.2 else bM h l
def me(k:HB):List (HB×β)->Nat->Option (Nat×β)
 |[],_=>none
 |x::l,i=>if k=x.1 then some (i,x.2)else me k l (i+1)
theorem rB(k:HB):∀(l:List (HB×β)) (i:Nat),(me k l i).map (·.2)=bM k l
 |[],_=>rfl
 |x::l,i=>by
  unfold me bM;split
  ·rfl
  exact rB k l (i+1)
theorem KS(H:qa P T e)(em:Bool)(h:HB)(n:Nat):aD P (Instr.checkKey em (n+2) T (cr h))=some ():=by
 obtain⟨a,ha⟩:=h;unfold cr;rw[show n+2=(n+1)+1 from rfl,Instr.checkKey,aV,eW H.hu];simp only[Option.bind_some];rw[Std.Legacy.Range.forIn_eq_forIn_range'];have key:∀L:List Nat,(∀i∈L,i<32)->aD P (forIn L PUnit.unit (fun i __s=>do
  let __do_lift <-sizeOf e
  let __do_lift <-part e (ao a).toArray (i*__do_lift)
  Instr.checkKey em (n+1) e __do_lift
  pure (ForInStep.yield PUnit.unit):Nat->PUnit->Sem (ForInStep PUnit)))=some PUnit.unit:=by
  intro L
  induction L with
  |nil=>intro _;rfl
  |cons i L ih=>
   intro hL;have hin:i<32:=hL i (by simp);have hp:aD P (part e (ao a).toArray (i*1))=some (.int .u8 (((a.getD i 0).toNat:Nat):Int)):=tN H.hue (by
    rw[Nat.mul_one,List.getElem?_toArray];show(a.map bv)[i]?=_;rw[Y7,Yl (by omega),Yn,Yl (by omega)];rfl)
   have hc:aD P (Instr.checkKey em (n+1) e (.int .u8 (((a.getD i 0).toNat:Nat):Int)))=some ():=by rw[Instr.checkKey,aV,eW H.hue];rfl
   rw[List.forIn_cons,aV,aV,vT H.hsz];simp only[Option.bind_some];rw[aV,hp];simp only[Option.bind_some];rw[aV,hc];simp only[Option.bind_some];exact ih fun j hj=>hL j (by simp[hj])
 rw[aV,key _ (by
  intro i hi;simp[Std.Legacy.Range.size]at hi;omega)]
 rfl
theorem tq(h:HB):bZ (cr h)=true:=sK (qJ h.1)
theorem lT(H:qa P T e)(h:HB)(em:Bool):fQ P T (cr h) em=true:=by
 unfold fQ;rw[tq,show(10000:Nat)=9998+2 from rfl,KS H em h 9998];rfl
theorem Ei(H:qa P T e){enc:β->Value}(k:HB):∀(l:List (HB×β)) (i j:Nat),aD P (Instr.findAsking T (cr k) (gx enc l j) i)=some ((me k l i).map fun x=>(x.1,enc x.2))
 |[],_,_=>rfl
 |x::l,i,j=>by
  unfold gx Instr.findAsking;rw[aV];have hE:aD P (Op.equal T (cr k) (cr x.1))=some (k.1==x.1.1):=sI H k.1 x.1.1 k.2 x.1.2 9998;rw[hE];simp only[Option.bind_some];unfold me;by_cases h:k=x.1
  ·subst h;rw[if_pos rfl,beq_self_eq_true,if_pos rfl];rfl
  have e2:(k.1==x.1.1)=false:=by rw[beq_eq_false_iff_ne];exact fun q=>h (Subtype.ext q)
  rw[if_neg h,e2,if_neg (by simp)];exact Ei H k l (i+1) (j+1)
theorem zk{enc:β->Value}:∀(l:List (HB×β)) (j:Nat),(gx enc l j).all (fun e=>bZ e.key)=true
 |[],_=>rfl
 |x::l,j=>by
  unfold gx;rw[List.all_cons,tq,zk l (j+1)];rfl
theorem lE(H:qa P T e){enc:β->Value}(k:HB)(l:List (HB×β)):fl P T (cr k) (iK enc l)=some ((me k l 0).map fun x=>(x.1,enc x.2)):=by
 unfold fl iK;rw[zk,cond_true];cases l with
 |nil=>
  show aD P (Instr.findKey T (cr k) [])=_;unfold Instr.findKey;rw[aV,eW H.hu];rfl
 |cons x l=>
  unfold Instr.findKey;rw[aV,eW H.hu];simp only[Option.bind_some];have hs:Instr.findNow (.array 32 e) (cr k) (gx enc (x::l) 0) 0=none:=rfl;rw[hs];exact Ei H k (x::l) 0 0
theorem y6{enc:β->Value}(k:HB)(b:β):∀(l:List (HB×β)) (j:Nat),gx enc l j++[⟨cr k,enc b,j+l.length⟩]=gx enc (l++[(k,b)]) j
 |[],j=>rfl
 |x::l,j=>by
  show _::(gx enc l (j+1)++_)=_::gx enc (l++[(k,b)]) (j+1);rw[<-y6 k b l (j+1),List.length_cons,Zt j 1,YX 1]
theorem uK(h:HB):dH (cr h):=di 8 (tq h)
theorem zb{enc:β->Value}(hb:∀b,dH (enc b)):∀(l:List (HB×β)) (j:Nat),∀x∈gx enc l j,dH x.key/\dH x.val
 |[],_,x,h=>by cases h
 |y::l,j,x,h=>by
  rcases List.mem_cons.1 h with rfl|h
  ·exact⟨uK _,hb _⟩
  exact zb hb l (j+1) x h
theorem kr{enc:β->Value}(hb:∀b,dH (enc b))(l:List (HB×β))(c:Nat):gJ P (.map (iK enc l) c):=fun T hT=>iw (jO.bare hT (zb hb l 0))
end
theorem mixed:Tryz.prog.follows .mixedOrders=true:=by kernel_rfl
theorem Yc:sz Tryz.prog 3=some 1:=by kernel_rfl
theorem LH:bw Tryz.prog 3=some false:=by kernel_rfl
theorem MF:ax Tryz.prog 3=some (.int .i64 0):=by kernel_rfl
theorem LW:Tryz.prog.info? 3=some Tryz.t3:=by kernel_rfl
theorem XN:sz Tryz.prog 4=some 1:=by kernel_rfl
theorem WT:bw Tryz.prog 4=some false:=by kernel_rfl
theorem Ve:ax Tryz.prog 4=some (.bool false):=by kernel_rfl
theorem Vu:Tryz.prog.info? 4=some Tryz.t4:=by kernel_rfl
theorem X4:sz Tryz.prog 5=some 1:=by kernel_rfl
theorem WV:bw Tryz.prog 5=some false:=by kernel_rfl
theorem Vm:ax Tryz.prog 5=some (.int .u8 0):=by kernel_rfl
theorem Vd:Tryz.prog.info? 5=some Tryz.t5:=by kernel_rfl
theorem XU:sz Tryz.prog 9=some 1:=by kernel_rfl
theorem Xy:bw Tryz.prog 9=some false:=by kernel_rfl
theorem Mp:ax Tryz.prog 9=some (.string (str [])):=by kernel_rfl
theorem Mm:Tryz.prog.info? 9=some Tryz.t9:=by kernel_rfl
theorem XJ:sz Tryz.prog 92=some 1:=by kernel_rfl
theorem Wq:bw Tryz.prog 92=some false:=by kernel_rfl
theorem RR:ax Tryz.prog 92=some (.nilIface):=by kernel_rfl
theorem T6:Tryz.prog.info? 92=some Tryz.t92:=by kernel_rfl
theorem Xl:sz Tryz.prog 20=some 1:=by kernel_rfl
theorem UR:bw Tryz.prog 20=some false:=by kernel_rfl
theorem RL:ax Tryz.prog 20=some (.nilIface):=by kernel_rfl
theorem TN:Tryz.prog.info? 20=some Tryz.t20:=by kernel_rfl
theorem WU:sz Tryz.prog 22=some 1:=by kernel_rfl
theorem UJ:bw Tryz.prog 22=some false:=by kernel_rfl
theorem S5:ax Tryz.prog 22=some (.slice none 0 0):=by kernel_rfl
theorem QD:Tryz.prog.info? 22=some Tryz.t22:=by kernel_rfl
theorem WW:sz Tryz.prog 80=some 1:=by kernel_rfl
theorem UY:bw Tryz.prog 80=some false:=by kernel_rfl
theorem Sz:ax Tryz.prog 80=some (.slice none 0 0):=by kernel_rfl
theorem Ty:Tryz.prog.info? 80=some Tryz.t80:=by kernel_rfl
theorem Xf:sz Tryz.prog 35=some 1:=by kernel_rfl
theorem UL:bw Tryz.prog 35=some false:=by kernel_rfl
theorem IC:ax Tryz.prog 35=some (.slice none 0 0):=by kernel_rfl
theorem IS:Tryz.prog.info? 35=some Tryz.t35:=by kernel_rfl
theorem WX:sz Tryz.prog 23=some 32:=by kernel_rfl
theorem Wo:bw Tryz.prog 23=some true:=by kernel_rfl
theorem RE:ax Tryz.prog 23=some (.agg #[.int .u8 0,.int .u8 0,.int .u8 0,.int .u8 0,.int .u8 0,.int .u8 0,.int .u8 0,.int .u8 0,.int .u8 0,.int .u8 0,.int .u8 0,.int .u8 0,.int .u8 0,.int .u8 0,.int .u8 0,.int .u8 0,.int .u8 0,.int .u8 0,.int .u8 0,.int .u8 0,.int .u8 0,.int .u8 0,.int .u8 0,.int .u8 0,.int .u8 0,.int .u8 0,.int .u8 0,.int .u8 0,.int .u8 0,.int .u8 0,.int .u8 0,.int .u8 0]):=by kernel_rfl
theorem TW:Tryz.prog.info? 23=some Tryz.t23:=by kernel_rfl
theorem T7:sz Tryz.prog 24=some 32:=by kernel_rfl
theorem L7:bw Tryz.prog 24=some true:=by kernel_rfl
theorem Ij:ax Tryz.prog 24=some (.agg #[.int .u8 0,.int .u8 0,.int .u8 0,.int .u8 0,.int .u8 0,.int .u8 0,.int .u8 0,.int .u8 0,.int .u8 0,.int .u8 0,.int .u8 0,.int .u8 0,.int .u8 0,.int .u8 0,.int .u8 0,.int .u8 0,.int .u8 0,.int .u8 0,.int .u8 0,.int .u8 0,.int .u8 0,.int .u8 0,.int .u8 0,.int .u8 0,.int .u8 0,.int .u8 0,.int .u8 0,.int .u8 0,.int .u8 0,.int .u8 0,.int .u8 0,.int .u8 0]):=by kernel_rfl
theorem IF:Tryz.prog.info? 24=some Tryz.t24:=by kernel_rfl
theorem W6:sz Tryz.prog 48=some 1:=by kernel_rfl
theorem V9:bw Tryz.prog 48=some false:=by kernel_rfl
theorem RS:ax Tryz.prog 48=some (.slice none 0 0):=by kernel_rfl
theorem T8:Tryz.prog.info? 48=some Tryz.t48:=by kernel_rfl
theorem Xb:sz Tryz.prog 65=some 1:=by kernel_rfl
theorem VS:bw Tryz.prog 65=some true:=by kernel_rfl
theorem QY:ax Tryz.prog 65=some (.agg #[.map none]):=by kernel_rfl
theorem SU:Tryz.prog.info? 65=some Tryz.t65:=by kernel_rfl
theorem Xp:sz Tryz.prog 26=some 1:=by kernel_rfl
theorem UK:bw Tryz.prog 26=some false:=by kernel_rfl
theorem RO:ax Tryz.prog 26=some (.pointer none):=by kernel_rfl
theorem T9:Tryz.prog.info? 26=some Tryz.t26:=by kernel_rfl
theorem WR:sz Tryz.prog 63=some 1:=by kernel_rfl
theorem UT:bw Tryz.prog 63=some false:=by kernel_rfl
theorem Rg:ax Tryz.prog 63=some (.map none):=by kernel_rfl
theorem Ut:Tryz.prog.info? 63=some Tryz.t63:=by kernel_rfl
theorem Xx:sz Tryz.prog 69=some 1:=by kernel_rfl
theorem UI:bw Tryz.prog 69=some true:=by kernel_rfl
theorem QZ:ax Tryz.prog 69=some (.agg #[.slice none 0 0]):=by kernel_rfl
theorem Sw:Tryz.prog.info? 69=some Tryz.t69:=by kernel_rfl
theorem XD:sz Tryz.prog 28=some 1:=by kernel_rfl
theorem VK:bw Tryz.prog 28=some false:=by kernel_rfl
theorem Tr:ax Tryz.prog 28=some (.pointer none):=by kernel_rfl
theorem QN:Tryz.prog.info? 28=some Tryz.t28:=by kernel_rfl
theorem SD:sz Tryz.prog 72=some 33:=by kernel_rfl
theorem ML:bw Tryz.prog 72=some true:=by kernel_rfl
theorem Hx:ax Tryz.prog 72=some (.agg #[.int .u8 0,.int .u8 0,.int .u8 0,.int .u8 0,.int .u8 0,.int .u8 0,.int .u8 0,.int .u8 0,.int .u8 0,.int .u8 0,.int .u8 0,.int .u8 0,.int .u8 0,.int .u8 0,.int .u8 0,.int .u8 0,.int .u8 0,.int .u8 0,.int .u8 0,.int .u8 0,.int .u8 0,.int .u8 0,.int .u8 0,.int .u8 0,.int .u8 0,.int .u8 0,.int .u8 0,.int .u8 0,.int .u8 0,.int .u8 0,.int .u8 0,.int .u8 0,.string (str [])]):=by kernel_rfl
theorem Ic:Tryz.prog.info? 72=some Tryz.t72:=by kernel_rfl
theorem Xz:sz Tryz.prog 67=some 1:=by kernel_rfl
theorem Vw:bw Tryz.prog 67=some false:=by kernel_rfl
theorem Uc:ax Tryz.prog 67=some (.slice none 0 0):=by kernel_rfl
theorem TX:Tryz.prog.info? 67=some Tryz.t67:=by kernel_rfl
theorem Xc:sz Tryz.prog 82=some 2:=by kernel_rfl
theorem VO:bw Tryz.prog 82=some true:=by kernel_rfl
theorem QK:ax Tryz.prog 82=some (.agg #[.pointer none,.slice none 0 0]):=by kernel_rfl
theorem Q5:Tryz.prog.info? 82=some Tryz.t82:=by kernel_rfl
theorem W8:sz Tryz.prog 79=some 1:=by kernel_rfl
theorem Vg:bw Tryz.prog 79=some false:=by kernel_rfl
theorem Tb:ax Tryz.prog 79=some (.pointer none):=by kernel_rfl
theorem SF:Tryz.prog.info? 79=some Tryz.t79:=by kernel_rfl
theorem Xt:sz Tryz.prog 43=some 1:=by kernel_rfl
theorem VT:bw Tryz.prog 43=some false:=by kernel_rfl
theorem UA:ax Tryz.prog 43=some (.int .i64 0):=by kernel_rfl
theorem Uz:Tryz.prog.info? 43=some Tryz.t43:=by kernel_rfl
theorem Wd:sz Tryz.prog 113=some 1:=by kernel_rfl
theorem Ra:bw Tryz.prog 113=some false:=by kernel_rfl
theorem NW:ax Tryz.prog 113=some (.nilFunc):=by kernel_rfl
theorem P0:Tryz.prog.info? 113=some Tryz.t113:=by kernel_rfl
theorem VM:sz Tryz.prog 116=some 1:=by kernel_rfl
theorem Rn:bw Tryz.prog 116=some false:=by kernel_rfl
theorem P4:ax Tryz.prog 116=some (.nilFunc):=by kernel_rfl
theorem ND:Tryz.prog.info? 116=some Tryz.t116:=by kernel_rfl
theorem Vz:sz Tryz.prog 168=some 1:=by kernel_rfl
theorem SR:bw Tryz.prog 168=some false:=by kernel_rfl
theorem Pf:ax Tryz.prog 168=some (.nilFunc):=by kernel_rfl
theorem O2:Tryz.prog.info? 168=some Tryz.t168:=by kernel_rfl
theorem WS:sz Tryz.prog 58=some 3:=by kernel_rfl
theorem U8:bw Tryz.prog 58=some true:=by kernel_rfl
theorem IM:ax Tryz.prog 58=some (.agg #[.int .i64 0,.int .i64 0,.slice none 0 0]):=by kernel_rfl
theorem Gn:Tryz.prog.info? 58=some Tryz.t58:=by kernel_rfl
theorem Xh:sz Tryz.prog 60=some 2:=by kernel_rfl
theorem UV:bw Tryz.prog 60=some true:=by kernel_rfl
theorem GV:ax Tryz.prog 60=some (.agg #[.int .i64 0,.int .i64 0]):=by kernel_rfl
theorem I5:Tryz.prog.info? 60=some Tryz.t60:=by kernel_rfl
theorem Xm:sz Tryz.prog 40=some 1:=by kernel_rfl
theorem V6:bw Tryz.prog 40=some true:=by kernel_rfl
theorem Tq:ax Tryz.prog 40=some (.agg #[.slice none 0 0]):=by kernel_rfl
theorem Td:Tryz.prog.info? 40=some Tryz.t40:=by kernel_rfl
theorem Xv:sz Tryz.prog 38=some 1:=by kernel_rfl
theorem Vt:bw Tryz.prog 38=some false:=by kernel_rfl
theorem RD:ax Tryz.prog 38=some (.slice none 0 0):=by kernel_rfl
theorem Sn:Tryz.prog.info? 38=some Tryz.t38:=by kernel_rfl
theorem Xq:sz Tryz.prog 56=some 1:=by kernel_rfl
theorem MI:bw Tryz.prog 56=some false:=by kernel_rfl
theorem Tu:ax Tryz.prog 56=some (.slice none 0 0):=by kernel_rfl
theorem Sy:Tryz.prog.info? 56=some Tryz.t56:=by kernel_rfl
theorem WY:sz Tryz.prog 37=some 1:=by kernel_rfl
theorem Vs:bw Tryz.prog 37=some false:=by kernel_rfl
theorem TA:ax Tryz.prog 37=some (.slice none 0 0):=by kernel_rfl
theorem Q8:Tryz.prog.info? 37=some Tryz.t37:=by kernel_rfl
theorem U0:sz Tryz.prog 176=some 1:=by kernel_rfl
theorem TS:bw Tryz.prog 176=some false:=by kernel_rfl
theorem Nx:ax Tryz.prog 176=some (.map none):=by kernel_rfl
theorem Qe:Tryz.prog.info? 176=some Tryz.t176:=by kernel_rfl
theorem Vo:sz Tryz.prog 180=some 1:=by kernel_rfl
theorem Rj:bw Tryz.prog 180=some false:=by kernel_rfl
theorem PX:ax Tryz.prog 180=some (.map none):=by kernel_rfl
theorem OL:Tryz.prog.info? 180=some Tryz.t180:=by kernel_rfl
theorem UX:sz Tryz.prog 181=some 1:=by kernel_rfl
theorem SN:bw Tryz.prog 181=some false:=by kernel_rfl
theorem O8:ax Tryz.prog 181=some (.map none):=by kernel_rfl
theorem Ps:Tryz.prog.info? 181=some Tryz.t181:=by kernel_rfl
theorem VX:sz Tryz.prog 182=some 1:=by kernel_rfl
theorem Sa:bw Tryz.prog 182=some false:=by kernel_rfl
theorem Pt:ax Tryz.prog 182=some (.map none):=by kernel_rfl
theorem Px:Tryz.prog.info? 182=some Tryz.t182:=by kernel_rfl
theorem XL:sz Tryz.prog 76=some 1:=by kernel_rfl
theorem US:bw Tryz.prog 76=some false:=by kernel_rfl
theorem Tm:ax Tryz.prog 76=some (.map none):=by kernel_rfl
theorem QP:Tryz.prog.info? 76=some Tryz.t76:=by kernel_rfl
theorem VE:sz Tryz.prog 178=some 2:=by kernel_rfl
theorem TH:bw Tryz.prog 178=some true:=by kernel_rfl
theorem OH:ax Tryz.prog 178=some (.agg #[.map none,.slice none 0 0]):=by kernel_rfl
theorem P8:Tryz.prog.info? 178=some Tryz.t178:=by kernel_rfl
theorem VH:sz Tryz.prog 135=some 1:=by kernel_rfl
theorem Q2:bw Tryz.prog 135=some false:=by kernel_rfl
theorem OO:ax Tryz.prog 135=some (.pointer none):=by kernel_rfl
theorem PA:Tryz.prog.info? 135=some Tryz.t135:=by kernel_rfl
theorem Xd:sz Tryz.prog 84=some 2:=by kernel_rfl
theorem UH:bw Tryz.prog 84=some true:=by kernel_rfl
theorem Qu:ax Tryz.prog 84=some (.agg #[.pointer none,.slice none 0 0]):=by kernel_rfl
theorem Ru:Tryz.prog.info? 84=some Tryz.t84:=by kernel_rfl
theorem XI:sz Tryz.prog 78=some 1:=by kernel_rfl
theorem Wl:bw Tryz.prog 78=some false:=by kernel_rfl
theorem ST:ax Tryz.prog 78=some (.pointer none):=by kernel_rfl
theorem Tv:Tryz.prog.info? 78=some Tryz.t78:=by kernel_rfl
theorem VB:sz Tryz.prog 109=some 33:=by kernel_rfl
theorem Ue:bw Tryz.prog 109=some true:=by kernel_rfl
theorem PI:ax Tryz.prog 109=some (.agg #[.int .i64 0,.int .u8 0,.int .u8 0,.int .u8 0,.int .u8 0,.int .u8 0,.int .u8 0,.int .u8 0,.int .u8 0,.int .u8 0,.int .u8 0,.int .u8 0,.int .u8 0,.int .u8 0,.int .u8 0,.int .u8 0,.int .u8 0,.int .u8 0,.int .u8 0,.int .u8 0,.int .u8 0,.int .u8 0,.int .u8 0,.int .u8 0,.int .u8 0,.int .u8 0,.int .u8 0,.int .u8 0,.int .u8 0,.int .u8 0,.int .u8 0,.int .u8 0,.int .u8 0]):=by kernel_rfl
theorem ON:Tryz.prog.info? 109=some Tryz.t109:=by kernel_rfl
theorem UN:sz Tryz.prog 106=some 1:=by kernel_rfl
theorem TF:bw Tryz.prog 106=some false:=by kernel_rfl
theorem NF:ax Tryz.prog 106=some (.slice none 0 0):=by kernel_rfl
theorem Oz:Tryz.prog.info? 106=some Tryz.t106:=by kernel_rfl
theorem VL:sz Tryz.prog 165=some 1:=by kernel_rfl
theorem SC:bw Tryz.prog 165=some true:=by kernel_rfl
theorem OW:ax Tryz.prog 165=some (.agg #[.string (str [])]):=by kernel_rfl
theorem M9:Tryz.prog.info? 165=some Tryz.t165:=by kernel_rfl
theorem UU:sz Tryz.prog 160=some 1:=by kernel_rfl
theorem Tj:bw Tryz.prog 160=some false:=by kernel_rfl
theorem Pr:ax Tryz.prog 160=some (.pointer none):=by kernel_rfl
theorem No:Tryz.prog.info? 160=some Tryz.t160:=by kernel_rfl
theorem UM:sz Tryz.prog 159=some 1:=by kernel_rfl
theorem Tt:bw Tryz.prog 159=some true:=by kernel_rfl
theorem Pj:ax Tryz.prog 159=some (.agg #[.int .i64 0]):=by kernel_rfl
theorem NZ:Tryz.prog.info? 159=some Tryz.t159:=by kernel_rfl
theorem V8:sz Tryz.prog 123=some 1:=by kernel_rfl
theorem Um:bw Tryz.prog 123=some false:=by kernel_rfl
theorem Ov:ax Tryz.prog 123=some (.int .u64 0):=by kernel_rfl
theorem OY:Tryz.prog.info? 123=some Tryz.t123:=by kernel_rfl
theorem Xu:sz Tryz.prog 54=some 2:=by kernel_rfl
theorem V2:bw Tryz.prog 54=some true:=by kernel_rfl
theorem Qw:ax Tryz.prog 54=some (.agg #[.int .i64 0,.int .i64 0]):=by kernel_rfl
theorem Rt:Tryz.prog.info? 54=some Tryz.t54:=by kernel_rfl
theorem XG:sz Tryz.prog 36=some 2:=by kernel_rfl
theorem VA:bw Tryz.prog 36=some true:=by kernel_rfl
theorem Uu:ax Tryz.prog 36=some (.agg #[.int .u8 0,.int .u8 0]):=by kernel_rfl
theorem S0:Tryz.prog.info? 36=some Tryz.t36:=by kernel_rfl
theorem U5:sz Tryz.prog 103=some 33:=by kernel_rfl
theorem Su:bw Tryz.prog 103=some true:=by kernel_rfl
theorem Oq:ax Tryz.prog 103=some (.agg #[.int .i64 0,.int .u8 0,.int .u8 0,.int .u8 0,.int .u8 0,.int .u8 0,.int .u8 0,.int .u8 0,.int .u8 0,.int .u8 0,.int .u8 0,.int .u8 0,.int .u8 0,.int .u8 0,.int .u8 0,.int .u8 0,.int .u8 0,.int .u8 0,.int .u8 0,.int .u8 0,.int .u8 0,.int .u8 0,.int .u8 0,.int .u8 0,.int .u8 0,.int .u8 0,.int .u8 0,.int .u8 0,.int .u8 0,.int .u8 0,.int .u8 0,.int .u8 0,.int .u8 0]):=by kernel_rfl
theorem NG:Tryz.prog.info? 103=some Tryz.t103:=by kernel_rfl
theorem Xs:sz Tryz.prog 97=some 1:=by kernel_rfl
theorem VG:bw Tryz.prog 97=some false:=by kernel_rfl
theorem Uh:ax Tryz.prog 97=some (.slice none 0 0):=by kernel_rfl
theorem QV:Tryz.prog.info? 97=some Tryz.t97:=by kernel_rfl
theorem Wi:sz Tryz.prog 139=some 1:=by kernel_rfl
theorem Sc:bw Tryz.prog 139=some false:=by kernel_rfl
theorem Oc:ax Tryz.prog 139=some (.nilFunc):=by kernel_rfl
theorem PO:Tryz.prog.info? 139=some Tryz.t139:=by kernel_rfl
theorem VJ:sz Tryz.prog 141=some 1:=by kernel_rfl
theorem Rf:bw Tryz.prog 141=some false:=by kernel_rfl
theorem P1:ax Tryz.prog 141=some (.nilFunc):=by kernel_rfl
theorem PN:Tryz.prog.info? 141=some Tryz.t141:=by kernel_rfl
theorem VC:sz Tryz.prog 185=some 1:=by kernel_rfl
theorem Tw:bw Tryz.prog 185=some false:=by kernel_rfl
theorem Pc:ax Tryz.prog 185=some (.nilFunc):=by kernel_rfl
theorem Nw:Tryz.prog.info? 185=some Tryz.t185:=by kernel_rfl
theorem VN:sz Tryz.prog 187=some 1:=by kernel_rfl
theorem SY:bw Tryz.prog 187=some false:=by kernel_rfl
theorem Nf:ax Tryz.prog 187=some (.nilFunc):=by kernel_rfl
theorem PL:Tryz.prog.info? 187=some Tryz.t187:=by kernel_rfl
theorem Xe:sz Tryz.prog 88=some 1:=by kernel_rfl
theorem Wg:bw Tryz.prog 88=some false:=by kernel_rfl
theorem Ua:ax Tryz.prog 88=some (.nilFunc):=by kernel_rfl
theorem Qm:Tryz.prog.info? 88=some Tryz.t88:=by kernel_rfl
theorem V7:sz Tryz.prog 144=some 1:=by kernel_rfl
theorem T3:bw Tryz.prog 144=some false:=by kernel_rfl
theorem Pz:ax Tryz.prog 144=some (.nilFunc):=by kernel_rfl
theorem P3:Tryz.prog.info? 144=some Tryz.t144:=by kernel_rfl
theorem Vp:sz Tryz.prog 183=some 1:=by kernel_rfl
theorem QG:bw Tryz.prog 183=some false:=by kernel_rfl
theorem Pd:ax Tryz.prog 183=some (.nilFunc):=by kernel_rfl
theorem MY:Tryz.prog.info? 183=some Tryz.t183:=by kernel_rfl
theorem UO:sz Tryz.prog 105=some 1:=by kernel_rfl
theorem Qx:bw Tryz.prog 105=some false:=by kernel_rfl
theorem On:ax Tryz.prog 105=some (.pointer none):=by kernel_rfl
theorem OE:Tryz.prog.info? 105=some Tryz.t105:=by kernel_rfl
noncomputable def Dr:HF:=xL (jp Tryz.prog 82)
def rO:HF:=xL xx
theorem MG:bQ Tryz.prog 28 rO:=⟨enters_of (by kernel_rfl),fun args W e W' h=>by obtain⟨v,rfl,q⟩:=kg h;exact Bz q,
 fun args W e W' h ρ args' w m hfr hH hA=>by obtain⟨v,rfl,q⟩:=kg h;exact Af (fun s w hs=>Qg s w hs) q hH hA⟩
theorem NL(s:ByteArray)(w:World)(hs:s.size<=140737488351232):Calls Tryz.prog 27 #[.string s] w fun e w'=>e=.returned (.agg (ao (dz s.data.toList)).toArray)/\ai aG w w':=by
 have:=LS s.data.toList w (by have:=oJ s;omega);rw[show str s.data.toList=s from rfl]at this;exact this
theorem A9:bQ Tryz.prog 27 rO:=⟨enters_of (by kernel_rfl),fun args W e W' h=>by obtain⟨v,rfl,q⟩:=kg h;exact Bz q,
 fun args W e W' h ρ args' w m hfr hH hA=>by obtain⟨v,rfl,q⟩:=kg h;exact Af NL q hH hA⟩
theorem An:bQ Tryz.prog 73 Dr:=⟨enters_of (by kernel_rfl),fun args W e W' h=>by obtain⟨v,rfl,q⟩:=kg h;exact xy q,
 fun args W e W' h ρ args' w m hfr hH hA=>by obtain⟨v,rfl,q⟩:=kg h;exact yd TZ Pg q hH hA⟩
theorem aU:dX Tryz.prog (bc [] []):=⟨mixed,eQ .nil .nil⟩
theorem iU:qa Tryz.prog 24 5:=⟨Tryz.underlying24,by kernel_rfl,Tryz.underlying5,by kernel_rfl⟩
theorem D9{l:List UInt8}{W:XW}(h:l.length<=140737488351232):rO [.string (str l)] W=some (.ret (.agg (ao (dz l)).toArray),W):=by
 have e:xx [.string (str l)] W=some (.agg (ao (dz l)).toArray,W):=by show(bif Nat.ble (str l).size 140737488351232 then E4 (str l).data.toList (D8 W)else none)=_;rw[dy,nk h,cond_true,wY];rfl
 unfold rO xL;rw[e]
theorem EQ{k':IntKind}{a:Int}{W:XW}:iV Tryz.prog W 3 3 (some (.int k' a)) (some (.int .i64)) (some (.int .i64))=some (.val (some (.int .i64 (IntKind.wrap .i64 a)))):=lW Tryz.underlying3 Tryz.underlying3
theorem BK{k':IntKind}{a:Int}{W:XW}:iV Tryz.prog W 3 5 (some (.int k' a)) (some (.int .i64)) (some (.int .u8))=some (.val (some (.int .u8 (IntKind.wrap .u8 a)))):=lW Tryz.underlying3 Tryz.underlying5
theorem Bj{k':IntKind}{a:Int}{W:XW}:iV Tryz.prog W 5 3 (some (.int k' a)) (some (.int .u8)) (some (.int .i64))=some (.val (some (.int .i64 (IntKind.wrap .i64 a)))):=lW Tryz.underlying5 Tryz.underlying3
theorem xj{k':IntKind}{a:Int}{W:XW}:iV Tryz.prog W 5 5 (some (.int k' a)) (some (.int .u8)) (some (.int .u8))=some (.val (some (.int .u8 (IntKind.wrap .u8 a)))):=lW Tryz.underlying5 Tryz.underlying5
theorem CR{k':IntKind}{a:Int}{W:XW}:iV Tryz.prog W 3 123 (some (.int k' a)) (some (.int .i64)) (some (.int .u64))=some (.val (some (.int .u64 (IntKind.wrap .u64 a)))):=lW Tryz.underlying3 Tryz.underlying123
theorem C5{k':IntKind}{a:Int}{W:XW}:iV Tryz.prog W 123 3 (some (.int k' a)) (some (.int .u64)) (some (.int .i64))=some (.val (some (.int .i64 (IntKind.wrap .i64 a)))):=lW Tryz.underlying123 Tryz.underlying3
attribute [go_sem] ev.eq_3 ev.eq_4 evs.eq_1 evs.eq_2 de.eq_1 de.eq_2 iQ.eq_1 iQ.eq_2 mS.eq_1 dV.eq_1 evP.eq_1 evP.eq_2 FT.eq_1 FT.eq_2 val.eq_1 EO.eq_1 gr.eq_1 ii.eq_1 cK.eq_1 cK.eq_2 eZ.eq_1 eZ.eq_2 eZ.eq_3 eZ.eq_4 nX.eq_1 nX.eq_2 nX.eq_3 lZ.eq_1 lZ.eq_2 vF.eq_1 jk.eq_1 jk.eq_2 ef.eq_1 uS.eq_1 zS.eq_1 zS.eq_2 nJ.eq_1 nJ.eq_2 rj.eq_1 BB.eq_1 BB.eq_2 E7.eq_1 nv.eq_1 yX.eq_1 Mu.eq_1 Jp.eq_1 GQ.eq_1 L2.eq_1 L9.eq_1 gN.eq_1 gN.eq_3 gN.eq_4 gN.eq_5 gN.eq_7 jb.eq_1 jb.eq_2 nI.eq_1 nI.eq_2 dU.eq_1 dU.eq_2 vZ.eq_1 vZ.eq_2 mP.eq_1 mP.eq_2 mP.eq_4 mP.eq_5 mP.eq_7 EG.eq_1 Bb.eq_1 Bb.eq_2 FH.eq_1 Ay.eq_1 DN.eq_1 DN.eq_2 wK.eq_1 wK.eq_2 x5.eq_1 vc.eq_1 vc.eq_2 kE.eq_1 kE.eq_3 fM.eq_1 fM.eq_2 qH.eq_1 qH.eq_2 kX.eq_1 kX.eq_2 dQ.eq_1 dQ.eq_2 dQ.eq_3 dQ.eq_4 dQ.eq_5 dQ.eq_6 dQ.eq_7 dQ.eq_8 dQ.eq_9 Aq.eq_1 Aq.eq_2 rH.eq_1 rH.eq_2 Cp.eq_1 Cp.eq_2 AV.eq_1 AV.eq_2 F2.eq_1 wL.eq_1 DO.eq_1 DO.eq_2 tS.eq_1 AJ.eq_1 AJ.eq_2 Dh.eq_1 Dh.eq_2 zf.eq_2 AN.eq_1 AN.eq_2 vI.eq_1 vI.eq_2 nT.eq_1 qI.eq_1 qI.eq_2 iV.eq_1 iV.eq_2 zT.eq_1 wA.eq_1 EK.eq_1 LG.eq_1 Ae.eq_1 Ae.eq_2 xH.eq_1 wE.eq_1 rq.eq_1 rq.eq_2 E6.eq_1 xw.eq_1 xw.eq_2 LI.eq_1 xp.eq_1 xp.eq_2 qP.eq_1 qP.eq_2 E9.eq_1 E9.eq_2 Cs.eq_1 mR.eq_1 mR.eq_2 pc.eq_1 pc.eq_2 kU.eq_1 kU.eq_2 kU.eq_3 kU.eq_4 As.eq_1 As.eq_2 vt.eq_1 vt.eq_2 uz.eq_1 uz.eq_2 oH.eq_1 xB.eq_1 xB.eq_2 xB.eq_3 lP.eq_1 xM.eq_1 uC.eq_1 uC.eq_2 pV.eq_1 pV.eq_2 pV.eq_3 lG.eq_1 uM.eq_1 FL.eq_1 AR.eq_1 E5.eq_1 wx.eq_1 wx.eq_2 Be.eq_1 Be.eq_2 sj.eq_1 sj.eq_2 Ck.eq_1 uJ.eq_1 CA.eq_1 iX.eq_1 iX.eq_2 bU.eq_1 bU.eq_2 bU.eq_3 bU.eq_4 bU.eq_5 bU.eq_6 bU.eq_7 bU.eq_8 bU.eq_9 bU.eq_10 bU.eq_11 bU.eq_12 bU.eq_13 bU.eq_14 bU.eq_15 bU.eq_16 bU.eq_17 bU.eq_18 bU.eq_19 bU.eq_20 bU.eq_21 bU.eq_22 bU.eq_23 bU.eq_24 bU.eq_25 bU.eq_26 bU.eq_27 bU.eq_28 bU.eq_29 bU.eq_30 bU.eq_31 bU.eq_32 bU.eq_33 bU.eq_34 bU.eq_35 bU.eq_36 sX.eq_1 sX.eq_3 AZ.eq_1 AZ.eq_2 p9.eq_1 p9.eq_2 s6.eq_1 dE.eq_1 dE.eq_2 dE.eq_3 jL.eq_1 jL.eq_2 ne.eq_1 ne.eq_2 Ea.eq_1 Ea.eq_2 la.eq_1 la.eq_2 la.eq_3 la.eq_4 la.eq_5 la.eq_6 la.eq_7 la.eq_8 oF.eq_1 oF.eq_2 oF.eq_3 nW.eq_1 xA.eq_1 xA.eq_2 xA.eq_3 fE.eq_1 fE.eq_2 dI.eq_1 dI.eq_2 iH.eq_1 aW.eq_1 aW.eq_2 ow.eq_1 ow.eq_2 ow.eq_3 ow.eq_4 uQ.eq_1 uQ.eq_2 nU.eq_1 nU.eq_2 nU.eq_3 vU.eq_1 vU.eq_2 qe.eq_1 rz.eq_1 rz.eq_2 Ey.eq_1 Ey.eq_2 FI.eq_1 FI.eq_2 kL.eq_1 kL.eq_2 ku.eq_1 ku.eq_2 iM.eq_1 wr.eq_1 rep.eq_1 rep.eq_2 mz.eq_1 LW Tryz.t3 Yc LH MF Tryz.underlying3 Vu Tryz.t4 XN WT Ve Tryz.underlying4 Vd Tryz.t5 X4 WV Vm Tryz.underlying5 Mm Tryz.t9 XU Xy Mp Tryz.underlying9 T6 Tryz.t92 XJ Wq RR Tryz.underlying92 TN Tryz.t20 Xl UR RL Tryz.underlying20 QD Tryz.t22 WU UJ S5 Tryz.underlying22 Ty Tryz.t80 WW UY Sz Tryz.underlying80 IS Tryz.t35 Xf UL IC Tryz.underlying35 TW Tryz.t23 WX Wo RE Tryz.underlying23 IF Tryz.t24 T7 L7 Ij Tryz.underlying24 T8 Tryz.t48 W6 V9 RS Tryz.underlying48 SU Tryz.t65 Xb VS QY Tryz.underlying65 T9 Tryz.t26 Xp UK RO Tryz.underlying26 Ut Tryz.t63 WR UT Rg Tryz.underlying63 Sw Tryz.t69 Xx UI QZ Tryz.underlying69 QN Tryz.t28 XD VK Tr Tryz.underlying28 Ic Tryz.t72 SD ML Hx Tryz.underlying72 TX Tryz.t67 Xz Vw Uc Tryz.underlying67 Q5 Tryz.t82 Xc VO QK Tryz.underlying82 SF Tryz.t79 W8 Vg Tb Tryz.underlying79 Uz Tryz.t43 Xt VT UA Tryz.underlying43 P0 Tryz.t113 Wd Ra NW Tryz.underlying113 ND Tryz.t116 VM Rn P4 Tryz.underlying116 O2 Tryz.t168 Vz SR Pf Tryz.underlying168 Gn Tryz.t58 WS U8 IM Tryz.underlying58 I5 Tryz.t60 Xh UV GV Tryz.underlying60 Td Tryz.t40 Xm V6 Tq Tryz.underlying40 Sn Tryz.t38 Xv Vt RD Tryz.underlying38 Sy Tryz.t56 Xq MI Tu Tryz.underlying56 Q8 Tryz.t37 WY Vs TA Tryz.underlying37 Qe Tryz.t176 U0 TS Nx Tryz.underlying176 OL Tryz.t180 Vo Rj PX Tryz.underlying180 Ps Tryz.t181 UX SN O8 Tryz.underlying181 Px Tryz.t182 VX Sa Pt Tryz.underlying182 QP Tryz.t76 XL US Tm Tryz.underlying76 P8 Tryz.t178 VE TH OH Tryz.underlying178 PA Tryz.t135 VH Q2 OO Tryz.underlying135 Ru Tryz.t84 Xd UH Qu Tryz.underlying84 Tv Tryz.t78 XI Wl ST Tryz.underlying78 ON Tryz.t109 VB Ue PI Tryz.underlying109 Oz Tryz.t106 UN TF NF Tryz.underlying106 M9 Tryz.t165 VL SC OW Tryz.underlying165 No Tryz.t160 UU Tj Pr Tryz.underlying160 NZ Tryz.t159 UM Tt Pj Tryz.underlying159 OY Tryz.t123 V8 Um Ov Tryz.underlying123 Rt Tryz.t54 Xu V2 Qw Tryz.underlying54 S0 Tryz.t36 XG VA Uu Tryz.underlying36 NG Tryz.t103 U5 Su Oq Tryz.underlying103 QV Tryz.t97 Xs VG Uh Tryz.underlying97 PO Tryz.t139 Wi Sc Oc Tryz.underlying139 PN Tryz.t141 VJ Rf P1 Tryz.underlying141 Nw Tryz.t185 VC Tw Pc Tryz.underlying185 PL Tryz.t187 VN SY Nf Tryz.underlying187 Qm Tryz.t88 Xe Wg Ua Tryz.underlying88 P3 Tryz.t144 V7 T3 Pz Tryz.underlying144 MY Tryz.t183 Vp QG Pd Tryz.underlying183 OE Tryz.t105 UO Qx On Tryz.underlying105 OM Nn Ny M6 M4 NS N0 NX Pk PM Te OJ Pv PG OP Nm Ql Rl SL MX OB EQ BK Bj xj CR C5 Lh IQ Kf GT Id F7 Hi Gg dy G9 CT Cc zA NT LO yb OV GK Nr JN Ka Gr J4 Ud T5 List.size_toArray G8 Jj I9 EW FA EM CY Ld LL NE UQ wrap_i64 wrap_u64 wrap_u8 B3 pw bL List.take_of_length_le List.toList_toArray List.drop_nil CM uD UF Vi vm.eq_1 Option.bind_some Bool.true_beq Bool.false_beq nk s8 lj vB Wf fi V3 Vb Mh Ms Vv U9 List.take_length List.drop_zero UD UC VY Vc U1 U3 V1 U4 VI Vh S7 Un SG SM To SI Qk Sj R6 QC Q4 Tf R8 SV RQ Qn Qp Sr PW PS PE Nk OF Ot Po NQ OC JL LV H3 O0 KK Lx Nd KA Ks Kk LJ LA TY NU List.getElem_cons_zero List.getElem_cons_succ ia fg HJ I7 Ss ab aa cR cu GF ae jS fx cU pb bc iy gw Nat.zero_add Nat.add_zero Bool.and_true Bool.true_and Bool.false_and Bool.and_false Bool.not_true Bool.not_false Bool.or_true Bool.true_or Bool.or_false Bool.false_or cond_true cond_false Value.cells List.getElem?_cons_zero List.getElem?_cons_succ List.getElem?_toArray List.length_cons List.length_nil List.all_cons List.all_nil List.drop_succ_cons List.take_succ_cons List.take_zero List.cons_append List.nil_append List.append_nil Nat.zero_mod Nat.sub_self
attribute [go_sem] FD.eq_1 oT.eq_1 oT.eq_2 s4.eq_1 tv.eq_1 tv.eq_2 qT.eq_1 qT.eq_2
abbrev bj:=List (HB×List UInt8)
def bf(l:List UInt8):HB:=⟨dz l,dr l⟩
def cX(t:List UInt8):Value:=.string (str t)
theorem je(t:List UInt8):dH (cX t):=di 8 rfl
theorem Et{a b:List UInt8}(h:str a=str b):a=b:=by
 have:=congrArg (fun q:ByteArray=>q.data.toList) h;exact this
theorem KB{a b:List UInt8}(h:cX a=cX b):a=b:=by
 unfold cX at h;injection h with h;exact Et h
theorem RC{a b:UInt8}(h:bv a=bv b):a=b:=by
 unfold bv at h;injection h with _ h;exact UInt8.toNat_inj.1 (by omega)
theorem Of{a b:List UInt8}(h:ao a=ao b):a=b:=(List.map_inj_right (fun x y e=>RC e)).1 h
theorem tD{a b:HB}(h:cr a=cr b):a=b:=by
 unfold cr at h;injection h with h;have:=congrArg Array.toList h;exact Subtype.ext (Of (by simpa using this))
theorem zV:∀{l m:bj} {i j:Nat},gx cX l i=gx cX m j->l=m
 |[],[],_,_,_=>rfl
 |[],_::_,_,_,h=>by simp[gx]at h
 |_::_,[],_,_,h=>by simp[gx]at h
 |(a,x)::l,(b,y)::m,i,j,h=>by
  unfold gx at h;injection h with h1 h2;injection h1 with h3 h4 _;have e1:a=b:=tD h3;have e2:x=y:=KB h4;rw[e1,e2,zV h2]
def X9:bj->Nat->Value
 |[],_=>.map none
 |_::_,b=>.map (some b)
def bT(es:bj)(b:Nat):ag:=.cells [X9 es b] 65 (0,0)
def gi:bj->Option ag
 |[]=>none
 |x::l=>some (.map (iK cX (x::l)) (x::l).length)
def VZ:ag->Option Nat
 |.cells [.map (some b)] _ _=>some b
 |_=>none
noncomputable def yo:ni Tryz.prog bj where
 main es _ b:=bT es b
 sat:=gi
 hnd:=VZ
 hnd_eq es w b:=by cases es<;>rfl
 inj a a' w b h hs:=by
  cases a<;>cases a'<;>first|rfl|(cases hs;done)|skip
  rename_i x l y m;injection hs with hs;injection hs with hs _;exact zV hs
 free a w b b' h:=by
  cases a
  ·rfl
  cases h
 ren a w w' b b' θ h1 h2:=by
  cases a with
  |nil=>exact cg (au (ju 1 rfl) aR)
  |cons x l=>exact cg (au (cz (h2 (fun e=>by cases e))) aR)
 bare a o h:=by
  cases a with
  |nil=>cases h
  |cons x l=>cases h;exact kr je _ _
def A7(x:HB×List UInt8):List Value:=ao x.1.1++[cX x.2]
def gD(l:bj):List Value:=l.flatMap A7
theorem pB(x:HB×List UInt8):(A7 x).length=33:=by
 unfold A7;rw[Yh,bL,x.1.2];rfl
def eE(es:bj)(o:List UInt8):bj:=if(bM (bf o) es).isSome then es else es++[(bf o,o)]
open Classical in
noncomputable def wU:PP bj:=fun xs es=>if h:∃k:HB,xs=[cr k]then some (.tuple #[((bM (Classical.choose h) es).map cX).getD (.string (str [])),.bool (bM (Classical.choose h) es).isSome],es,.rd)else none
theorem N5{es:bj}{k:HB}:wU [cr k] es=some (.tuple #[((bM k es).map cX).getD (.string (str [])),.bool (bM k es).isSome],es,.rd):=by
 have hx:∃q:HB,[cr k]=[cr q]:=⟨k,rfl⟩;have e:wU [cr k] es=some (.tuple #[((bM (Classical.choose hx) es).map cX).getD (.string (str [])),.bool (bM (Classical.choose hx) es).isSome],es,.rd):=dif_pos hx;have hq:k=Classical.choose hx:=by have:=Yu hx;injection this with this _;exact tD this
 rw[e,<-hq]
theorem AO{xs:List Value}{es es':bj}{v:Value}{md:Md}(h:wU xs es=some (v,es',md)):∃k:HB,xs=[cr k]/\v=.tuple #[((bM k es).map cX).getD (.string (str [])),.bool (bM k es).isSome]/\es'=es/\md=.rd:=by
 unfold wU at h;split at h
 ·rename_i hx;have h1:=Yu hx;cases h;exact⟨_,h1,rfl,rfl,rfl⟩
 cases h
theorem JD{es:bj}{k:HB}:dH (.tuple #[((bM k es).map cX).getD (.string (str [])),.bool (bM k es).isSome]):=
 ww (cs:=[_,_]) (jB (by cases bM k es<;>exact je _) (jB (di 1 rfl) gW))
theorem m5{α:Type}{b t:Nat}{v:Option α}{F F':List (Nat×Option α)}(h:t<b)(hl:lk F t=v)(hs:cW b F F'):cW b F ((t,v)::F'):=by
 cases v with
 |none=>exact hs
 |some v=>exact⟨⟨h,hl⟩,hs⟩
theorem nH{P:Program}{t e:TypeId}{x y:Operand}{b o:Nat}(hu:P.underlying t=some (.pointer e)):dM P .eql t x y (some (.pointer (some ⟨b,o,none⟩))) (some (.pointer none))=some (.val (some (.bool false))):=by
 show Dh .eql (ue P t (.pointer (some ⟨b,o,none⟩)) (.pointer none))=_;unfold ue;rw[hu];rfl
theorem Hy{P:Program}{t k e:TypeId}{x y:Operand}{b:Nat}(hu:P.underlying t=some (.map k e)):dM P .eql t x y (some (.map (some b))) (some (.map none))=some (.val (some (.bool false))):=by
 show Dh .eql (ue P t (.map (some b)) (.map none))=_;unfold ue;rw[hu];rfl
theorem Kx{n:Nat}:dM Tryz.prog .eql 63 (.tmp n) (.const (.map none)) (some (.map none)) (some (.map none))=some (.val (some (.bool true))):=by kernel_rfl
theorem ym{l:bj}(h:l≠[]){b:Nat}:bT l b=.cells [.map (some b)] 65 (0,0):=by
 cases l with
 |nil=>exact absurd rfl h
 |cons x l=>rfl
theorem uX{l:bj}(h:l≠[]):gi l=some (.map (iK cX l) l.length):=by
 cases l with
 |nil=>exact absurd rfl h
 |cons x l=>rfl
theorem vQ{k:HB}{l:bj}(h:bM k l=none):me k l 0=none:=by
 have:=rB k l 0;rw[h]at this;cases e:me k l 0 with
 |none=>rfl
 |some x=>rw[e]at this;cases this
theorem vS{k:HB}{l:bj}{t:List UInt8}(h:bM k l=some t):∃i,me k l 0=some (i,t):=by
 have:=rB k l 0;rw[h]at this;cases e:me k l 0 with
 |none=>rw[e]at this;cases this
 |some x=>rw[e]at this;obtain⟨i,u⟩:=x;cases this;exact⟨i,rfl⟩
theorem JQ{es:bj}{o:List UInt8}(h:bM (bf o) es=none):eE es o=es++[(bf o,o)]:=by unfold eE;rw[h];rfl
theorem KD{es:bj}{o t:List UInt8}(h:bM (bf o) es=some t):eE es o=es:=by unfold eE;rw[h];rfl
theorem DQ{α:Type}{l:List α}{x:α}:l++[x]≠[]:=by simp
theorem KR(es:bj)(k:HB)(o:List UInt8){n:Nat}(h:n=es.length):some (ag.map (iK cX es++[⟨cr k,.string (str o),n⟩]) (n+1))=some (ag.map (iK cX (es++[(k,o)])) (es++[(k,o)]).length):=by
 subst h;have:=y6 (enc:=cX) k o es 0;rw[Nat.zero_add]at this;unfold iK;rw[<-this,Yh];rfl
def T2:List (FuncId×HF):=[(28,rO)]
theorem J2(es:bj)(k:HB):aT Tryz.prog 12 [.pointer (some ⟨0,0,none⟩),cr k] (lw yo es) fun e W'=>e=.ret (.tuple #[((bM k es).map cX).getD (.string (str [])),.bool (bM k es).isSome])/\Qr yo es es W' .rd:=by
 have hln:(ao k.1).length=32:=by rw[bL,k.2]
 have hkv:Value.agg (ao k.1).toArray=cr k:=rfl;cases es with
 |nil=>
  show aT _ _ [.pointer (some ⟨0,0,none⟩),.agg (ao k.1).toArray] (wd [(0,some (.cells [.map none] 65 (0,0)))] 1 [] 0) fun e W'=>e=.ret (.tuple #[.string (str []),.bool false])/\W'.get 0=some (.cells [.map none] 65 (0,0))/\∀o,gi []=some o->W'.get 1=some o
  refine cy aU Tryz.func12 rfl (Nat.le_of_ble_eq_true rfl) ?_;simp only[bA.eq_1,bA.eq_2,cU,Tryz.ntmps12,Nat.reduceAdd];have hfn:fl Tryz.prog 24 (cr k) []=some none:=lE (enc:=cX) iU k ([]:bj);refine ak (aE aU (by simp(disch:=first|decide|omega) only[hln,go_sem]<;>with_reducible rfl) ?_);refine ak ?_;refine ak (aE aU (by simp(disch:=first|decide|omega) only[nH Tryz.underlying26,go_sem]<;>with_reducible rfl) ?_);refine jW (by simp(disch:=first|decide|omega) only[go_sem]<;>with_reducible rfl) ?_;refine ap ?_;refine sE aU ⟨an [(6,some (.string (str []))),(7,some (.bool false))],wd [(0,some (.cells [.map none] 65 (0,0)))] 2 [] 0,[]⟩ ?hda ?qda
  case hda=>
   refine⟨?rsa,?sxa,?hxa,?kxa,?lxa⟩
   case hxa=>simp(disch:=first|decide|omega) only[aW.eq_1,aW.eq_2,iH.eq_1,dI.eq_1,dI.eq_2,hln,hkv,lT iU,hfn,YZ,YG,go_sem]<;>with_reducible rfl
   case kxa=>kernel_rfl
   case lxa=>exact fy (by simp(disch:=decide) [cW,ab,aa,cR]) (by simp(disch:=decide) [cW,ab,aa,cR]) (by decide)
  refine ak (aE aU (by simp(disch:=first|decide|omega) only[go_sem]<;>with_reducible rfl) ?_);refine ga ?_;refine⟨_,?e5,?W5,rfl,?h5,?q5⟩
  case h5=>simp(disch:=first|decide|omega) only[Tryz.results12,go_sem]<;>with_reducible rfl
  refine⟨rfl,?_,fun o h=>(by cases h)⟩;simp(disch:=first|decide|omega) only[go_sem]
 |cons x l=>
  obtain⟨es,hes⟩:∃es,es=x::l:=⟨_,rfl⟩;show aT _ _ [.pointer (some ⟨0,0,none⟩),.agg (ao k.1).toArray] (wd [(0,some (.cells [.map (some 1)] 65 (0,0))),(1,some (.map (iK cX (x::l)) (x::l).length))] 2 [] 0) fun e W'=>e=.ret (.tuple #[((bM k (x::l)).map cX).getD (.string (str [])),.bool (bM k (x::l)).isSome])/\W'.get 0=some (.cells [.map (some 1)] 65 (0,0))/\∀o,gi (x::l)=some o->W'.get 1=some o
  rw[<-hes];have hne:es≠[]:=by rw[hes];simp
  clear hes;refine cy aU Tryz.func12 rfl (Nat.le_of_ble_eq_true rfl) ?_;simp only[bA.eq_1,bA.eq_2,cU,Tryz.ntmps12,Nat.reduceAdd];refine ak (aE aU (by simp(disch:=first|decide|omega) only[hln,go_sem]<;>with_reducible rfl) ?_);refine ak ?_;refine ak (aE aU (by simp(disch:=first|decide|omega) only[nH Tryz.underlying26,go_sem]<;>with_reducible rfl) ?_);refine jW (by simp(disch:=first|decide|omega) only[go_sem]<;>with_reducible rfl) ?_;refine ap ?_;refine sE aU ⟨an [(6,some (((bM k es).map cX).getD (.string (str [])))),(7,some (.bool (bM k es).isSome))],wd [(0,some (.cells [.map (some 1)] 65 (0,0))),(1,some (.map (iK cX es) es.length))] 3 [] 0,[]⟩ ?hdb ?qdb
  case hdb=>
   rcases hg:bM k es with _|t
   ·have hf:=vQ hg;refine⟨?rsb,?sxb,?hxb,?kxb,?lxb⟩
    case hxb=>simp(disch:=first|decide|omega) only[aW.eq_1,aW.eq_2,iH.eq_1,dI.eq_1,dI.eq_2,hln,hkv,lT iU,lE iU,hf,YZ,YG,go_sem]<;>with_reducible rfl
    case kxb=>kernel_rfl
    case lxb=>exact fy (m5 (by decide) rfl (m5 (by decide) rfl trivial)) (by simp(disch:=decide) [cW,ab,aa,cR]) (by decide)
   obtain⟨i,hf⟩:=vS hg;refine⟨?rsc,?sxc,?hxc,?kxc,?lxc⟩
   case hxc=>simp(disch:=first|decide|omega) only[aW.eq_1,aW.eq_2,iH.eq_1,dI.eq_1,dI.eq_2,hln,hkv,lT iU,lE iU,hf,YZ,YG,go_sem]<;>with_reducible rfl
   case kxc=>kernel_rfl
   case lxc=>exact fy (m5 (by decide) rfl (m5 (by decide) rfl trivial)) (by simp(disch:=decide) [cW,ab,aa,cR]) (by decide)
  have h1:de (((bM k es).map cX).getD (.string (str [])))=true:=by cases bM k es<;>rfl
  refine ak (aE aU (by simp(disch:=first|decide|omega) only[go_sem]<;>with_reducible rfl) ?_);refine ga ?_;refine⟨_,?e10,?W10,rfl,?h10,?q10⟩
  case h10=>simp(disch:=first|decide|omega) only[Tryz.results12,go_sem]<;>with_reducible rfl
  refine⟨rfl,?_,fun o h=>?_⟩
  ·simp(disch:=first|decide|omega) only[go_sem]
  rw[uX hne]at h;rw[<-h,ae (by decide) (by decide)];simp(disch:=first|decide|omega) only[ab,aa]
theorem Wj:bQ Tryz.prog 12 (qX yo wU):=E3 (enters_of (by kernel_rfl)) (fun xs a v a' md h=>by
 obtain⟨k,rfl,rfl,_,_⟩:=AO h;exact⟨jB (uK _) gW,JD⟩) (fun xs a v a' md h=>by
 obtain⟨k,rfl,rfl,rfl,rfl⟩:=AO h;exact J2 _ k)
def cG(a b:HB):Bool:=dD a.1 b.1
open Classical in
noncomputable def tu:List Value->Option Value:=fun xs=>if h:∃q:HB×HB,xs=[cr q.1,cr q.2]then some (.bool (cG (Classical.choose h).1 (Classical.choose h).2))else none
theorem KC{a b:HB}:tu [cr a,cr b]=some (.bool (cG a b)):=by
 have hx:∃q:HB×HB,[cr a,cr b]=[cr q.1,cr q.2]:=⟨(a,b),rfl⟩;have e:tu [cr a,cr b]=some (.bool (cG (Classical.choose hx).1 (Classical.choose hx).2)):=dif_pos hx;have hq:=Yu hx;generalize Classical.choose hx=q at hq e;injection hq with h1 h2;injection h2 with h2 _;rw[e,tD h1,tD h2]
theorem Tg:bQ Tryz.prog 29 (kH tu):=by
 have inv:∀xs v,tu xs=some v->∃a b:HB,xs=[cr a,cr b]/\v=.bool (cG a b):=fun xs v h=>by
  unfold tu at h;split at h
  ·rename_i hx;have hq:=Yu hx;cases h;exact⟨_,_,hq,rfl⟩
  cases h
 refine EI (enters_of (by kernel_rfl)) (fun xs v h=>?_) (fun xs v h w=>?_)
 ·obtain⟨a,b,rfl,rfl⟩:=inv _ _ h;exact⟨fun x hx=>by
   simp only[YD,Yy,or_false]at hx;rcases hx with rfl|rfl<;>exact tq _,rfl⟩
 obtain⟨a,b,rfl,rfl⟩:=inv _ _ h;exact Jf a.1 b.1 w a.2 b.2
def li(h:HB):bj->Nat
 |[]=>0
 |x::l=>if cG x.1 h then li h l+1 else 0
def Fq(es:bj)(o:List UInt8):bj:=es.take (li (bf o) es)++(bf o,o)::es.drop (li (bf o) es)
def ya(es:bj)(o:List UInt8):Bool:=match es[li (bf o) es]? with
 |some x=>decide (x.1=bf o)
 |none=>false
def u4(es:bj)(o:List UInt8):bj:=if ya es o then es else Fq es o
theorem nF:∀l:bj,(gD l).length=l.length*33
 |[]=>rfl
 |x::l=>by
  unfold gD;rw[YB,Yh,pB,List.length_cons];have:=nF l;unfold gD at this;rw[this];omega
theorem qp:∀(l:bj) (i:Nat),(gD l).take (i*33)=gD (l.take i)
 |[],i=>by simp[gD]
 |x::l,0=>by simp[gD]
 |x::l,i+1=>by
  show(A7 x++gD l).take _=A7 x++gD (l.take i);rw[Za,YX,List.take_append,List.take_of_length_le (by rw[pB];omega),pB,show 33+i*33-33=i*33 by omega,qp l i]
theorem qu:∀(l:bj) (i:Nat),(gD l).drop (i*33)=gD (l.drop i)
 |[],i=>by simp[gD]
 |x::l,0=>by simp[gD]
 |x::l,i+1=>by
  show(A7 x++gD l).drop _=gD (l.drop i);rw[Za,YX,List.drop_append,YV (by rw[pB];omega),pB,show 33+i*33-33=i*33 by omega,qu l i,List.nil_append]
theorem yB(l:bj):(gD l).all de=true:=by
 rw[Zz];intro v hv;obtain⟨x,_,hx⟩:=List.mem_flatMap.1 hv;unfold A7 at hx;rcases List.mem_append.1 hx with h|h
 ·obtain⟨b,_,rfl⟩:=List.mem_map.1 h;rfl
 simp only[YD,Yy,or_false]at h;subst h;rfl
end Go.Proofs.YthlkgmdkabelpaaGreat.X
