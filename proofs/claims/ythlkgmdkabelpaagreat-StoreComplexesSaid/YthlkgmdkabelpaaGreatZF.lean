/-
  Packed by program (tools/pack.py) out of the texts F40 U0 U01 U1 U2 U3 U4. No condition.
-/
import Derived.Test.YthlkgmdkabelpaaGreatZD
import Derived.Test.YthlkgmdkabelpaaGreatZE
import Derived.Test.YthlkgmdkabelpaaGreatZ1
set_option linter.all false
namespace Go.Proofs.YthlkgmdkabelpaaGreat.X
open Go Go.RowKit
abbrev HB:={ l:List UInt8 // l.length=32 }
def bu(h:HB):Value:=.agg (an h.1).toArray
structure sI(P:Program)(T e:TypeId):Prop where
 hu:P.underlying T=some (.array 32 e)
 hsz:(P.info? e).map (·.size)=some 1
 hue:P.underlying e=some (.int .u8)
 hg:P.eqGuardType P.depth T=false
section
variable {P:Program} {T e:TypeId}
theorem Lw{k:IntKind}(hue:P.underlying e=some (.int k)){d:Nat}{j:IntKind}{a b:Int}:ay P (Op.equalIn (d+1) e (.int j a) (.int j b))=some (a==b):=by
 rw[Op.equalIn,aH,eG hue];show ay P (if j=j then pure (a==b)else stuck "==: kinds differ")=_;rw[if_pos rfl];rfl
theorem OH(a b:UInt8):((((a.toNat:Nat):Int))==((b.toNat:Nat):Int))=(a==b):=by
 by_cases h:a=b
 ·subst h;simp
 have h2:a.toNat≠b.toNat:=fun q=>h (UInt8.toNat_inj.1 q)
 have:(((a.toNat:Nat):Int))≠((b.toNat:Nat):Int):=by omega
 rw[beq_false_of_ne this,beq_false_of_ne h]
theorem tC(H:sI P T e)(a b:List UInt8)(ha:a.length=32)(hb:b.length=32)(d:Nat) :
 ay P (Op.equalIn (d+2) T (.agg (an a).toArray) (.agg (an b).toArray))=some (a==b):=by
 rw[show d+2=(d+1)+1 from rfl,Op.equalIn,aH,eG H.hu];simp only[Option.bind_some];rw[aH,yf H.hsz];simp only[Option.bind_some];rw[Std.Legacy.Range.forIn_eq_forIn_range',aH];have key:∀L:List Nat,(∀i∈L,i<32)->ay P (forIn L ((none:Option Bool),()) (fun i __s=>do
  let __do_lift <-part e (an a).toArray (i*1)
  let __do_lift_1 <-part e (an b).toArray (i*1)
  let __do_lift <-Op.equalIn (d+1) e __do_lift __do_lift_1
  if(!__do_lift)=true then pure (ForInStep.done (some false,()))else pure (ForInStep.yield (none,())):Nat->Option Bool×Unit->Sem (ForInStep (Option Bool×Unit))))
  = some (if L.all (fun i=>a.getD i 0==b.getD i 0)then none else some false,()):=by
  intro L
  induction L with
  |nil=>intro _;rfl
  |cons i L ih=>
   intro hL;have hin:i<32:=hL i (by simp);have hat:∀q:List UInt8,q.length=32->ay P (part e (an q).toArray (i*1))=some (.int .u8 (((q.getD i 0).toNat:Nat):Int)):=fun q hq=>nb H.hue (by
    rw[Nat.mul_one,List.getElem?_toArray];show(q.map bv)[i]?=_;rw[acE,abS (by omega),abV,abS (by omega)];rfl)
   rw[List.forIn_cons,aH,aH,hat a ha];simp only[Option.bind_some];rw[aH,hat b hb];simp only[Option.bind_some];rw[aH,Lw H.hue];simp only[Option.bind_some,OH];cases hq:(a.getD i 0==b.getD i 0)with
   |true=>
    have e1:(List.all (i::L) fun i=>a.getD i 0==b.getD i 0)=List.all L fun i=>a.getD i 0==b.getD i 0:=by simp only[List.all_cons,hq,Bool.true_and]
    rw[e1];exact ih fun j hj=>hL j (by simp[hj])
   |false=>
    have e1:(List.all (i::L) fun i=>a.getD i 0==b.getD i 0)=false:=by simp only[List.all_cons,hq,Bool.false_and]
    rw[e1];rfl
 rw[key _ (by
  intro i hi;simp[Std.Legacy.Range.size]at hi;omega)]
 have hall:((List.range' [:32].start [:32].size [:32].step).all (fun i=>a.getD i 0==b.getD i 0))=(a==b):=by
  rw[Bool.eq_iff_iff,ada,beq_iff_eq];constructor
  ·intro h;apply acN;intro i;by_cases hi:i<32
   ·have:=h i (by simp[Std.Legacy.Range.size];omega);rw[beq_iff_eq,abV,abV,abS (by omega),abS (by omega)]at this;rw[abS (by omega),abS (by omega)];exact congrArg some this
   rw[ab9 (by omega),ab9 (by omega)]
  rintro rfl i _;simp
 rw[hall];cases a==b<;>rfl
theorem CC(H:sI P T e){a b:List UInt8}(ha:a.length=32)(hb:b.length=32){x y:Operand} :
 dH P .eql T x y (some (.agg (an a).toArray)) (some (.agg (an b).toArray))=some (.val (some (.bool (a==b))))/\dH P .neq T x y (some (.agg (an a).toArray)) (some (.agg (an b).toArray))=some (.val (some (.bool (!(a==b))))):=by
 have h1:ay P (Go.eqGuard .eql T x y (.agg (an a).toArray) (.agg (an b).toArray))=some ():=by show ay P (if !(P.eqGuardType P.depth T)then pure ()else _)=_;rw[H.hg];rfl
 have h2:ay P (Go.eqGuard .neq T x y (.agg (an a).toArray) (.agg (an b).toArray))=some ():=by show ay P (if !(P.eqGuardType P.depth T)then pure ()else _)=_;rw[H.hg];rfl
 have hE:ay P (Op.equal T (.agg (an a).toArray) (.agg (an b).toArray))=some (a==b):=tC H a b ha hb 9998;have q1:ay P (mU .eql T x y (.agg (an a).toArray) (.agg (an b).toArray))=some (.bool (a==b)):=by unfold mU;rw[aH,h1];simp only[Option.bind_some];show ay P (Op.equal T (.agg (an a).toArray) (.agg (an b).toArray) >>= fun r=>(pure (Value.bool r):Sem Value))=_;rw[aH,hE];rfl
 have q2:ay P (mU .neq T x y (.agg (an a).toArray) (.agg (an b).toArray))=some (.bool (!(a==b))):=by unfold mU;rw[aH,h2];simp only[Option.bind_some];show ay P (Op.equal T (.agg (an a).toArray) (.agg (an b).toArray) >>= fun r=>(pure (Value.bool (!r)):Sem Value))=_;rw[aH,hE];rfl
 have f:=uj (ss a);have g:=uj (ss b);constructor
 ·show(bif cy _&&cy _ then mt (ay P _)else _)=_;rw[f,g,q1];rfl
 show(bif cy _&&cy _ then mt (ay P _)else _)=_;rw[f,g,q2];rfl
variable {β:Type}
def gY(enc:β->Value):List (HB×β)->Nat->List MapEntry
 |[],_=>[]
 |x::l,i=>{ key:=bu x.1,val:=enc x.2,born:=i }::gY enc l (i+1)
def jk(enc:β->Value)(l:List (HB×β)):List MapEntry:=gY enc l 0
def aD(h:HB):List (HB×β)->Option β
 |[]=>none
 |x::l=>if h=x.1 then some x.2 else aD h l
def np(k:HB):List (HB×β)->Nat->Option (Nat×β)
 |[],_=>none
 |x::l,i=>if k=x.1 then some (i,x.2)else np k l (i+1)
theorem ub(k:HB):∀(l:List (HB×β)) (i:Nat),(np k l i).map (·.2)=aD k l
 |[],_=>rfl
 |x::l,i=>by
  unfold np aD;split
  ·rfl
  exact ub k l (i+1)
theorem Nc(H:sI P T e)(em:Bool)(h:HB)(n:Nat):ay P (Instr.checkKey em (n+2) T (bu h))=some ():=by
 obtain⟨a,ha⟩:=h;unfold bu;rw[show n+2=(n+1)+1 from rfl,Instr.checkKey,aH,eG H.hu];simp only[Option.bind_some];rw[Std.Legacy.Range.forIn_eq_forIn_range'];have key:∀L:List Nat,(∀i∈L,i<32)->ay P (forIn L PUnit.unit (fun i __s=>do
  let __do_lift <-sizeOf e
  let __do_lift <-part e (an a).toArray (i*__do_lift)
  Instr.checkKey em (n+1) e __do_lift
  pure (ForInStep.yield PUnit.unit):Nat->PUnit->Sem (ForInStep PUnit)))=some PUnit.unit:=by
  intro L
  induction L with
  |nil=>intro _;rfl
  |cons i L ih=>
   intro hL;have hin:i<32:=hL i (by simp);have hp:ay P (part e (an a).toArray (i*1))=some (.int .u8 (((a.getD i 0).toNat:Nat):Int)):=nb H.hue (by
    rw[Nat.mul_one,List.getElem?_toArray];show(a.map bv)[i]?=_;rw[acE,abS (by omega),abV,abS (by omega)];rfl)
   have hc:ay P (Instr.checkKey em (n+1) e (.int .u8 (((a.getD i 0).toNat:Nat):Int)))=some ():=by rw[Instr.checkKey,aH,eG H.hue];rfl
   rw[List.forIn_cons,aH,aH,yf H.hsz];simp only[Option.bind_some];rw[aH,hp];simp only[Option.bind_some];rw[aH,hc];simp only[Option.bind_some];exact ih fun j hj=>hL j (by simp[hj])
 rw[aH,key _ (by
  intro i hi;simp[Std.Legacy.Range.size]at hi;omega)]
 rfl
theorem vi(h:HB):cy (bu h)=true:=uj (ss h.1)
theorem mS(H:sI P T e)(h:HB)(em:Bool):gD P T (bu h) em=true:=by
 unfold gD;rw[vi,show(10000:Nat)=9998+2 from rfl,Nc H em h 9998];rfl
theorem Gl(H:sI P T e){enc:β->Value}(k:HB):∀(l:List (HB×β)) (i j:Nat),ay P (Instr.findAsking T (bu k) (gY enc l j) i)=some ((np k l i).map fun x=>(x.1,enc x.2))
 |[],_,_=>rfl
 |x::l,i,j=>by
  unfold gY Instr.findAsking;rw[aH];have hE:ay P (Op.equal T (bu k) (bu x.1))=some (k.1==x.1.1):=tC H k.1 x.1.1 k.2 x.1.2 9998;rw[hE];simp only[Option.bind_some];unfold np;by_cases h:k=x.1
  ·subst h;rw[if_pos rfl,beq_self_eq_true,if_pos rfl];rfl
  have e2:(k.1==x.1.1)=false:=by rw[beq_eq_false_iff_ne];exact fun q=>h (Subtype.ext q)
  rw[if_neg h,e2,if_neg (by simp)];exact Gl H k l (i+1) (j+1)
theorem Ap{enc:β->Value}:∀(l:List (HB×β)) (j:Nat),(gY enc l j).all (fun e=>cy e.key)=true
 |[],_=>rfl
 |x::l,j=>by
  unfold gY;rw[List.all_cons,vi,Ap l (j+1)];rfl
theorem mZ(H:sI P T e){enc:β->Value}(k:HB)(l:List (HB×β)):gb P T (bu k) (jk enc l)=some ((np k l 0).map fun x=>(x.1,enc x.2)):=by
 unfold gb jk;rw[Ap,cond_true];cases l with
 |nil=>
  show ay P (Instr.findKey T (bu k) [])=_;unfold Instr.findKey;rw[aH,eG H.hu];rfl
 |cons x l=>
  unfold Instr.findKey;rw[aH,eG H.hu];simp only[Option.bind_some];have hs:Instr.findNow (.array 32 e) (bu k) (gY enc (x::l) 0) 0=none:=rfl;rw[hs];exact Gl H k (x::l) 0 0
theorem Bi{enc:β->Value}(k:HB)(b:β):∀(l:List (HB×β)) (j:Nat),gY enc l j++[⟨bu k,enc b,j+l.length⟩]=gY enc (l++[(k,b)]) j
 |[],j=>rfl
 |x::l,j=>by
  show _::(gY enc l (j+1)++_)=_::gY enc (l++[(k,b)]) (j+1);rw[<-Bi k b l (j+1),List.length_cons,adb j 1,acy 1]
theorem wg(h:HB):d8 (bu h):=dz 8 (vi h)
theorem Ak{enc:β->Value}(hb:∀b,d8 (enc b)):∀(l:List (HB×β)) (j:Nat),∀x∈gY enc l j,d8 x.key/\d8 x.val
 |[],_,x,h=>by cases h
 |y::l,j,x,h=>by
  rcases List.mem_cons.1 h with rfl|h
  ·exact⟨wg _,hb _⟩
  exact Ak hb l (j+1) x h
theorem gh{enc:β->Value}(hb:∀b,d8 (enc b))(l:List (HB×β))(c:Nat):gX P (.map (jk enc l) c):=fun T hT=>iy (kN.bare hT (Ak hb l 0))
end
theorem mixed:Tryz.prog.follows .mixedOrders=true:=by kernel_rfl
theorem sz3:sz Tryz.prog 3=some 1:=by kernel_rfl
theorem NO:bH Tryz.prog 3=some false:=by kernel_rfl
theorem O8:az Tryz.prog 3=some (.int .i64 0):=by kernel_rfl
theorem PC:Tryz.prog.info? 3=some Tryz.t3:=by kernel_rfl
theorem sz4:sz Tryz.prog 4=some 1:=by kernel_rfl
theorem abo:bH Tryz.prog 4=some false:=by kernel_rfl
theorem Y1:az Tryz.prog 4=some (.bool false):=by kernel_rfl
theorem Y8:Tryz.prog.info? 4=some Tryz.t4:=by kernel_rfl
theorem sz5:sz Tryz.prog 5=some 1:=by kernel_rfl
theorem abe:bH Tryz.prog 5=some false:=by kernel_rfl
theorem Yp:az Tryz.prog 5=some (.int .u8 0):=by kernel_rfl
theorem Yo:Tryz.prog.info? 5=some Tryz.t5:=by kernel_rfl
theorem sz9:sz Tryz.prog 9=some 1:=by kernel_rfl
theorem aaH:bH Tryz.prog 9=some false:=by kernel_rfl
theorem Pj:az Tryz.prog 9=some (.string (str [])):=by kernel_rfl
theorem P1:Tryz.prog.info? 9=some Tryz.t9:=by kernel_rfl
theorem abk:sz Tryz.prog 92=some 1:=by kernel_rfl
theorem ZT:bH Tryz.prog 92=some false:=by kernel_rfl
theorem Ub:az Tryz.prog 92=some (.nilIface):=by kernel_rfl
theorem UL:Tryz.prog.info? 92=some Tryz.t92:=by kernel_rfl
theorem aaK:sz Tryz.prog 20=some 1:=by kernel_rfl
theorem YD:bH Tryz.prog 20=some false:=by kernel_rfl
theorem T1:az Tryz.prog 20=some (.nilIface):=by kernel_rfl
theorem V2:Tryz.prog.info? 20=some Tryz.t20:=by kernel_rfl
theorem aaJ:sz Tryz.prog 22=some 1:=by kernel_rfl
theorem Zp:bH Tryz.prog 22=some false:=by kernel_rfl
theorem WI:az Tryz.prog 22=some (.slice none 0 0):=by kernel_rfl
theorem Wj:Tryz.prog.info? 22=some Tryz.t22:=by kernel_rfl
theorem aaQ:sz Tryz.prog 80=some 1:=by kernel_rfl
theorem Y3:bH Tryz.prog 80=some false:=by kernel_rfl
theorem V4:az Tryz.prog 80=some (.slice none 0 0):=by kernel_rfl
theorem VF:Tryz.prog.info? 80=some Tryz.t80:=by kernel_rfl
theorem aa9:sz Tryz.prog 35=some 1:=by kernel_rfl
theorem YA:bH Tryz.prog 35=some false:=by kernel_rfl
theorem La:az Tryz.prog 35=some (.slice none 0 0):=by kernel_rfl
theorem JH:Tryz.prog.info? 35=some Tryz.t35:=by kernel_rfl
theorem abn:sz Tryz.prog 23=some 32:=by kernel_rfl
theorem ZH:bH Tryz.prog 23=some true:=by kernel_rfl
theorem Vz:az Tryz.prog 23=some (.agg #[.int .u8 0,.int .u8 0,.int .u8 0,.int .u8 0,.int .u8 0,.int .u8 0,.int .u8 0,.int .u8 0,.int .u8 0,.int .u8 0,.int .u8 0,.int .u8 0,.int .u8 0,.int .u8 0,.int .u8 0,.int .u8 0,.int .u8 0,.int .u8 0,.int .u8 0,.int .u8 0,.int .u8 0,.int .u8 0,.int .u8 0,.int .u8 0,.int .u8 0,.int .u8 0,.int .u8 0,.int .u8 0,.int .u8 0,.int .u8 0,.int .u8 0,.int .u8 0]):=by kernel_rfl
theorem Xu:Tryz.prog.info? 23=some Tryz.t23:=by kernel_rfl
theorem OY:sz Tryz.prog 24=some 32:=by kernel_rfl
theorem H8:bH Tryz.prog 24=some true:=by kernel_rfl
theorem Kq:az Tryz.prog 24=some (.agg #[.int .u8 0,.int .u8 0,.int .u8 0,.int .u8 0,.int .u8 0,.int .u8 0,.int .u8 0,.int .u8 0,.int .u8 0,.int .u8 0,.int .u8 0,.int .u8 0,.int .u8 0,.int .u8 0,.int .u8 0,.int .u8 0,.int .u8 0,.int .u8 0,.int .u8 0,.int .u8 0,.int .u8 0,.int .u8 0,.int .u8 0,.int .u8 0,.int .u8 0,.int .u8 0,.int .u8 0,.int .u8 0,.int .u8 0,.int .u8 0,.int .u8 0,.int .u8 0]):=by kernel_rfl
theorem Ld:Tryz.prog.info? 24=some Tryz.t24:=by kernel_rfl
theorem aaW:sz Tryz.prog 48=some 1:=by kernel_rfl
theorem ZL:bH Tryz.prog 48=some false:=by kernel_rfl
theorem Vu:az Tryz.prog 48=some (.slice none 0 0):=by kernel_rfl
theorem TN:Tryz.prog.info? 48=some Tryz.t48:=by kernel_rfl
theorem aa6:sz Tryz.prog 65=some 1:=by kernel_rfl
theorem Yl:bH Tryz.prog 65=some true:=by kernel_rfl
theorem Ue:az Tryz.prog 65=some (.agg #[.map none]):=by kernel_rfl
theorem Xn:Tryz.prog.info? 65=some Tryz.t65:=by kernel_rfl
theorem abf:sz Tryz.prog 26=some 1:=by kernel_rfl
theorem ZB:bH Tryz.prog 26=some false:=by kernel_rfl
theorem XX:az Tryz.prog 26=some (.pointer none):=by kernel_rfl
theorem U8:Tryz.prog.info? 26=some Tryz.t26:=by kernel_rfl
theorem aa7:sz Tryz.prog 63=some 1:=by kernel_rfl
theorem Ze:bH Tryz.prog 63=some false:=by kernel_rfl
theorem WF:az Tryz.prog 63=some (.map none):=by kernel_rfl
theorem VH:Tryz.prog.info? 63=some Tryz.t63:=by kernel_rfl
theorem aa1:sz Tryz.prog 69=some 1:=by kernel_rfl
theorem Zz:bH Tryz.prog 69=some true:=by kernel_rfl
theorem X5:az Tryz.prog 69=some (.agg #[.slice none 0 0]):=by kernel_rfl
theorem Ul:Tryz.prog.info? 69=some Tryz.t69:=by kernel_rfl
theorem aaI:sz Tryz.prog 28=some 1:=by kernel_rfl
theorem aac:bH Tryz.prog 28=some false:=by kernel_rfl
theorem Vc:az Tryz.prog 28=some (.pointer none):=by kernel_rfl
theorem Vm:Tryz.prog.info? 28=some Tryz.t28:=by kernel_rfl
theorem Wl:sz Tryz.prog 72=some 33:=by kernel_rfl
theorem PS:bH Tryz.prog 72=some true:=by kernel_rfl
theorem JY:az Tryz.prog 72=some (.agg #[.int .u8 0,.int .u8 0,.int .u8 0,.int .u8 0,.int .u8 0,.int .u8 0,.int .u8 0,.int .u8 0,.int .u8 0,.int .u8 0,.int .u8 0,.int .u8 0,.int .u8 0,.int .u8 0,.int .u8 0,.int .u8 0,.int .u8 0,.int .u8 0,.int .u8 0,.int .u8 0,.int .u8 0,.int .u8 0,.int .u8 0,.int .u8 0,.int .u8 0,.int .u8 0,.int .u8 0,.int .u8 0,.int .u8 0,.int .u8 0,.int .u8 0,.int .u8 0,.string (str [])]):=by kernel_rfl
theorem KJ:Tryz.prog.info? 72=some Tryz.t72:=by kernel_rfl
theorem aa2:sz Tryz.prog 67=some 1:=by kernel_rfl
theorem Zb:bH Tryz.prog 67=some false:=by kernel_rfl
theorem X0:az Tryz.prog 67=some (.slice none 0 0):=by kernel_rfl
theorem Ye:Tryz.prog.info? 67=some Tryz.t67:=by kernel_rfl
theorem aba:sz Tryz.prog 82=some 2:=by kernel_rfl
theorem Zj:bH Tryz.prog 82=some true:=by kernel_rfl
theorem VO:az Tryz.prog 82=some (.agg #[.pointer none,.slice none 0 0]):=by kernel_rfl
theorem X3:Tryz.prog.info? 82=some Tryz.t82:=by kernel_rfl
theorem aaV:sz Tryz.prog 79=some 1:=by kernel_rfl
theorem YW:bH Tryz.prog 79=some false:=by kernel_rfl
theorem Xz:az Tryz.prog 79=some (.pointer none):=by kernel_rfl
theorem UT:Tryz.prog.info? 79=some Tryz.t79:=by kernel_rfl
theorem abd:sz Tryz.prog 43=some 1:=by kernel_rfl
theorem Zv:bH Tryz.prog 43=some false:=by kernel_rfl
theorem VB:az Tryz.prog 43=some (.int .i64 0):=by kernel_rfl
theorem Ua:Tryz.prog.info? 43=some Tryz.t43:=by kernel_rfl
theorem Yr:sz Tryz.prog 113=some 1:=by kernel_rfl
theorem UK:bH Tryz.prog 113=some false:=by kernel_rfl
theorem R9:az Tryz.prog 113=some (.nilFunc):=by kernel_rfl
theorem Sf:Tryz.prog.info? 113=some Tryz.t113:=by kernel_rfl
theorem ZN:sz Tryz.prog 116=some 1:=by kernel_rfl
theorem U4:bH Tryz.prog 116=some false:=by kernel_rfl
theorem Sm:az Tryz.prog 116=some (.nilFunc):=by kernel_rfl
theorem Sl:Tryz.prog.info? 116=some Tryz.t116:=by kernel_rfl
theorem Zh:sz Tryz.prog 168=some 1:=by kernel_rfl
theorem Us:bH Tryz.prog 168=some false:=by kernel_rfl
theorem Q3:az Tryz.prog 168=some (.nilFunc):=by kernel_rfl
theorem Sy:Tryz.prog.info? 168=some Tryz.t168:=by kernel_rfl
theorem aaS:sz Tryz.prog 58=some 3:=by kernel_rfl
theorem YG:bH Tryz.prog 58=some true:=by kernel_rfl
theorem KE:az Tryz.prog 58=some (.agg #[.int .i64 0,.int .i64 0,.slice none 0 0]):=by kernel_rfl
theorem Mt:Tryz.prog.info? 58=some Tryz.t58:=by kernel_rfl
theorem aaR:sz Tryz.prog 60=some 2:=by kernel_rfl
theorem Z3:bH Tryz.prog 60=some true:=by kernel_rfl
theorem Mq:az Tryz.prog 60=some (.agg #[.int .i64 0,.int .i64 0]):=by kernel_rfl
theorem LW:Tryz.prog.info? 60=some Tryz.t60:=by kernel_rfl
theorem aa8:sz Tryz.prog 40=some 1:=by kernel_rfl
theorem Y6:bH Tryz.prog 40=some true:=by kernel_rfl
theorem Vg:az Tryz.prog 40=some (.agg #[.slice none 0 0]):=by kernel_rfl
theorem VQ:Tryz.prog.info? 40=some Tryz.t40:=by kernel_rfl
theorem aaD:sz Tryz.prog 38=some 1:=by kernel_rfl
theorem Zn:bH Tryz.prog 38=some false:=by kernel_rfl
theorem V9:az Tryz.prog 38=some (.slice none 0 0):=by kernel_rfl
theorem VV:Tryz.prog.info? 38=some Tryz.t38:=by kernel_rfl
theorem abj:sz Tryz.prog 56=some 1:=by kernel_rfl
theorem PD:bH Tryz.prog 56=some false:=by kernel_rfl
theorem Wf:az Tryz.prog 56=some (.slice none 0 0):=by kernel_rfl
theorem WQ:Tryz.prog.info? 56=some Tryz.t56:=by kernel_rfl
theorem abl:sz Tryz.prog 37=some 1:=by kernel_rfl
theorem YC:bH Tryz.prog 37=some false:=by kernel_rfl
theorem TM:az Tryz.prog 37=some (.slice none 0 0):=by kernel_rfl
theorem Yc:Tryz.prog.info? 37=some Tryz.t37:=by kernel_rfl
theorem Zk:sz Tryz.prog 176=some 1:=by kernel_rfl
theorem WS:bH Tryz.prog 176=some false:=by kernel_rfl
theorem Q2:az Tryz.prog 176=some (.map none):=by kernel_rfl
theorem To:Tryz.prog.info? 176=some Tryz.t176:=by kernel_rfl
theorem YS:sz Tryz.prog 180=some 1:=by kernel_rfl
theorem T5:bH Tryz.prog 180=some false:=by kernel_rfl
theorem RF:az Tryz.prog 180=some (.map none):=by kernel_rfl
theorem Rp:Tryz.prog.info? 180=some Tryz.t180:=by kernel_rfl
theorem Zd:sz Tryz.prog 181=some 1:=by kernel_rfl
theorem Xd:bH Tryz.prog 181=some false:=by kernel_rfl
theorem Q6:az Tryz.prog 181=some (.map none):=by kernel_rfl
theorem Qz:Tryz.prog.info? 181=some Tryz.t181:=by kernel_rfl
theorem Zw:sz Tryz.prog 182=some 1:=by kernel_rfl
theorem Xq:bH Tryz.prog 182=some false:=by kernel_rfl
theorem Rt:az Tryz.prog 182=some (.map none):=by kernel_rfl
theorem RG:Tryz.prog.info? 182=some Tryz.t182:=by kernel_rfl
theorem aaZ:sz Tryz.prog 76=some 1:=by kernel_rfl
theorem Z9:bH Tryz.prog 76=some false:=by kernel_rfl
theorem WJ:az Tryz.prog 76=some (.map none):=by kernel_rfl
theorem U0:Tryz.prog.info? 76=some Tryz.t76:=by kernel_rfl
theorem aad:sz Tryz.prog 178=some 2:=by kernel_rfl
theorem XZ:bH Tryz.prog 178=some true:=by kernel_rfl
theorem Sp:az Tryz.prog 178=some (.agg #[.map none,.slice none 0 0]):=by kernel_rfl
theorem Tg:Tryz.prog.info? 178=some Tryz.t178:=by kernel_rfl
theorem ZO:sz Tryz.prog 135=some 1:=by kernel_rfl
theorem Xt:bH Tryz.prog 135=some false:=by kernel_rfl
theorem Rj:az Tryz.prog 135=some (.pointer none):=by kernel_rfl
theorem SQ:Tryz.prog.info? 135=some Tryz.t135:=by kernel_rfl
theorem aaE:sz Tryz.prog 84=some 2:=by kernel_rfl
theorem ZP:bH Tryz.prog 84=some true:=by kernel_rfl
theorem Wt:az Tryz.prog 84=some (.agg #[.pointer none,.slice none 0 0]):=by kernel_rfl
theorem UE:Tryz.prog.info? 84=some Tryz.t84:=by kernel_rfl
theorem aaT:sz Tryz.prog 78=some 1:=by kernel_rfl
theorem aaa:bH Tryz.prog 78=some false:=by kernel_rfl
theorem UO:az Tryz.prog 78=some (.pointer none):=by kernel_rfl
theorem V0:Tryz.prog.info? 78=some Tryz.t78:=by kernel_rfl
theorem PN:sz Tryz.prog 109=some 33:=by kernel_rfl
theorem Js:bH Tryz.prog 109=some true:=by kernel_rfl
theorem Gs:az Tryz.prog 109=some (.agg #[.int .i64 0,.int .u8 0,.int .u8 0,.int .u8 0,.int .u8 0,.int .u8 0,.int .u8 0,.int .u8 0,.int .u8 0,.int .u8 0,.int .u8 0,.int .u8 0,.int .u8 0,.int .u8 0,.int .u8 0,.int .u8 0,.int .u8 0,.int .u8 0,.int .u8 0,.int .u8 0,.int .u8 0,.int .u8 0,.int .u8 0,.int .u8 0,.int .u8 0,.int .u8 0,.int .u8 0,.int .u8 0,.int .u8 0,.int .u8 0,.int .u8 0,.int .u8 0,.int .u8 0]):=by kernel_rfl
theorem FS:Tryz.prog.info? 109=some Tryz.t109:=by kernel_rfl
theorem Yg:sz Tryz.prog 106=some 1:=by kernel_rfl
theorem WC:bH Tryz.prog 106=some false:=by kernel_rfl
theorem Td:az Tryz.prog 106=some (.slice none 0 0):=by kernel_rfl
theorem ST:Tryz.prog.info? 106=some Tryz.t106:=by kernel_rfl
theorem YP:sz Tryz.prog 165=some 1:=by kernel_rfl
theorem Vo:bH Tryz.prog 165=some true:=by kernel_rfl
theorem RD:az Tryz.prog 165=some (.agg #[.string (str [])]):=by kernel_rfl
theorem R6:Tryz.prog.info? 165=some Tryz.t165:=by kernel_rfl
theorem Yk:sz Tryz.prog 160=some 1:=by kernel_rfl
theorem Uu:bH Tryz.prog 160=some false:=by kernel_rfl
theorem QJ:az Tryz.prog 160=some (.pointer none):=by kernel_rfl
theorem SM:Tryz.prog.info? 160=some Tryz.t160:=by kernel_rfl
theorem ZK:sz Tryz.prog 159=some 1:=by kernel_rfl
theorem Yd:bH Tryz.prog 159=some true:=by kernel_rfl
theorem Rs:az Tryz.prog 159=some (.agg #[.int .i64 0]):=by kernel_rfl
theorem S4:Tryz.prog.info? 159=some Tryz.t159:=by kernel_rfl
theorem Z5:sz Tryz.prog 123=some 1:=by kernel_rfl
theorem Xe:bH Tryz.prog 123=some false:=by kernel_rfl
theorem Qg:az Tryz.prog 123=some (.int .u64 0):=by kernel_rfl
theorem Rb:Tryz.prog.info? 123=some Tryz.t123:=by kernel_rfl
theorem abg:sz Tryz.prog 54=some 2:=by kernel_rfl
theorem ZG:bH Tryz.prog 54=some true:=by kernel_rfl
theorem Vl:az Tryz.prog 54=some (.agg #[.int .i64 0,.int .i64 0]):=by kernel_rfl
theorem Vi:Tryz.prog.info? 54=some Tryz.t54:=by kernel_rfl
theorem aaX:sz Tryz.prog 36=some 2:=by kernel_rfl
theorem YM:bH Tryz.prog 36=some true:=by kernel_rfl
theorem X1:az Tryz.prog 36=some (.agg #[.int .u8 0,.int .u8 0]):=by kernel_rfl
theorem U9:Tryz.prog.info? 36=some Tryz.t36:=by kernel_rfl
theorem PV:sz Tryz.prog 103=some 33:=by kernel_rfl
theorem Lk:bH Tryz.prog 103=some true:=by kernel_rfl
theorem F2:az Tryz.prog 103=some (.agg #[.int .i64 0,.int .u8 0,.int .u8 0,.int .u8 0,.int .u8 0,.int .u8 0,.int .u8 0,.int .u8 0,.int .u8 0,.int .u8 0,.int .u8 0,.int .u8 0,.int .u8 0,.int .u8 0,.int .u8 0,.int .u8 0,.int .u8 0,.int .u8 0,.int .u8 0,.int .u8 0,.int .u8 0,.int .u8 0,.int .u8 0,.int .u8 0,.int .u8 0,.int .u8 0,.int .u8 0,.int .u8 0,.int .u8 0,.int .u8 0,.int .u8 0,.int .u8 0,.int .u8 0]):=by kernel_rfl
theorem Hr:Tryz.prog.info? 103=some Tryz.t103:=by kernel_rfl
theorem aa0:sz Tryz.prog 97=some 1:=by kernel_rfl
theorem Zx:bH Tryz.prog 97=some false:=by kernel_rfl
theorem VX:az Tryz.prog 97=some (.slice none 0 0):=by kernel_rfl
theorem TW:Tryz.prog.info? 97=some Tryz.t97:=by kernel_rfl
theorem YL:sz Tryz.prog 139=some 1:=by kernel_rfl
theorem Vb:bH Tryz.prog 139=some false:=by kernel_rfl
theorem SG:az Tryz.prog 139=some (.nilFunc):=by kernel_rfl
theorem S5:Tryz.prog.info? 139=some Tryz.t139:=by kernel_rfl
theorem YT:sz Tryz.prog 141=some 1:=by kernel_rfl
theorem Ya:bH Tryz.prog 141=some false:=by kernel_rfl
theorem Tr:az Tryz.prog 141=some (.nilFunc):=by kernel_rfl
theorem SP:Tryz.prog.info? 141=some Tryz.t141:=by kernel_rfl
theorem YE:sz Tryz.prog 185=some 1:=by kernel_rfl
theorem Uf:bH Tryz.prog 185=some false:=by kernel_rfl
theorem Tt:az Tryz.prog 185=some (.nilFunc):=by kernel_rfl
theorem R8:Tryz.prog.info? 185=some Tryz.t185:=by kernel_rfl
theorem Yj:sz Tryz.prog 187=some 1:=by kernel_rfl
theorem Xc:bH Tryz.prog 187=some false:=by kernel_rfl
theorem Qp:az Tryz.prog 187=some (.nilFunc):=by kernel_rfl
theorem TG:Tryz.prog.info? 187=some Tryz.t187:=by kernel_rfl
theorem aaN:sz Tryz.prog 88=some 1:=by kernel_rfl
theorem Yi:bH Tryz.prog 88=some false:=by kernel_rfl
theorem VC:az Tryz.prog 88=some (.nilFunc):=by kernel_rfl
theorem VS:Tryz.prog.info? 88=some Tryz.t88:=by kernel_rfl
theorem Y5:sz Tryz.prog 144=some 1:=by kernel_rfl
theorem Ux:bH Tryz.prog 144=some false:=by kernel_rfl
theorem TE:az Tryz.prog 144=some (.nilFunc):=by kernel_rfl
theorem QN:Tryz.prog.info? 144=some Tryz.t144:=by kernel_rfl
theorem YI:sz Tryz.prog 183=some 1:=by kernel_rfl
theorem U7:bH Tryz.prog 183=some false:=by kernel_rfl
theorem RE:az Tryz.prog 183=some (.nilFunc):=by kernel_rfl
theorem Qr:Tryz.prog.info? 183=some Tryz.t183:=by kernel_rfl
theorem YK:sz Tryz.prog 105=some 1:=by kernel_rfl
theorem Xx:bH Tryz.prog 105=some false:=by kernel_rfl
theorem Sq:az Tryz.prog 105=some (.pointer none):=by kernel_rfl
theorem Tv:Tryz.prog.info? 105=some Tryz.t105:=by kernel_rfl
noncomputable def FO:HF:=Af (kf Tryz.prog 82)
def uA:HF:=Af zg
theorem Po:bS Tryz.prog 28 uA:=⟨enters_of (by kernel_rfl),fun args W e W' h=>by obtain⟨v,rfl,q⟩:=lr h;exact B7 q,
 fun args W e W' h ρ args' w m hfr hH hA=>by obtain⟨v,rfl,q⟩:=lr h;exact Da (fun s w hs=>Ss s w hs) q hH hA⟩
theorem TC(s:ByteArray)(w:World)(hs:s.size<=140737488351232):Calls Tryz.prog 27 #[.string s] w fun e w'=>e=.returned (.agg (an (dR s.data.toList)).toArray)/\ak aO w w':=by
 have:=Om s.data.toList w (by have:=pX s;omega);rw[show str s.data.toList=s from rfl]at this;exact this
theorem D8:bS Tryz.prog 27 uA:=⟨enters_of (by kernel_rfl),fun args W e W' h=>by obtain⟨v,rfl,q⟩:=lr h;exact B7 q,
 fun args W e W' h ρ args' w m hfr hH hA=>by obtain⟨v,rfl,q⟩:=lr h;exact Da TC q hH hA⟩
theorem D0:bS Tryz.prog 73 FO:=⟨enters_of (by kernel_rfl),fun args W e W' h=>by obtain⟨v,rfl,q⟩:=lr h;exact zN q,
 fun args W e W' h ρ args' w m hfr hH hA=>by obtain⟨v,rfl,q⟩:=lr h;exact zj WU SR q hH hA⟩
theorem bi:dv Tryz.prog (aJ [] []):=⟨mixed,eP .nil .nil⟩
theorem jx:sI Tryz.prog 24 5:=⟨Tryz.underlying24,by kernel_rfl,Tryz.underlying5,by kernel_rfl⟩
theorem FF{l:List UInt8}{W:XW}(h:l.length<=140737488351232):uA [.string (str l)] W=some (.ret (.agg (an (dR l)).toArray),W):=by
 have e:zg [.string (str l)] W=some (.agg (an (dR l)).toArray,W):=by show(bif Nat.ble (str l).size 140737488351232 then HJ (str l).data.toList (Hl W)else none)=_;rw[dO,ox h,cond_true,yF];rfl
 unfold uA Af;rw[e]
theorem Jn{k':IntKind}{a:Int}{W:XW}:jp Tryz.prog W 3 3 (some (.int k' a)) (some (.int .i64)) (some (.int .i64))=some (.val (some (.int .i64 (IntKind.wrap .i64 a)))):=mR Tryz.underlying3 Tryz.underlying3
theorem Du{k':IntKind}{a:Int}{W:XW}:jp Tryz.prog W 3 5 (some (.int k' a)) (some (.int .i64)) (some (.int .u8))=some (.val (some (.int .u8 (IntKind.wrap .u8 a)))):=mR Tryz.underlying3 Tryz.underlying5
theorem Eb{k':IntKind}{a:Int}{W:XW}:jp Tryz.prog W 5 3 (some (.int k' a)) (some (.int .u8)) (some (.int .i64))=some (.val (some (.int .i64 (IntKind.wrap .i64 a)))):=mR Tryz.underlying5 Tryz.underlying3
theorem yX{k':IntKind}{a:Int}{W:XW}:jp Tryz.prog W 5 5 (some (.int k' a)) (some (.int .u8)) (some (.int .u8))=some (.val (some (.int .u8 (IntKind.wrap .u8 a)))):=mR Tryz.underlying5 Tryz.underlying5
theorem E9{k':IntKind}{a:Int}{W:XW}:jp Tryz.prog W 3 123 (some (.int k' a)) (some (.int .i64)) (some (.int .u64))=some (.val (some (.int .u64 (IntKind.wrap .u64 a)))):=mR Tryz.underlying3 Tryz.underlying123
theorem Fu{k':IntKind}{a:Int}{W:XW}:jp Tryz.prog W 123 3 (some (.int k' a)) (some (.int .u64)) (some (.int .i64))=some (.val (some (.int .i64 (IntKind.wrap .i64 a)))):=mR Tryz.underlying123 Tryz.underlying3
attribute [go_sem] ev.eq_3 ev.eq_4 evs.eq_1 evs.eq_2 dr.eq_1 dr.eq_2 jB.eq_1 jB.eq_2 nX.eq_1 eI.eq_1 evP.eq_1 evP.eq_2 Ic.eq_1 Ic.eq_2 val.eq_1 I6.eq_1 gq.eq_1 iQ.eq_1 cR.eq_1 cR.eq_2 fE.eq_1 fE.eq_2 fE.eq_3 fE.eq_4 pE.eq_1 pE.eq_2 pE.eq_3 mW.eq_1 mW.eq_2 xl.eq_1 kg.eq_1 kg.eq_2 fi.eq_1 wZ.eq_1 EG.eq_1 EG.eq_2 pa.eq_1 pa.eq_2 tW.eq_1 CG.eq_1 CG.eq_2 I8.eq_1 oR.eq_1 Av.eq_1 PW.eq_1 LD.eq_1 LB.eq_1 PL.eq_1 P4.eq_1 ir.eq_1 ir.eq_3 ir.eq_4 ir.eq_5 ir.eq_7 jD.eq_1 jD.eq_2 pJ.eq_1 pJ.eq_2 eJ.eq_1 eJ.eq_2 yu.eq_1 yu.eq_2 nY.eq_1 nY.eq_2 nY.eq_4 nY.eq_5 nY.eq_7 H5.eq_1 DZ.eq_1 DZ.eq_2 Iy.eq_1 DO.eq_1 Gw.eq_1 Gw.eq_2 zi.eq_1 zi.eq_2 zQ.eq_1 wt.eq_1 wt.eq_2 me.eq_1 me.eq_3 gB.eq_1 gB.eq_2 rV.eq_1 rV.eq_2 mt.eq_1 mt.eq_2 eD.eq_1 eD.eq_2 eD.eq_3 eD.eq_4 eD.eq_5 eD.eq_6 eD.eq_7 eD.eq_8 eD.eq_9 Cy.eq_1 Cy.eq_2 uF.eq_1 uF.eq_2 Ci.eq_1 Ci.eq_2 CB.eq_1 CB.eq_2 IJ.eq_1 zO.eq_1 F5.eq_1 F5.eq_2 vq.eq_1 C8.eq_1 C8.eq_2 FT.eq_1 FT.eq_2 Ao.eq_2 C7.eq_1 C7.eq_2 ye.eq_1 ye.eq_2 pc.eq_1 rF.eq_1 rF.eq_2 jp.eq_1 jp.eq_2 Dp.eq_1 ui.eq_1 Ih.eq_1 M4.eq_1 C4.eq_1 C4.eq_2 zD.eq_1 Aj.eq_1 uq.eq_1 uq.eq_2 I7.eq_1 yS.eq_1 yS.eq_2 Nv.eq_1 yE.eq_1 yE.eq_2 sR.eq_1 sR.eq_2 Hy.eq_1 Hy.eq_2 Ew.eq_1 m3.eq_1 m3.eq_2 qu.eq_1 qu.eq_2 kY.eq_1 kY.eq_2 kY.eq_3 kY.eq_4 CA.eq_1 CA.eq_2 xU.eq_1 xU.eq_2 wj.eq_1 wj.eq_2 om.eq_1 y8.eq_1 y8.eq_2 y8.eq_3 mY.eq_1 zc.eq_1 wT.eq_1 wT.eq_2 sj.eq_1 sj.eq_2 sj.eq_3 m5.eq_1 wX.eq_1 Et.eq_1 yI.eq_1 HQ.eq_1 x5.eq_1 x5.eq_2 Dn.eq_1 Dn.eq_2 tT.eq_1 tT.eq_2 Di.eq_1 wV.eq_1 Eo.eq_1 jI.eq_1 jI.eq_2 cj.eq_1 cj.eq_2 cj.eq_3 cj.eq_4 cj.eq_5 cj.eq_6 cj.eq_7 cj.eq_8 cj.eq_9 cj.eq_10 cj.eq_11 cj.eq_12 cj.eq_13 cj.eq_14 cj.eq_15 cj.eq_16 cj.eq_17 cj.eq_18 cj.eq_19 cj.eq_20 cj.eq_21 cj.eq_22 cj.eq_23 cj.eq_24 cj.eq_25 cj.eq_26 cj.eq_27 cj.eq_28 cj.eq_29 cj.eq_30 cj.eq_31 cj.eq_32 cj.eq_33 cj.eq_34 cj.eq_35 cj.eq_36 va.eq_1 va.eq_3 Dg.eq_1 Dg.eq_2 rL.eq_1 rL.eq_2 uL.eq_1 cU.eq_1 cU.eq_2 cU.eq_3 iG.eq_1 iG.eq_2 mD.eq_1 mD.eq_2 Ey.eq_1 Ey.eq_2 ku.eq_1 ku.eq_2 ku.eq_3 ku.eq_4 ku.eq_5 ku.eq_6 ku.eq_7 ku.eq_8 oC.eq_1 oC.eq_2 oC.eq_3 iu.eq_1 ze.eq_1 ze.eq_2 ze.eq_3 fR.eq_1 fR.eq_2 cW.eq_1 cW.eq_2 fV.eq_1 aY.eq_1 aY.eq_2 oH.eq_1 oH.eq_2 oH.eq_3 oH.eq_4 wI.eq_1 wI.eq_2 pK.eq_1 pK.eq_2 pK.eq_3 xZ.eq_1 xZ.eq_2 tq.eq_1 tS.eq_1 tS.eq_2 I3.eq_1 I3.eq_2 HU.eq_1 HU.eq_2 mi.eq_1 mi.eq_2 lE.eq_1 lE.eq_2 gA.eq_1 wr.eq_1 rep.eq_1 rep.eq_2 nU.eq_1 PC Tryz.t3 sz3 NO O8 Tryz.underlying3 Y8 Tryz.t4 sz4 abo Y1 Tryz.underlying4 Yo Tryz.t5 sz5 abe Yp Tryz.underlying5 P1 Tryz.t9 sz9 aaH Pj Tryz.underlying9 UL Tryz.t92 abk ZT Ub Tryz.underlying92 V2 Tryz.t20 aaK YD T1 Tryz.underlying20 Wj Tryz.t22 aaJ Zp WI Tryz.underlying22 VF Tryz.t80 aaQ Y3 V4 Tryz.underlying80 JH Tryz.t35 aa9 YA La Tryz.underlying35 Xu Tryz.t23 abn ZH Vz Tryz.underlying23 Ld Tryz.t24 OY H8 Kq Tryz.underlying24 TN Tryz.t48 aaW ZL Vu Tryz.underlying48 Xn Tryz.t65 aa6 Yl Ue Tryz.underlying65 U8 Tryz.t26 abf ZB XX Tryz.underlying26 VH Tryz.t63 aa7 Ze WF Tryz.underlying63 Ul Tryz.t69 aa1 Zz X5 Tryz.underlying69 Vm Tryz.t28 aaI aac Vc Tryz.underlying28 KJ Tryz.t72 Wl PS JY Tryz.underlying72 Ye Tryz.t67 aa2 Zb X0 Tryz.underlying67 X3 Tryz.t82 aba Zj VO Tryz.underlying82 UT Tryz.t79 aaV YW Xz Tryz.underlying79 Ua Tryz.t43 abd Zv VB Tryz.underlying43 Sf Tryz.t113 Yr UK R9 Tryz.underlying113 Sl Tryz.t116 ZN U4 Sm Tryz.underlying116 Sy Tryz.t168 Zh Us Q3 Tryz.underlying168 Mt Tryz.t58 aaS YG KE Tryz.underlying58 LW Tryz.t60 aaR Z3 Mq Tryz.underlying60 VQ Tryz.t40 aa8 Y6 Vg Tryz.underlying40 VV Tryz.t38 aaD Zn V9 Tryz.underlying38 WQ Tryz.t56 abj PD Wf Tryz.underlying56 Yc Tryz.t37 abl YC TM Tryz.underlying37 To Tryz.t176 Zk WS Q2 Tryz.underlying176 Rp Tryz.t180 YS T5 RF Tryz.underlying180 Qz Tryz.t181 Zd Xd Q6 Tryz.underlying181 RG Tryz.t182 Zw Xq Rt Tryz.underlying182 U0 Tryz.t76 aaZ Z9 WJ Tryz.underlying76 Tg Tryz.t178 aad XZ Sp Tryz.underlying178 SQ Tryz.t135 ZO Xt Rj Tryz.underlying135 UE Tryz.t84 aaE ZP Wt Tryz.underlying84 V0 Tryz.t78 aaT aaa UO Tryz.underlying78 FS Tryz.t109 PN Js Gs Tryz.underlying109 ST Tryz.t106 Yg WC Td Tryz.underlying106 R6 Tryz.t165 YP Vo RD Tryz.underlying165 SM Tryz.t160 Yk Uu QJ Tryz.underlying160 S4 Tryz.t159 ZK Yd Rs Tryz.underlying159 Rb Tryz.t123 Z5 Xe Qg Tryz.underlying123 Vi Tryz.t54 abg ZG Vl Tryz.underlying54 U9 Tryz.t36 aaX YM X1 Tryz.underlying36 Hr Tryz.t103 PV Lk F2 Tryz.underlying103 TW Tryz.t97 aa0 Zx VX Tryz.underlying97 S5 Tryz.t139 YL Vb SG Tryz.underlying139 SP Tryz.t141 YT Ya Tr Tryz.underlying141 R8 Tryz.t185 YE Uf Tt Tryz.underlying185 TG Tryz.t187 Yj Xc Qp Tryz.underlying187 VS Tryz.t88 aaN Yi VC Tryz.underlying88 QN Tryz.t144 Y5 Ux TE Tryz.underlying144 Qr Tryz.t183 YI U7 RE Tryz.underlying183 Tv Tryz.t105 YK Xx Sq Tryz.underlying105 Rc TH Qq Rm Ta Rh SE Rk Sc QC UG QU RX Q8 Sz R3 T4 UW Wa SK SV Jn Du Eb yX E9 Fu Nx Lo Ng MM JB Mz MJ Ke dO Lr FB CZ By SO MZ zJ Q9 Jw Qs OF NQ LH Nk VE Up List.size_toArray Lv KK JV Iv I4 IN Fi N4 NC Qm YO wrap_i64 wrap_u64 wrap_u8 Do m4 bE List.take_of_length_le List.toList_toArray List.drop_nil E8 wJ YV Yw yj.eq_1 Option.bind_some Bool.true_beq Bool.false_beq ox BQ mj xB Zo gz Ys aab PK Ph Zi ZC List.take_length List.drop_zero ZE Z7 ZD Y2 YU ZS Yq Y9 YY ZV UU U2 Vr UA VA Xb VP V8 Xk XV WE UZ WY Xj XG Vt XU Un QT Ry TJ Qj Se Qv S7 RN SU NL OW MF Sb Ov NJ Qc M9 Nr OM Oz OI Yb QS List.getElem_cons_zero List.getElem_cons_succ gQ e9 Mb MH WB ab aa da dm L4 ae i4 gI dk jF aJ eF dN Nat.zero_add Nat.add_zero Bool.and_true Bool.true_and Bool.false_and Bool.and_false Bool.not_true Bool.not_false Bool.or_true Bool.true_or Bool.or_false Bool.false_or cond_true cond_false Value.cells List.getElem?_cons_zero List.getElem?_cons_succ List.getElem?_toArray List.length_cons List.length_nil List.all_cons List.all_nil List.drop_succ_cons List.take_succ_cons List.take_zero List.cons_append List.nil_append List.append_nil Nat.zero_mod Nat.sub_self
attribute [go_sem] Hz.eq_1 sX.eq_1 sX.eq_2 BP.eq_1 xC.eq_1 xC.eq_2 tN.eq_1 tN.eq_2
abbrev aV:=List (HB×List UInt8)
def bq(l:List UInt8):HB:=⟨dR l,dB l⟩
def dh(t:List UInt8):Value:=.string (str t)
theorem fJ(t:List UInt8):d8 (dh t):=dz 8 rfl
theorem y5{a b:List UInt8}(h:str a=str b):a=b:=by
 have:=congrArg (fun q:ByteArray=>q.data.toList) h;exact this
theorem NR{a b:List UInt8}(h:dh a=dh b):a=b:=by
 unfold dh at h;injection h with h;exact y5 h
theorem V6{a b:UInt8}(h:bv a=bv b):a=b:=by
 unfold bv at h;injection h with _ h;exact UInt8.toNat_inj.1 (by omega)
theorem Rq{a b:List UInt8}(h:an a=an b):a=b:=(List.map_inj_right (fun x y e=>V6 e)).1 h
theorem uR{a b:HB}(h:bu a=bu b):a=b:=by
 unfold bu at h;injection h with h;have:=congrArg Array.toList h;exact Subtype.ext (Rq (by simpa using this))
theorem Dw:∀{l m:aV} {i j:Nat},gY dh l i=gY dh m j->l=m
 |[],[],_,_,_=>rfl
 |[],_::_,_,_,h=>by simp[gY]at h
 |_::_,[],_,_,h=>by simp[gY]at h
 |(a,x)::l,(b,y)::m,i,j,h=>by
  unfold gY at h;injection h with h1 h2;injection h1 with h3 h4 _;have e1:a=b:=uR h3;have e2:x=y:=NR h4;rw[e1,e2,Dw h2]
def stM:aV->Nat->Value
 |[],_=>.map none
 |_::_,b=>.map (some b)
def aE(es:aV)(b:Nat):ah:=.cells [stM es b] 65 (0,0)
def gP:aV->Option ah
 |[]=>none
 |x::l=>some (.map (jk dh (x::l)) (x::l).length)
def aaf:ah->Option Nat
 |.cells [.map (some b)] _ _=>some b
 |_=>none
noncomputable def vF:oF Tryz.prog aV where
 main es _ b:=aE es b
 sat:=gP
 hnd:=aaf
 hnd_eq es w b:=by cases es<;>rfl
 inj a a' w b h hs:=by
  cases a<;>cases a'<;>first|rfl|(cases hs;done)|skip
  rename_i x l y m;injection hs with hs;injection hs with hs _;exact Dw hs
 free a w b b' h:=by
  cases a
  ·rfl
  cases h
 ren a w w' b b' θ h1 h2:=by
  cases a with
  |nil=>exact cm (av (ki 1 rfl) aR)
  |cons x l=>exact cm (av (cI (h2 (fun e=>by cases e))) aR)
 bare a o h:=by
  cases a with
  |nil=>cases h
  |cons x l=>cases h;exact gh fJ _ _
def EK(x:HB×List UInt8):List Value:=an x.1.1++[dh x.2]
def io(l:aV):List Value:=l.flatMap EK
theorem qX(x:HB×List UInt8):(EK x).length=33:=by
 unfold EK;rw[abP,bE,x.1.2];rfl
def fm(es:aV)(o:List UInt8):aV:=if(aD (bq o) es).isSome then es else es++[(bq o,o)]
open Classical in
noncomputable def rC:PP aV:=fun xs es=>if h:∃k:HB,xs=[bu k]then some (.tuple #[((aD (Classical.choose h) es).map dh).getD (.string (str [])),.bool (aD (Classical.choose h) es).isSome],es,.rd)else none
theorem GJ{es:aV}{k:HB}:rC [bu k] es=some (.tuple #[((aD k es).map dh).getD (.string (str [])),.bool (aD k es).isSome],es,.rd):=by
 have hx:∃q:HB,[bu k]=[bu q]:=⟨k,rfl⟩;have e:rC [bu k] es=some (.tuple #[((aD (Classical.choose hx) es).map dh).getD (.string (str [])),.bool (aD (Classical.choose hx) es).isSome],es,.rd):=dif_pos hx;have hq:k=Classical.choose hx:=by have:=ab3 hx;injection this with this _;exact uR this
 rw[e,<-hq]
theorem Dl{xs:List Value}{es es':aV}{v:Value}{md:Md}(h:rC xs es=some (v,es',md)):∃k:HB,xs=[bu k]/\v=.tuple #[((aD k es).map dh).getD (.string (str [])),.bool (aD k es).isSome]/\es'=es/\md=.rd:=by
 unfold rC at h;split at h
 ·rename_i hx;have h1:=ab3 hx;cases h;exact⟨_,h1,rfl,rfl,rfl⟩
 cases h
theorem MR{es:aV}{k:HB}:d8 (.tuple #[((aD k es).map dh).getD (.string (str [])),.bool (aD k es).isSome]):=
 xL (cs:=[_,_]) (j7 (by cases aD k es<;>exact fJ _) (j7 (dz 1 rfl) iH))
theorem oB{α:Type}{b t:Nat}{v:Option α}{F F':List (Nat×Option α)}(h:t<b)(hl:lk F t=v)(hs:de b F F'):de b F ((t,v)::F'):=by
 cases v with
 |none=>exact hs
 |some v=>exact⟨⟨h,hl⟩,hs⟩
theorem pf{P:Program}{t e:TypeId}{x y:Operand}{b o:Nat}(hu:P.underlying t=some (.pointer e)):dH P .eql t x y (some (.pointer (some ⟨b,o,none⟩))) (some (.pointer none))=some (.val (some (.bool false))):=by
 show FT .eql (vy P t (.pointer (some ⟨b,o,none⟩)) (.pointer none))=_;unfold vy;rw[hu];rfl
theorem Ln{P:Program}{t k e:TypeId}{x y:Operand}{b:Nat}(hu:P.underlying t=some (.map k e)):dH P .eql t x y (some (.map (some b))) (some (.map none))=some (.val (some (.bool false))):=by
 show FT .eql (vy P t (.map (some b)) (.map none))=_;unfold vy;rw[hu];rfl
theorem N1{n:Nat}:dH Tryz.prog .eql 63 (.tmp n) (.const (.map none)) (some (.map none)) (some (.map none))=some (.val (some (.bool true))):=by kernel_rfl
theorem Az{l:aV}(h:l≠[]){b:Nat}:aE l b=.cells [.map (some b)] 65 (0,0):=by
 cases l with
 |nil=>exact absurd rfl h
 |cons x l=>rfl
theorem wi{l:aV}(h:l≠[]):gP l=some (.map (jk dh l) l.length):=by
 cases l with
 |nil=>exact absurd rfl h
 |cons x l=>rfl
theorem xE{k:HB}{l:aV}(h:aD k l=none):np k l 0=none:=by
 have:=ub k l 0;rw[h]at this;cases e:np k l 0 with
 |none=>rfl
 |some x=>rw[e]at this;cases this
theorem yk{k:HB}{l:aV}{t:List UInt8}(h:aD k l=some t):∃i,np k l 0=some (i,t):=by
 have:=ub k l 0;rw[h]at this;cases e:np k l 0 with
 |none=>rw[e]at this;cases this
 |some x=>rw[e]at this;obtain⟨i,u⟩:=x;cases this;exact⟨i,rfl⟩
theorem MS{es:aV}{o:List UInt8}(h:aD (bq o) es=none):fm es o=es++[(bq o,o)]:=by unfold fm;rw[h];rfl
theorem NU{es:aV}{o t:List UInt8}(h:aD (bq o) es=some t):fm es o=es:=by unfold fm;rw[h];rfl
theorem FX{α:Type}{l:List α}{x:α}:l++[x]≠[]:=by simp
theorem OE(es:aV)(k:HB)(o:List UInt8){n:Nat}(h:n=es.length):some (ah.map (jk dh es++[⟨bu k,.string (str o),n⟩]) (n+1))=some (ah.map (jk dh (es++[(k,o)])) (es++[(k,o)]).length):=by
 subst h;have:=Bi (enc:=dh) k o es 0;rw[Nat.zero_add]at this;unfold jk;rw[<-this,abP];rfl
def T2:List (FuncId×HF):=[(28,uA)]
theorem OD(es:aV)(k:HB):bg Tryz.prog 12 [.pointer (some ⟨0,0,none⟩),bu k] (lw vF es) fun e W'=>e=.ret (.tuple #[((aD k es).map dh).getD (.string (str [])),.bool (aD k es).isSome])/\UR vF es es W' .rd:=by
 have hln:(an k.1).length=32:=by rw[bE,k.2]
 have hkv:Value.agg (an k.1).toArray=bu k:=rfl;cases es with
 |nil=>
  show bg _ _ [.pointer (some ⟨0,0,none⟩),.agg (an k.1).toArray] (wd [(0,some (.cells [.map none] 65 (0,0)))] 1 [] 0) fun e W'=>e=.ret (.tuple #[.string (str []),.bool false])/\W'.get 0=some (.cells [.map none] 65 (0,0))/\∀o,gP []=some o->W'.get 1=some o
  refine cH bi Tryz.func12 rfl (Nat.le_of_ble_eq_true rfl) ?_;simp only[bk.eq_1,bk.eq_2,dk,Tryz.ntmps12,Nat.reduceAdd];have hfn:gb Tryz.prog 24 (bu k) []=some none:=mZ (enc:=dh) jx k ([]:aV);refine ai (aG bi (by simp(disch:=first|decide|omega) only[hln,go_sem]<;>with_reducible rfl) ?_);refine ai ?_;refine ai (aG bi (by simp(disch:=first|decide|omega) only[pf Tryz.underlying26,go_sem]<;>with_reducible rfl) ?_);refine kO (by simp(disch:=first|decide|omega) only[go_sem]<;>with_reducible rfl) ?_;refine ap ?_;refine uK bi ⟨ao [(6,some (.string (str []))),(7,some (.bool false))],wd [(0,some (.cells [.map none] 65 (0,0)))] 2 [] 0,[]⟩ ?hda ?qda
  case hda=>
   refine⟨?rsa,?sxa,?hxa,?kxa,?lxa⟩
   case hxa=>simp(disch:=first|decide|omega) only[aY.eq_1,aY.eq_2,fV.eq_1,cW.eq_1,cW.eq_2,hln,hkv,mS jx,hfn,acA,ach,go_sem]<;>with_reducible rfl
   case kxa=>kernel_rfl
   case lxa=>exact gk (by simp(disch:=decide) [de,ab,aa,da]) (by simp(disch:=decide) [de,ab,aa,da]) (by decide)
  refine ai (aG bi (by simp(disch:=first|decide|omega) only[go_sem]<;>with_reducible rfl) ?_);refine fQ ?_;refine⟨_,?e5,?W5,rfl,?h5,?q5⟩
  case h5=>simp(disch:=first|decide|omega) only[Tryz.results12,go_sem]<;>with_reducible rfl
  refine⟨rfl,?_,fun o h=>(by cases h)⟩;simp(disch:=first|decide|omega) only[go_sem]
 |cons x l=>
  obtain⟨es,hes⟩:∃es,es=x::l:=⟨_,rfl⟩;show bg _ _ [.pointer (some ⟨0,0,none⟩),.agg (an k.1).toArray] (wd [(0,some (.cells [.map (some 1)] 65 (0,0))),(1,some (.map (jk dh (x::l)) (x::l).length))] 2 [] 0) fun e W'=>e=.ret (.tuple #[((aD k (x::l)).map dh).getD (.string (str [])),.bool (aD k (x::l)).isSome])/\W'.get 0=some (.cells [.map (some 1)] 65 (0,0))/\∀o,gP (x::l)=some o->W'.get 1=some o
  rw[<-hes];have hne:es≠[]:=by rw[hes];simp
  clear hes;refine cH bi Tryz.func12 rfl (Nat.le_of_ble_eq_true rfl) ?_;simp only[bk.eq_1,bk.eq_2,dk,Tryz.ntmps12,Nat.reduceAdd];refine ai (aG bi (by simp(disch:=first|decide|omega) only[hln,go_sem]<;>with_reducible rfl) ?_);refine ai ?_;refine ai (aG bi (by simp(disch:=first|decide|omega) only[pf Tryz.underlying26,go_sem]<;>with_reducible rfl) ?_);refine kO (by simp(disch:=first|decide|omega) only[go_sem]<;>with_reducible rfl) ?_;refine ap ?_;refine uK bi ⟨ao [(6,some (((aD k es).map dh).getD (.string (str [])))),(7,some (.bool (aD k es).isSome))],wd [(0,some (.cells [.map (some 1)] 65 (0,0))),(1,some (.map (jk dh es) es.length))] 3 [] 0,[]⟩ ?hdb ?qdb
  case hdb=>
   rcases hg:aD k es with _|t
   ·have hf:=xE hg;refine⟨?rsb,?sxb,?hxb,?kxb,?lxb⟩
    case hxb=>simp(disch:=first|decide|omega) only[aY.eq_1,aY.eq_2,fV.eq_1,cW.eq_1,cW.eq_2,hln,hkv,mS jx,mZ jx,hf,acA,ach,go_sem]<;>with_reducible rfl
    case kxb=>kernel_rfl
    case lxb=>exact gk (oB (by decide) rfl (oB (by decide) rfl trivial)) (by simp(disch:=decide) [de,ab,aa,da]) (by decide)
   obtain⟨i,hf⟩:=yk hg;refine⟨?rsc,?sxc,?hxc,?kxc,?lxc⟩
   case hxc=>simp(disch:=first|decide|omega) only[aY.eq_1,aY.eq_2,fV.eq_1,cW.eq_1,cW.eq_2,hln,hkv,mS jx,mZ jx,hf,acA,ach,go_sem]<;>with_reducible rfl
   case kxc=>kernel_rfl
   case lxc=>exact gk (oB (by decide) rfl (oB (by decide) rfl trivial)) (by simp(disch:=decide) [de,ab,aa,da]) (by decide)
  have h1:dr (((aD k es).map dh).getD (.string (str [])))=true:=by cases aD k es<;>rfl
  refine ai (aG bi (by simp(disch:=first|decide|omega) only[go_sem]<;>with_reducible rfl) ?_);refine fQ ?_;refine⟨_,?e10,?W10,rfl,?h10,?q10⟩
  case h10=>simp(disch:=first|decide|omega) only[Tryz.results12,go_sem]<;>with_reducible rfl
  refine⟨rfl,?_,fun o h=>?_⟩
  ·simp(disch:=first|decide|omega) only[go_sem]
  rw[wi hne]at h;rw[<-h,ae (by decide) (by decide)];simp(disch:=first|decide|omega) only[ab,aa]
theorem I2:bS Tryz.prog 12 (qh vF rC):=H9 (enters_of (by kernel_rfl)) (fun xs a v a' md h=>by
 obtain⟨k,rfl,rfl,_,_⟩:=Dl h;exact⟨j7 (wg _) iH,MR⟩) (fun xs a v a' md h=>by
 obtain⟨k,rfl,rfl,rfl,rfl⟩:=Dl h;exact OD _ k)
def cM(a b:HB):Bool:=dU a.1 b.1
open Classical in
noncomputable def u7:List Value->Option Value:=fun xs=>if h:∃q:HB×HB,xs=[bu q.1,bu q.2]then some (.bool (cM (Classical.choose h).1 (Classical.choose h).2))else none
theorem M5{a b:HB}:u7 [bu a,bu b]=some (.bool (cM a b)):=by
 have hx:∃q:HB×HB,[bu a,bu b]=[bu q.1,bu q.2]:=⟨(a,b),rfl⟩;have e:u7 [bu a,bu b]=some (.bool (cM (Classical.choose hx).1 (Classical.choose hx).2)):=dif_pos hx;have hq:=ab3 hx;generalize Classical.choose hx=q at hq e;injection hq with h1 h2;injection h2 with h2 _;rw[e,uR h1,uR h2]
theorem X2:bS Tryz.prog 29 (mo u7):=by
 have inv:∀xs v,u7 xs=some v->∃a b:HB,xs=[bu a,bu b]/\v=.bool (cM a b):=fun xs v h=>by
  unfold u7 at h;split at h
  ·rename_i hx;have hq:=ab3 hx;cases h;exact⟨_,_,hq,rfl⟩
  cases h
 refine Hx (enters_of (by kernel_rfl)) (fun xs v h=>?_) (fun xs v h w=>?_)
 ·obtain⟨a,b,rfl,rfl⟩:=inv _ _ h;exact⟨fun x hx=>by
   simp only[acd,ab6,or_false]at hx;rcases hx with rfl|rfl<;>exact vi _,rfl⟩
 obtain⟨a,b,rfl,rfl⟩:=inv _ _ h;exact Li a.1 b.1 w a.2 b.2
def lZ(h:HB):aV->Nat
 |[]=>0
 |x::l=>if cM x.1 h then lZ h l+1 else 0
def Ij(es:aV)(o:List UInt8):aV:=es.take (lZ (bq o) es)++(bq o,o)::es.drop (lZ (bq o) es)
def zk(es:aV)(o:List UInt8):Bool:=match es[lZ (bq o) es]? with
 |some x=>decide (x.1=bq o)
 |none=>false
def wq(es:aV)(o:List UInt8):aV:=if zk es o then es else Ij es o
theorem pN:∀l:aV,(io l).length=l.length*33
 |[]=>rfl
 |x::l=>by
  unfold io;rw[ab7,abP,qX,List.length_cons];have:=pN l;unfold io at this;rw[this];omega
theorem rG:∀(l:aV) (i:Nat),(io l).take (i*33)=io (l.take i)
 |[],i=>by simp[io]
 |x::l,0=>by simp[io]
 |x::l,i+1=>by
  show(EK x++io l).take _=EK x++io (l.take i);rw[acM,acy,List.take_append,List.take_of_length_le (by rw[qX];omega),qX,show 33+i*33-33=i*33 by omega,rG l i]
theorem s6:∀(l:aV) (i:Nat),(io l).drop (i*33)=io (l.drop i)
 |[],i=>by simp[io]
 |x::l,0=>by simp[io]
 |x::l,i+1=>by
  show(EK x++io l).drop _=io (l.drop i);rw[acM,acy,List.drop_append,aco (by rw[qX];omega),qX,show 33+i*33-33=i*33 by omega,s6 l i,List.nil_append]
theorem AI(l:aV):(io l).all dr=true:=by
 rw[ada];intro v hv;obtain⟨x,_,hx⟩:=List.mem_flatMap.1 hv;unfold EK at hx;rcases List.mem_append.1 hx with h|h
 ·obtain⟨b,_,rfl⟩:=List.mem_map.1 h;rfl
 simp only[acd,ab6,or_false]at h;subst h;rfl
end Go.Proofs.YthlkgmdkabelpaaGreat.X
