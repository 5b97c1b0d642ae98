/-
  Packed by program (tools/pack.py) out of the texts F1 F2 F3 F4 F5 F6 F7 F8 F9 F10 F11. No condition.
-/
import Derived.Test.YthlkgmdkabelpaaGreatZA
import Derived.Still
import Derived.OrdersIn
import Derived.RangeFuncIn
import Derived.Lib.ConvBytes
import Derived.Lib.UnsafeStr
set_option linter.all false
namespace Go.Proofs.YthlkgmdkabelpaaGreat.X
open Go Go.RowKit
inductive PT(α:Type) where
 |lf
 |nd (l:PT α) (v:Option α) (r:PT α)
def PT.get{α:Type}:PT α->Nat->Option α
 |.lf,_=>none
 |.nd l v r,n=>bif Nat.beq n 0 then v else bif Nat.beq (n%2) 1 then l.get (n/2)else r.get (n/2-1)
def PT.set{α:Type}:PT α->Nat->Option α->PT α
 |.lf,_,_=>.lf
 |.nd l v r,n,x=>bif Nat.beq n 0 then .nd l x r else bif Nat.beq (n%2) 1 then .nd (l.set (n/2) x) v r else .nd l v (r.set (n/2-1) x)
def PT.full{α:Type}:Nat->PT α
 |0=>.lf
 |k+1=>.nd (PT.full k) none (PT.full k)
def aX:Nat->Value->Bool
 |0,_=>false
 |_+1,.bool _=>true
 |_+1,.int _ _=>true
 |_+1,.string _=>true
 |_+1,.pointer none=>true
 |_+1,.slice none _ _=>true
 |_+1,.map none=>true
 |_+1,.nilFunc=>true
 |_+1,.nilIface=>true
 |_+1,.func (.func _) f c=>f.isEmpty&&c.isEmpty
 |n+1,.iface _ v=>aX n v
 |n+1,.agg cs=>cs.toList.all (aX n)
 |n+1,.tuple cs=>cs.toList.all (aX n)
 |_+1,_=>false
def FZ(cs:List Value)(len:Nat):Value:=.func (.methodOf len "") cs.toArray #[]
def FP(cs:List Value):Value:=.func (.method "") cs.toArray #[]
abbrev cy(v:Value):Bool:=aX 8 v
abbrev XF:=PT Value
inductive ah where
 |cells (c:List Value) (e:TypeId) (fr:Nat×Nat)
 |map (es:List MapEntry) (clock:Nat)
 |iter (m:Nat) (since:Nat) (seen:List Nat) (stepped:Nat)
 |loop (st:LoopState) (pend:Option Code) (tm:XF) (N:Nat) (ps:List Tmp) (asg body:Code) (defers:Nat)
 |defd (taken:Bool)
structure XW where
 heap:PT ah
 next:Nat
 log:List Nat
 nlog:Nat
def XW.get(W:XW)(n:Nat):Option ah:=bif Nat.blt n W.next then W.heap.get n else none
def XW.put(W:XW)(n:Nat)(o:Option ah):XW:=⟨W.heap.set n o,W.next,n::W.log,W.nlog+1⟩
def XW.push(W:XW)(o:ah):XW:=⟨W.heap.set W.next (some o),W.next+1,W.log,W.nlog⟩
def XW.empty:XW:=⟨PT.full 14,0,[],0⟩
def bf:Nat:=4611686018427387904
def bd(c:Nat):Bool:=Nat.ble 2305843009213693952 c
def aq:Nat:=4611686018427387905
def jL(len cap:Nat):Bool:=Nat.beq len 0&&Nat.beq cap aq
inductive XR where
 |val (v:Option Value)
 |new (o:ah) (k:Nat->Value)
 |mod (v:Value) (W:XW)
 |enter (f:FuncId) (args:List Value)
 |pan (v:Value)
 |defer (f:FuncId) (args:List Value) (cap:List Value)
 |round (l:Nat) (args:List Value)
def ev(fr:XF):Operand->Option Value
 |.tmp t=>fr.get t
 |.const v=>bif cy v then some v else none
 |.global _=>none
 |.func f=>some (.func (.func f) #[] #[])
def evs(fr:XF):List Operand->Option (List Value)
 |[]=>some []
 |x::l=>match ev fr x,evs fr l with
  |some v,some vs=>some (v::vs)
  |_,_=>none
def ay{α:Type}(P:Program):Sem α->Option α
 |.pure a=>some a
 |.program k=>ay P (k P)
 |.mark _ k=>ay P k
 |.choose q k=>bif q.forced then ay P (k 0)else none
 |_=>none
def sz(P:Program)(t:TypeId):Option Nat:=(P.info? t).map (·.size)
def az(P:Program)(t:TypeId):Option Value:=
 match P.info? t with
 |some i=>match i.zero with
  |some z=>bif cy z then some z else none
  |none=>none
 |none=>none
def bH(P:Program)(t:TypeId):Option Bool:=
 match P.underlying t with
 |some (.struct _)=>some true
 |some (.array _ _)=>some true
 |some _=>some false
 |none=>none
def dr:Value->Bool
 |.agg _=>false
 |.tuple _=>false
 |_=>true
def gA(P:Program)(t:TypeId)(c:List Value)(o:Nat):Option Value:=
 match bH P t,sz P t with
 |some true,some s=>let l:=(c.drop o).take s;bif Nat.beq l.length s then some (.agg l.toArray)else none
 |some false,_=>c[o]?
 |_,_=>none
def jB(P:Program)(W:XW)(t:TypeId):Value->Option Value
 |.pointer (some ⟨n,o,none⟩)=>match W.get n with
  |some (.cells c _ _)=>gA P t c o
  |_=>none
 |.func (.method _) cs _=>gA P t cs.toList 0
 |_=>none
def nX(fr:Nat×Nat)(o s:Nat):Bool:=!(Nat.ble fr.2 fr.1||Nat.ble fr.2 o||Nat.ble (o+s) fr.1)
def wr(c:List Value)(o:Nat)(vs:List Value):List Value:=c.take o++(vs++c.drop (o+vs.length))
def eI(W:XW)(n o:Nat)(vs:List Value):Option XW:=
 match W.get n with
 |some (.cells c e fr)=>bif Nat.ble (o+vs.length) c.length&&!nX fr o vs.length&&vs.all dr then some (W.put n (some (.cells (wr c o vs) e fr)))else none
 |_=>none
def mi(place:Nat->Option (Nat×Nat))(cells:List Value):List (Nat×Value)->Option (List Value)
 |[]=>some cells
 |(i,v)::rest=>match place i with
  |none=>none
  |some (off,size)=>bif Nat.beq v.cells.size size&&Nat.ble (off+size) cells.length then mi place (wr cells off v.cells.toList) rest else none
def evP(fr:XF):List (Nat×Operand)->Option (List (Nat×Value))
 |[]=>some []
 |(i,x)::l=>match ev fr x,evP fr l with
  |some v,some vs=>some ((i,v)::vs)
  |_,_=>none
def rep(z:List Value):Nat->List Value
 |0=>[]
 |n+1=>z++rep z n
def lE(P:Program):List Field->Option (List (Nat×Nat))
 |[]=>some []
 |f::l=>match sz P f.type,lE P l with
  |some s,some r=>some ((f.offset,s)::r)
  |_,_=>none
def Ic:Option (List Value)->Option Value
 |some cs=>some (.agg cs.toArray)
 |none=>none
def I3(z:Value)(ps:List (Nat×Value)):Option (List (Nat×Nat))->Option Value
 |some pl=>Ic (mi (fun i=>pl[i]?) z.cells.toList ps)
 |none=>none
def HU(z:Value)(ps:List (Nat×Value)):Option Nat->Option Value
 |some s=>Ic (mi (fun i=>some (i*s,s)) z.cells.toList ps)
 |none=>none
def tS(P:Program)(ps:List (Nat×Value)):Option Value->Option TypeDesc->Option Value
 |some z,some (.struct fs)=>I3 z ps (lE P fs.toList)
 |some z,some (.array _ e)=>HU z ps (sz P e)
 |_,_=>none
def val(v:Value):Option XR:=some (.val (some v))
def I6(o:ah):Option XR:=some (.new o fun n=>.pointer (some ⟨n,0,none⟩))
def gq(o:ah)(len cap:Nat):Option XR:=some (.new o fun n=>.slice (some ⟨n,0,none⟩) len cap)
def iQ(W:XW)(o:ah)(len cap:Nat):Option XR:=some (.mod (.slice (some ⟨W.next,0,none⟩) len cap) (W.push o))
def cR(fr:XF)(d:Nat):Option Operand->Option Nat
 |none=>some d
 |some x=>match ev fr x with
  |some (.int _ (.ofNat n))=>some n
  |_=>none
def fE(W:XW)(s n:Nat):Value->Option (List Value)
 |.slice none _ _=>bif Nat.beq n 0 then some []else none
 |.slice (some ⟨b,o,none⟩) _ _=>bif Nat.beq n 0 then some []else match W.get b with
  |some (.cells c _ _)=>let l:=(c.drop o).take (n*s);bif Nat.beq l.length (n*s)then some l else none
  |_=>none
 |.string t=>let l:=t.data.toList.map fun b=>Value.int .u8 b.toNat;some (l.take n)
 |.func (.methodOf _ _) cs _=>let l:=cs.toList.take (n*s);bif Nat.beq l.length (n*s)then some l else none
 |_=>none
def pE:Value->Option Nat
 |.slice _ n _=>some n
 |.string s=>some s.size
 |.func (.methodOf n _) _ _=>some n
 |_=>none
def mW(v:Value):Option XW->Option XR
 |some W=>some (.mod v W)
 |none=>none
def xl(fr:Nat×Nat)(o:Nat):Nat×Nat:=bif Nat.beq fr.1 0 then(0,fr.2-o)else(1,1)
def kg(W:XW)(cap:Nat)(e:TypeId):Option Addr->Bool
 |none=>!bd cap
 |some a=>!bd cap||(match W.get a.block with
  |some (.cells _ e' _)=>Nat.beq e e'
  |_=>false)
def fi(by_ need:Nat):Bool:=Nat.ble (need*by_) 1099511627776&&Nat.ble need 1099511627776
def wZ(W:XW)(b o len n cap s by_:Nat)(e:TypeId)(src:List Value):Option ah->Option XR
 |some (.cells c e' fr)=>bif bd cap&&Nat.beq e e'&&Nat.ble (o+len*s) c.length&&fi by_ (len+n)&&!nX fr (o+len*s) (n*s)&&(Nat.beq fr.1 0||Nat.ble fr.2 fr.1)&&Nat.beq (o%s) 0 then iQ (W.put b none) (.cells ((c.drop o).take (len*s)++src) e (xl fr o)) (len+n) cap else none
 |_=>none
def nU:Option ah->Nat
 |some (.cells c _ _)=>c.length
 |_=>0
def EG(W:XW)(e:TypeId)(src:List Value)(need by_:Nat):Option (List Value)->Option XR
 |some old=>bif fi by_ need then iQ W (.cells (old++src) e (0,0)) need bf else none
 |none=>none
def pa(W:XW)(len n cap s by_:Nat)(e:TypeId)(src:List Value):Option Addr->Option XR
 |none=>bif Nat.beq cap 0&&Nat.beq len 0&&fi by_ n then iQ W (.cells src e (0,0)) n bf else none
 |some ⟨b,o,none⟩=>bif bd cap||Nat.ble (len+n) cap then
  bif Nat.ble (o+(len+n)*s) (nU (W.get b))&&kg W cap e (some ⟨b,o,none⟩)&&!jL len cap then mW (.slice (some ⟨b,o,none⟩) (len+n) cap) (eI W b (o+len*s) src)
  else wZ W b o len n cap s by_ e src (W.get b)
  else EG W e src (len+n) by_ (fE W s len (.slice (some ⟨b,o,none⟩) len cap))
 |_=>none
def BP(W:XW)(b len n cap s by_:Nat)(e:TypeId)(src:List Value):Option ah->Option XR
 |some (.cells c e' fr)=>bif Nat.beq e e'&&Nat.beq c.length (len*s)then(bif bd cap then(bif Nat.beq n 0&&Nat.ble len cap then iQ (W.put b none) (.cells c e fr) len cap else none)else bif Nat.beq cap len&&fi by_ (len+n)then iQ (W.put b none) (.cells (c++src) e fr) (len+n) bf else none)else none
 |_=>none
def sX(W:XW)(len n cap s by_:Nat)(e:TypeId)(src:List Value)(o:Option ah):Option Addr->Option XR
 |some ⟨b,0,none⟩=>BP W b len n cap s by_ e src o
 |_=>none
def tN:Option XR->Option XR->Option XR
 |some r,_=>some r
 |none,q=>q
def xC(W:XW):Option Addr->Option ah
 |some ⟨b,_,none⟩=>W.get b
 |_=>none
def Hz(W:XW)(e:TypeId)(s n by_:Nat)(src:List Value)(base:Option Addr)(len cap:Nat)(o:Option ah):Option XR:=
 tN (sX W len n cap s by_ e src o base) <| bif Nat.beq n 0 then(bif Nat.ble len cap then val (.slice base len cap)else none)else bif Nat.blt 0 s then pa W len n cap s by_ e src base else none
def tW(W:XW)(e:TypeId)(s n by_:Nat)(src:List Value):Value->Option XR
 |.slice base len cap=>Hz W e s n by_ src base len cap (xC W base)
 |_=>none
def CG(W:XW)(e:TypeId)(s n by_:Nat)(v:Value):Option (List Value)->Option XR
 |some src=>bif Nat.beq src.length (n*s)&&src.all dr then tW W e s n by_ src v else none
 |none=>none
def I8(W:XW)(e:TypeId)(v x:Value):Option TypeInfo->Option Value->Option Nat->Option XR
 |some i,some z,some n=>bif Nat.beq i.size z.cells.size then CG W e i.size n i.bytes v (fE W i.size n x)else none
 |_,_,_=>none
def oR(P:Program)(W:XW)(v x:Value):Option TypeDesc->Option XR
 |some (.slice e)=>I8 W e v x (P.info? e) (az P e) (pE x)
 |_=>none
def Av(a:Option Addr)(d:Nat):Option Addr:=a.map fun a=>⟨a.block,a.off+d,a.spot⟩
def PW(t:ByteArray):Option Nat->Option Nat->Option Operand->Option XR
 |some l,some h,none=>bif Nat.ble l h&&Nat.ble h t.size then val (.string (t.extract l h))else none
 |_,_,_=>none
def LD(ok:Bool)(a:Option Addr)(len cap:Nat):Option Nat->Option Nat->Option Nat->Option XR
 |some s,some l,some h=>bif ok&&Nat.ble l h&&Nat.ble h len&&(bd cap||Nat.ble len cap)&&(Nat.beq (len) 0||Nat.blt 0 s)then val (.slice (bif !bd cap&&Nat.beq cap l then a else Av a (l*s)) (h-l) (bif bd cap then cap else cap-l))else none
 |_,_,_=>none
def LB(cs:List Value)(len:Nat):Option Nat->Option Nat->Option Nat->Option Operand->Option XR
 |some s,some l,some h,none=>bif Nat.ble l h&&Nat.ble h len then val (FZ ((cs.drop (l*s)).take ((h-l)*s)) (h-l))else none
 |_,_,_,_=>none
def PL(a:Option Addr)(len:Nat):Option Nat->Option Nat->Option Nat->Option Nat->Option XR
 |some s,some l,some h,some m=>bif Nat.ble l h&&Nat.ble h m&&Nat.ble m len&&Nat.ble m 16777216 then val (.slice (bif Nat.beq m l then a else Av a (l*s)) (h-l) (m-l))else none
 |_,_,_,_=>none
def P4(b o n:Nat):Option Nat->Option Nat->Option Nat->Option Operand->Option XR
 |some s,some l,some h,none=>bif Nat.ble l h&&Nat.ble h n&&Nat.ble n 16777216 then val (.slice (some (bif Nat.beq n l then⟨b,o,none⟩else⟨b,o+l*s,none⟩)) (h-l) (n-l))else none
 |_,_,_,_=>none
def ir(P:Program)(fr:XF)(W:XW)(v:Value)(lo hi mx:Option Operand):Option TypeDesc->Option XR
 |some .string=>match v with
  |.string t=>PW t (cR fr 0 lo) (cR fr t.size hi) mx
  |_=>none
 |some (.slice e)=>match v with
  |.slice a len cap=>match mx with
   |none=>LD (kg W cap e a) a len cap (sz P e) (cR fr 0 lo) (cR fr len hi)
   |some m=>bif hi.isSome&&(bd cap||Nat.ble len cap)&&!jL len cap then PL a len (sz P e) (cR fr 0 lo) (cR fr len hi) (cR fr 0 (some m))else none
  |.func (.methodOf len _) cs _=>LB cs.toList len (sz P e) (cR fr 0 lo) (cR fr len hi) mx
  |_=>none
 |some (.array n e)=>match v with
  |.pointer (some ⟨b,o,none⟩)=>P4 b o n (sz P e) (cR fr 0 lo) (cR fr n hi) mx
  |_=>none
 |_=>none
def jD(W:XW):Value->Option (List MapEntry×Nat)
 |.map none=>some ([],0)
 |.map (some r)=>match W.get r with
  |some (.map es c)=>some (es,c)
  |_=>none
 |_=>none
def gD(P:Program)(kt:TypeId)(k:Value)(emp:Bool):Bool:=cy k&&(ay P (Instr.checkKey emp 10000 kt k)).isSome
def gb(P:Program)(kt:TypeId)(k:Value)(es:List MapEntry):Option (Option (Nat×Value)):=bif es.all (fun e=>cy e.key)then ay P (Instr.findKey kt k es)else none
def vy(P:Program)(t:TypeId)(x y:Value):Option Bool:=
 match P.underlying t,x,y with
 |some (.pointer _),.pointer none,.pointer (some _)=>some false
 |some (.pointer _),.pointer (some _),.pointer none=>some false
 |some (.interface _),.nilIface,.iface _ _=>some false
 |some (.interface _),.iface _ _,.nilIface=>some false
 |some (.slice _),.slice none _ _,.slice (some _) l c=>bif jL l c then none else some false
 |some (.slice _),.slice (some _) l c,.slice none _ _=>bif jL l c then none else some false
 |some (.map _ _),.map none,.map (some _)=>some false
 |some (.map _ _),.map (some _),.map none=>some false
 |some (.func _ _ _),.nilFunc,.func (.func _) _ _=>some false
 |some (.func _ _ _),.func (.func _) _ _,.nilFunc=>some false
 |some (.slice _),.slice none _ _,.func (.methodOf l _) _ _=>bif Nat.beq l 0 then none else some false
 |some (.slice _),.func (.methodOf l _) _ _,.slice none _ _=>bif Nat.beq l 0 then none else some false
 |some (.pointer _),.pointer none,.func (.method _) _ _=>some false
 |some (.pointer _),.func (.method _) _ _,.pointer none=>some false
 |_,_,_=>none
def pJ(n:Nat):Option (List UInt8)->Option (List UInt8)
 |some r=>bif Nat.blt n 256 then some (UInt8.ofNat n::r)else none
 |none=>none
def eJ:List Value->Option (List UInt8)
 |[]=>some []
 |v::l=>match v with
  |.int .u8 (.ofNat n)=>pJ n (eJ l)
  |_=>none
def yu:Option (List MapEntry×Nat)->Option XR
 |some (es,_)=>val (goInt es.length)
 |none=>none
def nY(W:XW)(x:Value):Option TypeDesc->Option XR
 |some (.slice _)=>match x with
  |.slice _ n _=>val (goInt n)
  |.func (.methodOf n _) _ _=>val (goInt n)
  |_=>none
 |some (.map _ _)=>yu (jD W x)
 |some .string=>match x with
  |.string s=>val (goInt s.size)
  |_=>none
 |some (.array n _)=>val (goInt n)
 |_=>none
def H5(W:XW)(k:Nat)(src:List Value):Option Addr->Option XR
 |some ⟨b,o,none⟩=>mW (goInt k) (eI W b o src)
 |_=>none
def DZ(W:XW)(k:Nat)(base:Option Addr):Option (List Value)->Option XR
 |some src=>bif Nat.beq k 0 then val (goInt 0)else H5 W k src base
 |none=>none
def Iy(W:XW)(base:Option Addr)(n:Nat)(x:Value):Option Nat->Option Nat->Option XR
 |some s,some m=>DZ W (Nat.min m n) base (fE W s (Nat.min m n) x)
 |_,_=>none
def DO(P:Program)(W:XW)(d x:Value):Option TypeDesc->Option XR
 |some (.slice e)=>match d with
  |.slice base n _=>Iy W base n x (sz P e) (pE x)
  |_=>none
 |_=>none
def WM(W:XW)(r:Nat)(es:List MapEntry)(c:Nat):Option (Option (Nat×Value))->Option XR
 |some (some (i,_))=>some (.mod (.tuple #[]) (W.put r (some (.map (es.eraseIdx i) c))))
 |some none=>val (.tuple #[])
 |none=>none
def ON(P:Program)(W:XW)(r:Nat)(kt:TypeId)(k:Value):Option ah->Option XR
 |some (.map es c)=>bif gD P kt k es.isEmpty then WM W r es c (gb P kt k es)else none
 |_=>none
def HW(P:Program)(W:XW)(m k:Value):Option TypeDesc->Option XR
 |some (.map kt _)=>match m with
  |.map (some r)=>ON P W r kt k (W.get r)
  |_=>none
 |_=>none
def NM(W:XW)(n:Nat):Option Addr->Option Value->Option XR
 |some ⟨b,o,none⟩,some z=>mW (.tuple #[]) (eI W b o (rep z.cells.toList n))
 |_,_=>none
def Je(P:Program)(W:XW)(x:Value):Option TypeDesc->Option XR
 |some (.slice e)=>match x with
  |.slice base n _=>bif Nat.beq n 0 then val (.tuple #[])else NM W n base (az P e)
  |_=>none
 |_=>none
def Gw:Value->Option XR
 |.slice (some a) n c=>bif Nat.beq n 0||Nat.beq c 0 then none else val (.pointer (some a))
 |.slice none _ _=>val (.pointer none)
 |_=>none
def zi(W:XW)(b n:Nat)(c:List Value)(e:TypeId)(fr:Nat×Nat):Option (List UInt8)->Option XR
 |some bs=>some (.mod (.string ⟨bs.toArray⟩) (W.put b (some (.cells c e (0,Nat.max fr.2 n)))))
 |none=>none
def zQ(P:Program)(W:XW)(b n:Nat)(pe:TypeId):Option ah->Option XR
 |some (.cells c e fr)=>bif Nat.ble n c.length&&Nat.beq e pe&&Nat.beq fr.1 0&&Nat.beq (P.cellsOf pe) 1&&Nat.ble n 1099511627776 then zi W b n c e fr (eJ (c.take n))else none
 |_=>none
def wt(P:Program)(W:XW)(p:Value)(n:Value):Option TypeDesc->Option XR
 |some (.pointer pe)=>match p,n with
  |.pointer none,.int _ (.ofNat 0)=>val (.string .empty)
  |.pointer (some ⟨b,0,none⟩),.int _ (.ofNat (n+1))=>zQ P W b (n+1) pe (W.get b)
  |_,_=>none
 |_=>none
def me:Option TypeDesc->Bool
 |some (.int _)=>false
 |some _=>true
 |none=>false
def gB(P:Program):Option TypeId->Option TypeDesc
 |some t=>P.underlying t
 |none=>none
def rV:Option Value->Option XR
 |some v=>some (.val (some v))
 |none=>none
def mt:Option Value->Option XR
 |some v=>bif cy v then some (.val (some v))else none
 |none=>none
def eD(P:Program)(W:XW)(b:Builtin)(ats:Array TypeId)(type:TypeId)(args:List Value):Option XR:=
 match b,args with
 |.len,[x]=>nY W x (gB P ats[0]?)
 |.append,[v,x]=>bif me (gB P ats[1]?)then oR P W v x (gB P ats[0]?)else none
 |.copy,[d,x]=>DO P W d x (gB P ats[0]?)
 |.delete,[m,k]=>HW P W m k (gB P ats[0]?)
 |.clear,[x]=>Je P W x (gB P ats[0]?)
 |.min,l=>bif l.all cy then mt (ay P (Builtin.min_ ats type l.toArray))else none
 |.max,l=>bif l.all cy then mt (ay P (Builtin.max_ ats type l.toArray))else none
 |.unsafeSliceData,[x]=>Gw x
 |.unsafeString,[p,n]=>wt P W p n (gB P ats[0]?)
 |_,_=>none
def fU(old new:Value):Bool:=cy old&&Instr.sameBits 10000 old new
def Cy(e:TypeId):Option Value->Option XR
 |some v=>I6 (.cells v.cells.toList e (0,0))
 |none=>none
def uF(e:TypeId):Option Value->Option XR
 |some z=>I6 (.cells z.cells.toList e (0,0))
 |none=>none
def yj(fr:XF)(a b:Operand):Option Value->Option XR
 |some (.bool t)=>some (.val (ev fr (bif t then a else b)))
 |_=>none
def Ci(P:Program)(t:TypeId):Option (List (Nat×Value))->Option XR
 |some l=>rV (tS P l (az P t) (P.underlying t))
 |none=>none
def CB(e:TypeId)(n s zs:Nat):Option (List Value)->Option XR
 |some cs=>bif Nat.ble (n*s) 16777216&&Nat.beq (n*s) (n*zs)&&Nat.ble n 16777216 then gq (.cells cs e (0,0)) n n else none
 |none=>none
def IJ(e:TypeId)(n:Nat):Option Nat->Option Value->Option (List (Nat×Value))->Option XR
 |some s,some z,some l=>CB e n s z.cells.size (mi (fun i=>some (i*s,s)) (rep z.cells.toList n) l)
 |_,_,_=>none
def zO(P:Program)(fr:XF)(n:Nat)(ps:List (Nat×Operand)):Option TypeDesc->Option XR
 |some (.slice e)=>IJ e n (sz P e) (az P e) (evP fr ps)
 |_=>none
def F5(P:Program)(W:XW)(t:TypeId):Option Value->Option XR
 |some p=>rV (jB P W t p)
 |none=>none
def vq(W:XW):Option Value->Option Value->Option Nat->Option XR
 |some (.pointer (some ⟨n,o,none⟩)),some v,some s=>bif Nat.beq v.cells.size s then mW undef (eI W n o v.cells.toList)else none
 |_,_,_=>none
def C8:Option Value->Option XR
 |some (.pointer (some a))=>val (.pointer (some a))
 |some (.func (.method m) cs cc)=>val (.func (.method m) cs cc)
 |_=>none
def FT:BinOp->Option Bool->Option XR
 |.eql,some r=>val (.bool r)
 |.neq,some r=>val (.bool (!r))
 |_,_=>none
def mU(op:BinOp)(t:TypeId)(x y:Operand)(a b:Value):Sem Value:=do Go.eqGuard op t x y a b;Go.binOp op t a b
def dH(P:Program)(op:BinOp)(t:TypeId)(x y:Operand):Option Value->Option Value->Option XR
 |some a,some b=>bif cy a&&cy b then mt (ay P (mU op t x y a b))else FT op (vy P t a b)
 |_,_=>none
def Ao(P:Program)(op:UnOp):Option Value->Option XR
 |some a=>bif cy a then mt (ay P (Op.unary op a))else none
 |none=>none
def rY(e:TypeId):Option Value->Option TypeDesc->Option Nat->Option XR
 |some (.string t),some (.int .u8),some 1=>gq (.cells (t.data.toList.map fun b=>Value.int .u8 b.toNat) e (1,1)) t.size bf
 |_,_,_=>none
def C7:Option (List UInt8)->Option XR
 |some bs=>val (.string ⟨bs.toArray⟩)
 |none=>none
def ye:Option (List Value)->Option (List UInt8)
 |some l=>eJ l
 |none=>none
def pc(W:XW):Option Value->Option TypeDesc->Option XR
 |some (.slice a n c),some (.int .u8)=>C7 (ye (fE W 1 n (.slice a n c)))
 |_,_=>none
def rF(P:Program)(s d:TypeId):Option Value->Option XR
 |some a=>bif cy a then mt (ay P (Go.convert s d a))else none
 |none=>none
def jp(P:Program)(W:XW)(s d:TypeId)(v:Option Value):Option TypeDesc->Option TypeDesc->Option XR
 |some .string,some (.slice e)=>rY e v (P.underlying e) (sz P e)
 |some (.slice e),some .string=>pc W v (P.underlying e)
 |some _,some _=>rF P s d v
 |_,_=>none
def Dp:Option TypeDesc->Option Value->Option XR
 |some (.array n _),some (.slice (some a) len _)=>bif Nat.ble n len&&Nat.blt 0 n then val (.pointer (some a))else none
 |_,_=>none
def ui(t:TypeId):Option Value->Option TypeDesc->Option XR
 |some _,some (.interface _)=>none
 |some v,some _=>val (.iface t v)
 |_,_=>none
def Ih:Fn->Option (List Value)->Option (List Value)->Option XR
 |.func g,some xs,some cs=>val (.func (.func g) xs.toArray cs.toArray)
 |_,_,_=>none
def M4:Option XR:=some (.new (.map [] 0) fun n=>.map (some n))
def C4:Option (Option Value)->Option TypeDesc->Option XR
 |none,_=>M4
 |some (some (.int _ _)),some (.map _ _)=>M4
 |_,_=>none
def zD(e:TypeId)(l c:Nat):Option TypeInfo->Option Value->Option XR
 |some i,some z=>bif Nat.ble l c&&Nat.ble (i.bytes*c) 1048576&&Nat.ble c 1048576&&Nat.beq i.size z.cells.size then gq (.cells (rep z.cells.toList c) e (0,0)) l c else none
 |_,_=>none
def Aj(P:Program):Option TypeDesc->Option Value->Option Value->Option XR
 |some (.slice e),some (.int .i64 (.ofNat l)),some (.int .i64 (.ofNat c))=>zD e l c (P.info? e) (az P e)
 |_,_,_=>none
def uq(P:Program)(fr:XF)(W:XW)(t:TypeId)(lo hi mx:Option Operand):Option Value->Option XR
 |some v=>ir P fr W v lo hi mx (P.underlying t)
 |none=>none
def I7(n o d:Nat):Option Nat->Option XR
 |some (_+1)=>val (.pointer (some ⟨n,o+d,none⟩))
 |_=>none
def yS(P:Program)(n o:Nat):Option Field->Option XR
 |some fd=>I7 n o fd.offset (sz P fd.type)
 |none=>none
def Nv(cs:List Value)(d:Nat):Option Nat->Option XR
 |some (k+1)=>val (FP ((cs.drop d).take (k+1)))
 |_=>none
def yE(P:Program)(cs:List Value):Option Field->Option XR
 |some fd=>Nv cs fd.offset (sz P fd.type)
 |none=>none
def sR(P:Program)(f:Nat):Option TypeDesc->Option Value->Option XR
 |some (.struct fs),some (.pointer (some ⟨n,o,none⟩))=>yS P n o fs[f]?
 |some (.struct fs),some (.func (.method _) cs _)=>yE P cs.toList fs[f]?
 |_,_=>none
def Hy(P:Program)(cs:List Value):Option Field->Option XR
 |some fd=>rV (gA P fd.type cs fd.offset)
 |none=>none
def Ew(P:Program)(f:Nat):Option TypeDesc->Option Value->Option XR
 |some (.struct fs),some (.agg cs)=>Hy P cs.toList fs[f]?
 |_,_=>none
def m3(b o i n:Nat):Option Nat->Option XR
 |some s=>bif Nat.blt i n then val (.pointer (some ⟨b,o+i*s,none⟩))else none
 |none=>none
def qu(cs:List Value)(i n:Nat):Option Nat->Option XR
 |some s=>bif Nat.blt i n then val (FP ((cs.drop (i*s)).take s))else none
 |none=>none
def kY(P:Program):Option TypeDesc->Option Value->Option Value->Option XR
 |some (.array n e),some (.func (.method _) cs _),some (.int _ (.ofNat i))=>qu cs.toList i n (sz P e)
 |some (.slice e),some (.func (.methodOf n _) cs _),some (.int _ (.ofNat i))=>qu cs.toList i n (sz P e)
 |some (.array n e),some (.pointer (some ⟨b,o,none⟩)),some (.int _ (.ofNat i))=>m3 b o i n (sz P e)
 |some (.slice e),some (.slice (some ⟨b,o,none⟩) n _),some (.int _ (.ofNat i))=>m3 b o i n (sz P e)
 |_,_,_=>none
def CA(P:Program)(e:TypeId)(cs:List Value)(i n:Nat):Option Nat->Option XR
 |some s=>bif Nat.blt i n then rV (gA P e cs (i*s))else none
 |none=>none
def xU:Option UInt8->Option XR
 |some b=>val (.int .u8 b.toNat)
 |none=>none
def wj(P:Program):Option TypeDesc->Option Value->Option Value->Option XR
 |some (.array n e),some (.agg cs),some (.int _ (.ofNat i))=>CA P e cs.toList i n (sz P e)
 |some .string,some (.string s),some (.int _ (.ofNat i))=>xU s.data.toList[i]?
 |_,_,_=>none
def om(ok:Bool)(v:Value)(b:Bool):Value:=bif ok then .tuple #[v,.bool b]else v
def y8(ok:Bool)(z:Value):Option (Option (Nat×Value))->Option XR
 |some (some (_,v))=>val (om ok v true)
 |some none=>val (om ok z false)
 |none=>none
def mY(P:Program)(kt:TypeId)(kv:Value)(ok:Bool):Option (List MapEntry×Nat)->Option Value->Option XR
 |some (es,_),some z=>bif gD P kt kv es.isEmpty then y8 ok z (gb P kt kv es)else none
 |_,_=>none
def zc(P:Program)(W:XW)(ok:Bool):Option TypeDesc->Option Value->Option Value->Option XR
 |some (.map kt e),some mv,some kv=>mY P kt kv ok (jD W mv) (az P e)
 |_,_,_=>none
def wT(W:XW)(r:Nat)(es:List MapEntry)(c i:Nat)(kv v:Value):Option MapEntry->Option XR
 |some en=>bif fU en.key kv then some (.mod undef (W.put r (some (.map (es.set i ⟨kv,v,en.born⟩) c))))else none
 |none=>none
def sj(W:XW)(r:Nat)(es:List MapEntry)(c:Nat)(kv v:Value):Option (Option (Nat×Value))->Option XR
 |some (some (i,_))=>wT W r es c i kv v es[i]?
 |some none=>some (.mod undef (W.put r (some (.map (es++[⟨kv,v,c⟩]) (c+1)))))
 |none=>none
def m5(P:Program)(W:XW)(r:Nat)(kt:TypeId)(kv v:Value):Option ah->Option XR
 |some (.map es c)=>bif gD P kt kv false then sj W r es c kv v (gb P kt kv es)else none
 |_=>none
def wX(P:Program)(W:XW):Option TypeDesc->Option Value->Option Value->Option Value->Option XR
 |some (.map kt _),some (.map (some r)),some kv,some v=>m5 P W r kt kv v (W.get r)
 |_,_,_,_=>none
def M8(W:XW)(r:Nat)(es:List MapEntry)(c i:Nat)(kv v:Value):Option MapEntry->Option XR
 |some en=>bif fU en.key kv then some (.mod (.tuple #[v,goInt en.born]) (W.put r (some (.map (es.set i ⟨kv,en.val,en.born⟩) c))))else none
 |none=>none
def NI(W:XW)(r:Nat)(es:List MapEntry)(c:Nat)(kv z:Value):Option (Option (Nat×Value))->Option XR
 |some (some (i,v))=>M8 W r es c i kv v es[i]?
 |some none=>some (.mod (.tuple #[z,goInt c]) (W.put r (some (.map (es++[⟨kv,z,c⟩]) (c+1)))))
 |none=>none
def M2(P:Program)(W:XW)(r:Nat)(kt:TypeId)(kv:Value):Option ah->Option Value->Option XR
 |some (.map es c),some z=>bif gD P kt kv false then NI W r es c kv z (gb P kt kv es)else none
 |_,_=>none
def CO(P:Program)(W:XW):Option TypeDesc->Option Value->Option Value->Option XR
 |some (.map kt e),some (.map (some r)),some kv=>M2 P W r kt kv (W.get r) (az P e)
 |_,_,_=>none
def TK(W:XW)(r:Nat)(es:List MapEntry)(c i:Nat)(v:Value):Option MapEntry->Option XR
 |some en=>some (.mod undef (W.put r (some (.map (es.set i ⟨en.key,v,en.born⟩) c))))
 |none=>none
def OB(W:XW)(r:Nat)(es:List MapEntry)(c:Nat)(v:Value):Option Nat->Option XR
 |some i=>TK W r es c i v es[i]?
 |none=>none
def NB(W:XW)(r:Nat)(born:Int)(v:Value):Option ah->Option XR
 |some (.map es c)=>OB W r es c v (es.findIdx? (fun e=>(e.born:Int)==born))
 |_=>none
def CL(W:XW):Option Value->Option Value->Option Value->Option XR
 |some (.map (some r)),some (.int _ born),some v=>NB W r born v (W.get r)
 |_,_,_=>none
def z8(m:Nat):Option ah->Option XR
 |some (.map _ c)=>I6 (.iter m c [] c)
 |_=>none
def wv(W:XW):Option TypeDesc->Option Value->Option XR
 |some (.map _ _),some (.map (some m))=>z8 m (W.get m)
 |_,_=>none
def NN(W:XW)(r m since c:Nat)(seen:List Nat):List MapEntry->Option XR
 |[]=>val (.tuple #[.bool false])
 |[e]=>bif Nat.blt e.born since then some (.mod (.tuple #[.bool true,e.key,e.val]) (W.put r (some (.iter m since (seen++[e.born]) c))))else none
 |_=>none
def gC(seen:List Nat)(e:MapEntry):Bool:=!(seen.any fun n=>Nat.beq n e.born)
def M7(W:XW)(r m since last:Nat)(seen:List Nat):Option ah->Option XR
 |some (.map es c)=>bif !seen.isEmpty&&!es.isEmpty&&es.all (fun e=>Nat.ble last e.born)then none else NN W r m since c seen (es.filter (gC seen))
 |_=>none
def OL(W:XW)(r:Nat):Option ah->Option XR
 |some (.iter m since seen last)=>M7 W r m since last seen (W.get m)
 |_=>none
def Dx(W:XW):Bool->Option Value->Option XR
 |false,some (.pointer (some ⟨r,0,none⟩))=>OL W r (W.get r)
 |_,_=>none
def EF:Option MapEntry->Option XR
 |some e=>val (.tuple #[e.key,e.val])
 |none=>none
def yY(stepped:Nat):Option ah->Option Nat->Option XR
 |some (.map es c),some st=>bif Nat.beq c stepped then EF (es.find? (fun e=>Nat.beq e.born st))else none
 |_,_=>none
def yL(W:XW):Option ah->Option XR
 |some (.iter m _ seen stepped)=>yY stepped (W.get m) seen.getLast?
 |_=>none
def we(W:XW):Option Value->Option XR
 |some (.pointer (some ⟨r,0,none⟩))=>yL W (W.get r)
 |_=>none
def Et:Bool->Option Value->Option XR
 |true,some z=>val (.tuple #[z,.bool false])
 |_,_=>none
def yI(P:Program)(t:TypeId)(ok:Bool):Option Value->Option TypeDesc->Option XR
 |some _,some (.interface _)=>none
 |some (.iface u v),some _=>bif Nat.beq u t then val (om ok v true)else Et ok (az P t)
 |_,_=>none
def HQ(i:Nat):Option Value->Option XR
 |some (.tuple vs)=>rV vs.toList[i]?
 |_=>none
def x5:Option Value->Option (List Value)->Option XR
 |some (.func (.func g) a cap),some args=>some (.enter g (a.toList++args++cap.toList))
 |some (.func (.yield l) a cap),some args=>bif a.isEmpty&&cap.isEmpty then some (.round l args)else none
 |_,_=>none
def Dn(P:Program)(W:XW)(b:Builtin)(ats:Array TypeId)(type:TypeId):Option (List Value)->Option XR
 |some args=>eD P W b ats type args
 |none=>none
def tT(P:Program)(fr:XF)(W:XW)(type:TypeId)(args:List Operand)(ats:Array TypeId):Callee->Option XR
 |.builtin b=>Dn P W b ats type (evs fr args)
 |.value f=>x5 (ev fr f) (evs fr args)
 |_=>none
def Di:Option Value->Option (List Value)->Option XR
 |some (.func (.func g) a cap),some args=>some (.defer g (a.toList++args) cap.toList)
 |_,_=>none
def wV(fr:XF)(args:List Operand):Callee->Option XR
 |.value f=>Di (ev fr f) (evs fr args)
 |_=>none
def Eo:Option Value->Option XR
 |some (.iface t v)=>some (.pan (.iface t v))
 |_=>none
def jI(fr:XF):Option Operand->Option (Option Value)
 |none=>none
 |some x=>some (ev fr x)
def cj(P:Program)(fr:XF)(W:XW)(type:TypeId):Op->Option XR
 |.move x=>some (.val (ev fr x))
 |.assign x=>some (.val (ev fr x))
 |.pick c a b=>yj fr a b (ev fr c)
 |.alloc e=>uF e (az P e)
 |.box e x=>Cy e (ev fr x)
 |.build t ps=>Ci P t (evP fr ps.toList)
 |.buildSlice t n ps=>zO P fr n ps.toList (P.underlying t)
 |.load t a=>F5 P W t (ev fr a)
 |.store t a x=>vq W (ev fr a) (ev fr x) (sz P t)
 |.nilCheck x=>C8 (ev fr x)
 |.binOp op t x y _=>dH P op t x y (ev fr x) (ev fr y)
 |.unOp op _ x=>Ao P op (ev fr x)
 |.convert s d x=>jp P W s d (ev fr x) (P.underlying s) (P.underlying d)
 |.sliceToArrayPointer t x=>Dp (P.underlying t) (ev fr x)
 |.makeInterface t x=>ui t (ev fr x) (P.underlying t)
 |.makeFunc f a c=>Ih f (evs fr a.toList) (evs fr c.toList)
 |.makeMap t r=>C4 (jI fr r) (P.underlying t)
 |.makeSlice t l c=>Aj P (P.underlying t) (ev fr l) (ev fr c)
 |.slice t x lo hi mx=>uq P fr W t lo hi mx (ev fr x)
 |.fieldAddr s x f=>sR P f (P.underlying s) (ev fr x)
 |.field t x f=>Ew P f (P.underlying t) (ev fr x)
 |.indexAddr t x i=>kY P (P.underlying t) (ev fr x) (ev fr i)
 |.index t x i=>wj P (P.underlying t) (ev fr x) (ev fr i)
 |.lookup t m k ok=>zc P W ok (P.underlying t) (ev fr m) (ev fr k)
 |.mapUpdate t m k x=>wX P W (P.underlying t) (ev fr m) (ev fr k) (ev fr x)
 |.insert t m k x=>wX P W (P.underlying t) (ev fr m) (ev fr k) (ev fr x)
 |.mapEntry t m k=>CO P W (P.underlying t) (ev fr m) (ev fr k)
 |.entryStore _ m s x=>CL W (ev fr m) (ev fr s) (ev fr x)
 |.range t x=>wv W (P.underlying t) (ev fr x)
 |.next it s=>Dx W s (ev fr it)
 |.entry it=>we W (ev fr it)
 |.typeAssert x _ t ok=>yI P t ok (ev fr x) (P.underlying t)
 |.extract t i=>HQ i (ev fr t)
 |.call c=>tT P fr W type c.args.toList c.argTypes c.callee
 |.defer c=>wV fr c.args.toList c.callee
 |.panic x=>Eo (ev fr x)
 |_=>none
inductive gV where
 |norm
 |exit (id:Nat)
 |ret
 |pan (v:Value)
inductive cq where
 |call (f:FuncId) (args cap:List Value)
 |mark (r:Nat)
structure XS where
 fr:XF
 W:XW
 ds:List cq
inductive aW where
 |ret (v:Value)
 |pan (v:Value)
structure ci where
 call:FuncId->Option (List Value->XW->Option (aW×XW))
 defd:FuncId->Option (List Value->Option Value->XW->Option (Option Value×XW))
def cw(N:Nat)(fr:XF)(d:Option Tmp)(v:Option Value):Option XF:=
 match d with
 |none=>some fr
 |some t=>bif Nat.blt t N then some (fr.set t v)else none
def va(w:Bool):Option Value->Option Bool
 |some (.bool b)=>some (b==w)
 |some _=>some false
 |none=>none
def gQ(ops:Array Oper)(fr:XF)(o:Oper):Option Bool:=
 match o.guard with
 |none=>some true
 |some (j,w)=>match(ops[j]?).bind (·.dst)with
  |some t=>va w (fr.get t)
  |none=>none
def xD:XF->Nat->List Value->XF
 |fr,_,[]=>fr
 |fr,n,v::l=>xD (fr.set n (some v)) (n+1) l
def yK(l:List Value):XF:=xD (PT.full 9) 0 l
def Dg(P:Program)(W:XW)(fr:XF):ResultVar->Option Value
 |.tmp t=>fr.get t
 |.cell a t=>match fr.get a with
  |some p=>jB P W t p
  |none=>none
def rL(P:Program)(W:XW)(fr:XF):List ResultVar->Option (List Value)
 |[]=>some []
 |r::l=>match Dg P W fr r,rL P W fr l with
  |some v,some vs=>some (v::vs)
  |_,_=>none
def uL:List Value->Value
 |[v]=>v
 |l=>.tuple l.toArray
inductive XT where
 |code (N:Nat) (rd:Option Nat) (c:Code) (s:XS)
 |call (f:FuncId) (args:List Value) (W:XW)
inductive XO where
 |code (e:gV) (s:XS)
 |fin (e:aW) (W:XW)
def lM(N:Nat)(fr:XF):List Tmp->List Value->Option XF
 |[],[]=>some fr
 |t::ts,v::vs=>match cw N fr (some t) (some v)with
  |some fr'=>lM N fr' ts vs
  |none=>none
 |_,_=>none
def cU(H:ci):List cq->Option Value->XW->Option (Option Value×XW)
 |[],p,W=>some (p,W)
 |.mark r::ds,p,W=>match W.get r with
  |some (.defd false)=>cU H ds p (W.put r (some (.defd true)))
  |_=>none
 |.call f args cap::ds,p,W=>match H.defd f with
  |some h=>match h (args++cap) p W with
   |some (p',W')=>cU H ds p' W'
   |none=>none
  |none=>none
def xY(W:XW):Option Nat->Option (Nat×List cq×XW)
 |none=>some (W.next,[cq.mark W.next],W.push (.defd false))
 |some l=>match W.get l with
  |some (.loop _ _ _ _ _ _ _ d)=>some (d,[],W)
  |_=>none
def nG:LoopState->Bool
 |.busy=>true
 |_=>false
abbrev XK:=XT->Option XO
def mr(k:XS->Option XO):Option XO->Option XO
 |some (.code .norm s)=>k s
 |r=>r
def mB(k:Bool->Option XO):Option Value->Option XO
 |some (.bool t)=>k t
 |_=>none
def nC(id:Nat):Option XO->Option XO
 |some (.code (.exit i) s)=>bif Nat.beq i id then some (.code .norm s)else some (.code (.exit i) s)
 |r=>r
def BH(s:XS):Option Code->Option XO
 |none=>some (.code .norm s)
 |some .ret=>some (.code .ret s)
 |some (.exit id)=>some (.code (.exit id) s)
 |_=>none
def zf(l:Nat)(fr:XF)(ds:List cq)(W:XW):Option ah->Option XO
 |some (.loop st pend tm N ps asg body d)=>bif nG st then none else BH ⟨fr,W.put l (some (.loop .exhausted pend tm N ps asg body d)),ds⟩ pend
 |_=>none
def Ox(l:Nat)(fr:XF)(ds:List cq):Option XO->Option XO
 |some (.fin (.ret _) W)=>zf l fr ds W (W.get l)
 |_=>none
def OZ(R:XK)(g:FuncId)(a cap:List Value)(N:Nat)(ps:List Tmp)(asg body:Code)(fr:XF)(ds:List cq):Option (Nat×List cq×XW)->Option XO
 |some (d,mk,W)=>Ox W.next fr (mk++ds) (R (.call g (a++[Value.func (.yield W.next) #[] #[]]++cap) (W.push (.loop .ready none fr N ps asg body d))))
 |none=>none
def Wq(R:XK)(N:Nat)(rd:Option Nat)(ps:List Tmp)(asg body:Code)(s:XS):Option Value->Option XO
 |some (.func (.func g) a cap)=>OZ R g a.toList cap.toList N ps asg body s.fr s.ds (xY s.W rd)
 |_=>none
inductive O1 where
 |on (s:XS)
 |out (v:Value) (s:XS)
def iG(W:XW)(ds:List cq):Option XF->Option O1
 |some fr=>some (.on ⟨fr,W,ds⟩)
 |none=>none
def mD(N:Nat)(fr:XF)(d:Option Tmp)(ds:List cq):Option XO->Option O1
 |some (.fin (.ret v) W)=>iG W ds (cw N fr d (some v))
 |some (.fin (.pan v) W)=>some (.out v ⟨fr,W,ds⟩)
 |_=>none
def tR:gV->Option (LoopState×Option Code×Bool)
 |.norm=>some (.ready,none,true)
 |.ret=>some (.done,some .ret,false)
 |.exit id=>some (.done,some (.exit id),false)
 |.pan _=>none
def og(N:Nat)(fr:XF)(d:Option Tmp)(ds:List cq)(lp:Nat)(W:XW):Option (LoopState×Option Code×Bool)->Option ah->Option O1
 |some (st,pd,r),some (.loop _ _ tm N' ps asg body df)=>iG (W.put lp (some (.loop st pd tm N' ps asg body df))) ds (cw N fr d (some (.bool r)))
 |_,_=>none
def oW(N:Nat)(fr:XF)(d:Option Tmp)(ds:List cq)(lp:Nat):Option XO->Option O1
 |some (.code e s)=>og N fr d ds lp s.W (tR e) (s.W.get lp)
 |_=>none
def pM(R:XK)(N:Nat)(fr:XF)(d:Option Tmp)(ds:List cq)(lp:Nat)(N':Nat)(body:Code)(s:XS):Option ah->Option O1
 |some (.loop .ready pend tm N2 ps asg body2 df)=>oW N fr d ds lp (R (.code N' (some lp) body ⟨s.fr,s.W.put lp (some (.loop .busy pend tm N2 ps asg body2 df)),s.ds⟩))
 |_=>none
def pC(R:XK)(N:Nat)(fr:XF)(d:Option Tmp)(ds:List cq)(lp:Nat)(N':Nat)(body:Code):Option XO->Option O1
 |some (.code .norm s)=>pM R N fr d ds lp N' body s (s.W.get lp)
 |_=>none
def pI(R:XK)(N:Nat)(fr:XF)(d:Option Tmp)(ds:List cq)(lp:Nat)(W:XW)(N':Nat)(asg body:Code):Option XF->Option O1
 |some fr1=>pC R N fr d ds lp N' body (R (.code N' (some lp) asg ⟨fr1,W,[]⟩))
 |none=>none
def qg(R:XK)(N:Nat)(fr:XF)(d:Option Tmp)(ds:List cq)(lp:Nat)(args:List Value)(W:XW):Option ah->Option O1
 |some (.loop .ready _ tm N' ps asg body _)=>pI R N fr d ds lp W N' asg body (lM N' tm ps args)
 |_=>none
def Ey(N:Nat)(fr:XF)(d:Option Tmp)(W:XW)(ds:List cq):Option Nat->Option O1
 |none=>iG W ds (cw N fr d (some undef))
 |some _=>none
def ku(R:XK)(N:Nat)(rd:Option Nat)(s:XS)(d:Option Tmp):Option XR->Option O1
 |some (.val v)=>iG s.W s.ds (cw N s.fr d v)
 |some (.new o k)=>iG (s.W.push o) s.ds (cw N s.fr d (some (k s.W.next)))
 |some (.mod v W)=>iG W s.ds (cw N s.fr d (some v))
 |some (.pan v)=>some (.out v s)
 |some (.defer f args cap)=>Ey N s.fr d s.W (.call f args cap::s.ds) rd
 |some (.enter f args)=>mD N s.fr d s.ds (R (.call f args s.W))
 |some (.round lp args)=>qg R N s.fr d s.ds lp args s.W (s.W.get lp)
 |none=>none
def oC(P:Program)(R:XK)(N:Nat)(rd:Option Nat)(s:XS)(o:Oper):Option Bool->Option O1
 |some true=>ku R N rd s o.dst (cj P s.fr s.W o.type o.op)
 |some false=>iG s.W s.ds (cw N s.fr o.dst (some undef))
 |none=>none
def iu(P:Program)(R:XK)(N:Nat)(rd:Option Nat)(all:Array Oper)(s:XS)(o:Oper):Option O1:=oC P R N rd s o (gQ all s.fr o)
def ze(k:XS->Option XO):Option O1->Option XO
 |some (.on s)=>k s
 |some (.out v s)=>some (.code (.pan v) s)
 |none=>none
def fR(P:Program)(R:XK)(N:Nat)(rd:Option Nat)(all:Array Oper):List Oper->XS->Option XO
 |[],s=>some (.code .norm s)
 |o::l,s=>ze (fR P R N rd all l) (iu P R N rd all s o)
structure bp where
 o:Oper
 s:XS
 s':XS
def cW(o:Oper)(s s':XS):Option (List bp×XS)->Option (List bp×XS)
 |some (l,t)=>some (⟨o,s,s'⟩::l,t)
 |none=>none
def fV(k:XS->Option (List bp×XS))(o:Oper)(s:XS):Option O1->Option (List bp×XS)
 |some (.on s')=>cW o s s' (k s')
 |_=>none
def aY(P:Program)(R:XK)(N:Nat)(rd:Option Nat)(all:Array Oper):List Oper->XS->Option (List bp×XS)
 |[],s=>some ([],s)
 |o::l,s=>fV (aY P R N rd all l) o s (iu P R N rd all s o)
def fa(o:Oper):List Nat:=(o.after.toList.filter (fun e=>Region.binds .any e)).map (·.on)
def qV(acc:List Nat):List Nat->Nat
 |[]=>0
 |e::l=>(2^e ||| acc.getD e 0) ||| qV acc l
def tI:List Oper->List Nat->List Nat
 |[],acc=>acc
 |o::l,acc=>tI l (acc++[qV acc (fa o)])
def bG(ops:Array Oper):List Nat:=tI ops.toList []
def iY(r:bp):List Nat:=(r.s'.W.log.take (r.s'.W.nlog-r.s.W.nlog)).filter fun n=>Nat.blt n r.s.W.next
def fe(ms:List Nat)(i j:Nat):Bool:=(ms.getD j 0).testBit i||(ms.getD i 0).testBit j
def dg(ms:List Nat)(i:Nat):List bp->Nat->List Nat
 |[],_=>[]
 |r::l,j=>bif Nat.beq i j||fe ms i j then dg ms i l (j+1)else iY r++dg ms i l (j+1)
def dJ(W:XW):List Nat->XW
 |[]=>W
 |n::l=>dJ (W.put n none) l
def Zt:Callee->Bool
 |.builtin .len=>true
 |_=>false
def DA:Op->Bool
 |.move _=>true
 |.assign _=>true
 |.pick _ _ _=>true
 |.alloc _=>true
 |.box _ _=>true
 |.build _ _=>true
 |.buildSlice _ _ _=>true
 |.load _ _=>true
 |.nilCheck _=>true
 |.binOp _ _ _ _ _=>true
 |.unOp _ _ _=>true
 |.convert _ _ _=>true
 |.sliceToArrayPointer _ _=>true
 |.makeInterface _ _=>true
 |.makeFunc _ _ _=>true
 |.makeMap _ _=>true
 |.makeSlice _ _ _=>true
 |.slice _ _ _ _ _=>true
 |.fieldAddr _ _ _=>true
 |.field _ _ _=>true
 |.indexAddr _ _ _=>true
 |.index _ _ _=>true
 |.lookup _ _ _ _=>true
 |.typeAssert _ _ _ _=>true
 |.extract _ _=>true
 |.call c=>Zt c.callee
 |_=>false
def fT:Option XR->Bool
 |some (.val _)=>true
 |some (.new _ _)=>true
 |_=>false
def jr(ms:List Nat)(i:Nat):List bp->Nat->List (Nat×bp)
 |[],_=>[]
 |r::l,j=>bif Nat.beq i j||fe ms i j||(iY r).isEmpty then jr ms i l (j+1)else(j,r)::jr ms i l (j+1)
def za(W V:XW):List Nat->XW
 |[]=>W
 |n::l=>za (W.put n (V.get n)) V l
def zM:Option XR->Option XR->Bool
 |some (.val (some (.int k a))),some (.val (some (.int k' b)))=>decide (k=k')&&decide (a=b)
 |_,_=>false
def UJ(q r:bp):List Nat:=r.s.W.log.take (r.s.W.nlog-q.s'.W.nlog)
def PJ(P:Program)(r:bp)(i:Nat):List (Nat×bp)->Bool
 |[(j,q)]=>zM (cj P r.s.fr r.s.W r.o.type r.o.op) (cj P r.s.fr (za r.s.W (bif Nat.blt i j then q.s'.W else q.s.W) (iY q)) r.o.type r.o.op)&&(Nat.blt i j||(UJ q r).all fun n=>(iY q).all fun m=>!(Nat.beq n m))
 |_=>false
def nc(P:Program)(r:bp)(i:Nat)(u:List Nat)(us:List (Nat×bp)):Option Bool->Bool
 |some true=>u.isEmpty||(u.all fun n=>Nat.blt n r.s.W.next||Nat.ble r.s'.W.next n)&&(DA r.o.op&&fT (cj P r.s.fr (dJ r.s.W u) r.o.type r.o.op)||PJ P r i us)
 |some false=>true
 |none=>false
def jY(P:Program)(all:Array Oper)(ms:List Nat)(rs:List bp):List bp->Nat->Bool
 |[],_=>true
 |r::l,i=>nc P r i (dg ms i rs 0) (jr ms i rs 0) (gQ all r.s.fr r.o)&&jY P all ms rs l (i+1)
def iR:List bp->Nat->Bool
 |[],_=>true
 |r::l,n=>Nat.beq r.s'.ds.length n&&iR l n
def EM(rs:List bp):Bool:=rs.all fun r=>(iY r).isEmpty
def jG(P:Program)(all:Array Oper)(n:Nat)(rs:List bp):Bool:=
 Region.lexB .any all&&iR rs n&&(EM rs||jY P all (bG all) rs rs 0)
def BK(P:Program)(all:Array Oper)(n:Nat):Option (List bp×XS)->Option XO
 |some (rs,s)=>bif jG P all n rs then some (.code .norm s)else none
 |none=>none
def cD(P:Program)(R:XK)(N:Nat)(rd:Option Nat)(s:XS):Code->Option XO
 |.skip=>some (.code .norm s)
 |.ret=>some (.code .ret s)
 |.exit id=>some (.code (.exit id) s)
 |.seq a b=>mr (fun s=>R (.code N rd b s)) (R (.code N rd a s))
 |.cond c a b=>mB (fun t=>R (.code N rd (bif t then a else b) s)) (ev s.fr c)
 |.block id b=>nC id (R (.code N rd b s))
 |.loop b=>mr (fun s=>R (.code N rd (.loop b) s)) (R (.code N rd b s))
 |.region _ ops false=>fR P R N rd ops ops.toList s
 |.region _ ops true=>BK P ops s.ds.length (aY P R N rd ops ops.toList s)
 |.rangeFunc f ps asg body=>Wq R N rd ps.toList asg body s (ev s.fr f)
 |_=>none
def oH:gV->Option (Option Value)
 |.norm=>some none
 |.ret=>some none
 |.pan v=>some (some v)
 |.exit _=>none
def wI(W:XW):Option (List Value)->Option XO
 |some vs=>some (.fin (.ret (uL vs)) W)
 |none=>none
def pK(P:Program)(fn:Func)(fr:XF):Option (Option Value×XW)->Option XO
 |some (some v,W)=>some (.fin (.pan v) W)
 |some (none,W)=>wI W (rL P W fr fn.results.toList)
 |none=>none
def Nl(P:Program)(H:ci)(fn:Func)(s:XS):Option (Option Value)->Option XO
 |some p=>pK P fn s.fr (cU H s.ds p s.W)
 |none=>none
def BF(P:Program)(H:ci)(fn:Func):Option XO->Option XO
 |some (.code e s)=>Nl P H fn s (oH e)
 |_=>none
def JD(P:Program)(H:ci)(R:XK)(fn:Func)(args:List Value)(W:XW):Option Code->Option XO
 |some c=>bif Nat.ble args.length fn.ntmps then BF P H fn (R (.code fn.ntmps none c ⟨yK args,W,[]⟩))else none
 |none=>none
def fh(fn:Func):Bool:=!(fn.name== "runtime.NumGoroutine")
def OV(P:Program)(H:ci)(R:XK)(args:List Value)(W:XW):Option Func->Option XO
 |some fn=>bif fh fn then JD P H R fn args W fn.body else none
 |none=>none
def xZ:Option (aW×XW)->Option XO
 |some (e,W)=>some (.fin e W)
 |none=>none
def tq(P:Program)(H:ci)(R:XK)(f:FuncId)(args:List Value)(W:XW):Option (List Value->XW->Option (aW×XW))->Option XO
 |some h=>xZ (h args W)
 |none=>OV P H R args W P.funcs[f]?
def im(P:Program)(H:ci)(R:XK):XT->Option XO
 |.code N rd c s=>cD P R N rd s c
 |.call f args W=>tq P H R f args W (H.call f)
def bc(P:Program)(H:ci):Nat->XT->Option XO
 |0=>fun _=>none
 |n+1=>im P H (bc P H n)
structure RI where
 b:Nat
 s:Nat
 z:Nat
 k:Nat
 r:Nat
structure Ren where
 nm:Nat->Option RI
 fz:Nat->Option Obj
instance:CoeFun Ren (fun _=>Nat->Option RI):=⟨Ren.nm⟩
structure Ren.le(ρ ρ':Ren):Prop where
 nm:∀n i,ρ n=some i->ρ' n=some i
 fz:∀b o,ρ.fz b=some o->ρ'.fz b=some o
instance {ρ ρ':Ren}:CoeFun (Ren.le ρ ρ') (fun _=>∀n i,ρ n=some i->ρ' n=some i):=⟨Ren.le.nm⟩
theorem Ren.le.refl(ρ:Ren):ρ.le ρ:=⟨fun _ _ h=>h,fun _ _ h=>h⟩
theorem Ren.le.trans{a b c:Ren}(h:a.le b)(k:b.le c):a.le c:=⟨fun n i e=>k n i (h n i e),fun n i e=>k.fz n i (h.fz n i e)⟩
mutual
inductive VR(ρ:Ren):Value->Value->Prop
 |flat (k:Nat) (v:Value) (h:aX k v=true):VR ρ v v
 |ptr (n o:Nat) (i:RI) (h:ρ n=some i):VR ρ (.pointer (some ⟨n,o,none⟩)) (.pointer (some ⟨i.b,o+i.s,none⟩))
 |slice (n o len cap:Nat) (i:RI) (h:ρ n=some i) (hc:bd cap=false):VR ρ (.slice (some ⟨n,o,none⟩) len cap) (.slice (some ⟨i.b,o+i.s,none⟩) len cap)
 |sliceO (n o len cap cap':Nat) (i:RI) (h:ρ n=some i) (hc:bd cap=true) (hl:len<=cap') (hr:i.r<=o+cap'*i.k) (hz:o+i.s+cap'*i.k<=i.z) :
  VR ρ (.slice (some ⟨n,o,none⟩) len cap) (.slice (some ⟨i.b,o+i.s,none⟩) len cap')
 |sliceE (n o cap:Nat) (a:Addr) (i:RI) (h:ρ n=some i) (hc:bd cap=true) (hr:i.r<=o):VR ρ (.slice (some ⟨n,o,none⟩) 0 cap) (.slice (some a) 0 0)
 |sliceN (n o:Nat):VR ρ (.slice (some ⟨n,o,none⟩) 0 aq) (.slice none 0 0)
 |sliceZ (n o:Nat) (a:Addr) (i:RI) (h:ρ n=some i):VR ρ (.slice (some ⟨n,o,none⟩) 0 0) (.slice (some a) 0 0)
 |map (n:Nat) (i:RI) (h:ρ n=some i):VR ρ (.map (some n)) (.map (some i.b))
 |func (f:FuncId) (xs cs xs' cs':List Value) (h1:aU ρ xs xs') (h2:aU ρ cs cs'):VR ρ (.func (.func f) xs.toArray cs.toArray) (.func (.func f) xs'.toArray cs'.toArray)
 |yield (n:Nat) (i:RI) (h:ρ n=some i):VR ρ (.func (.yield n) #[] #[]) (.func (.yield i.b) #[] #[])
 |iface (t:TypeId) (v v':Value) (h:VR ρ v v'):VR ρ (.iface t v) (.iface t v')
 |agg (cs cs':List Value) (h:aU ρ cs cs'):VR ρ (.agg cs.toArray) (.agg cs'.toArray)
 |tuple (cs cs':List Value) (h:aU ρ cs cs'):VR ρ (.tuple cs.toArray) (.tuple cs'.toArray)
 |frz (cs cs':List Value) (len b off cap:Nat) (c':Array Value) (e:TypeId) (fr:Nat×Nat) (hB:ρ.fz b=some (.cells c' e fr)) (hl:len<=cap) (hc:(c'.toList.drop off).take cs.length=cs') (h:aU ρ cs cs'):VR ρ (FZ cs len) (.slice (some ⟨b,off,none⟩) len cap)
 |frzE (a:Option Addr) (cap:Nat):VR ρ (FZ [] 0) (.slice a 0 cap)
 |frp (cs cs':List Value) (b off:Nat) (c':Array Value) (e:TypeId) (fr:Nat×Nat) (hB:ρ.fz b=some (.cells c' e fr)) (hc:(c'.toList.drop off).take cs.length=cs') (h:aU ρ cs cs'):VR ρ (FP cs) (.pointer (some ⟨b,off,none⟩))
inductive aU(ρ:Ren):List Value->List Value->Prop
 |nil:aU ρ [] []
 |cons (v v':Value) (l l':List Value) (h:VR ρ v v') (hs:aU ρ l l'):aU ρ (v::l) (v'::l')
end
mutual
theorem VR.mono{ρ ρ':Ren}(hr:ρ.le ρ'):∀{v x:Value},VR ρ v x->VR ρ' v x
 |_,_,.flat k v h=>.flat k v h
 |_,_,.ptr n o i h=>.ptr n o i (hr _ _ h)
 |_,_,.slice n o l c i h hc=>.slice n o l c i (hr _ _ h) hc
 |_,_,.sliceO n o l c c' i h hc hl h1 h2=>.sliceO n o l c c' i (hr _ _ h) hc hl h1 h2
 |_,_,.sliceE n o c a i h hc h1=>.sliceE n o c a i (hr _ _ h) hc h1
 |_,_,.sliceN n o=>.sliceN n o
 |_,_,.sliceZ n o a i h=>.sliceZ n o a i (hr _ _ h)
 |_,_,.map n i h=>.map n i (hr _ _ h)
 |_,_,.func f xs cs xs' cs' h1 h2=>.func f xs cs xs' cs' (aU.mono hr h1) (aU.mono hr h2)
 |_,_,.yield n i h=>.yield n i (hr _ _ h)
 |_,_,.iface t v v' h=>.iface t v v' (VR.mono hr h)
 |_,_,.agg cs cs' h=>.agg cs cs' (aU.mono hr h)
 |_,_,.tuple cs cs' h=>.tuple cs cs' (aU.mono hr h)
 |_,_,.frz cs cs' len b off cap c' e fr hB hl hc h=>.frz cs cs' len b off cap c' e fr (hr.fz _ _ hB) hl hc (aU.mono hr h)
 |_,_,.frzE a cap=>.frzE a cap
 |_,_,.frp cs cs' b off c' e fr hB hc h=>.frp cs cs' b off c' e fr (hr.fz _ _ hB) hc (aU.mono hr h)
theorem aU.mono{ρ ρ':Ren}(hr:ρ.le ρ'):∀{v x:List Value},aU ρ v x->aU ρ' v x
 |_,_,.nil=>.nil
 |_,_,.cons v v' l l' h hs=>.cons v v' l l' (VR.mono hr h) (aU.mono hr hs)
end
theorem aU.length{ρ:Ren}:∀{v x:List Value},aU ρ v x->x.length=v.length
 |_,_,.nil=>rfl
 |_,_,.cons v v' l l' h hs=>by simp[hs.length]
theorem aU.get{ρ:Ren}:∀{v x:List Value},aU ρ v x->∀(j:Nat) (u:Value),v[j]?=some u->∃u',x[j]?=some u'/\VR ρ u u'
 |_,_,.nil,j,u,h=>by simp at h
 |_,_,.cons v v' l l' h hs,0,u,e=>by simp at e;subst e;exact⟨v',rfl,h⟩
 |_,_,.cons v v' l l' h hs,j+1,u,e=>by simpa using hs.get j u (by simpa using e)
theorem aU.append{ρ:Ren}:∀{v x u y:List Value},aU ρ v x->aU ρ u y->aU ρ (v++u) (x++y)
 |_,_,_,_,.nil,k=>k
 |_,_,_,_,.cons v v' l l' h hs,k=>.cons _ _ _ _ h (hs.append k)
theorem aU.drop{ρ:Ren}:∀{v x:List Value},aU ρ v x->∀n,aU ρ (v.drop n) (x.drop n)
 |_,_,h,0=>h
 |_,_,.nil,n+1=>.nil
 |_,_,.cons v v' l l' h hs,n+1=>hs.drop n
theorem aU.take{ρ:Ren}:∀{v x:List Value},aU ρ v x->∀n,aU ρ (v.take n) (x.take n)
 |_,_,h,0=>.nil
 |_,_,.nil,n+1=>.nil
 |_,_,.cons v v' l l' h hs,n+1=>.cons _ _ _ _ h (hs.take n)
theorem aU.of_get{ρ:Ren}:∀{v x:List Value},x.length=v.length->(∀(j:Nat) (u:Value),v[j]?=some u->∃u',x[j]?=some u'/\VR ρ u u')->aU ρ v x
 |[],[],_,_=>.nil
 |[],_::_,h,_=>by simp at h
 |_::_,[],h,_=>by simp at h
 |v::l,x::m,h,k=>by
  obtain⟨u',e,r⟩:=k 0 v rfl;simp at e;subst e;exact .cons _ _ _ _ r (aU.of_get (by simpa using h) fun j u hu=>by simpa using k (j+1) u (by simpa using hu))
theorem rN{n:Nat}{l:List Value}{ρ:Ren}(h:l.all (aX n)=true):aU ρ l l:=by
 induction l with
 |nil=>exact .nil
 |cons v l ih=>simp at h;exact .cons _ _ _ _ (.flat n v h.1) (ih (by simpa using h.2))
mutual
theorem VR.of_flat{ρ:Ren}:∀{v x:Value},VR ρ v x->∀k,aX k v=true->x=v
 |_,_,.flat _ v _,_,_=>rfl
 |_,_,.ptr n o i h,k,e=>by cases k<;>simp[aX]at e
 |_,_,.slice n o l c i h hc,k,e=>by cases k<;>simp[aX]at e
 |_,_,.sliceO n o l c c' i h hc hl h1 h2,k,e=>by cases k<;>simp[aX]at e
 |_,_,.sliceE n o c a i h hc h1,k,e=>by cases k<;>simp[aX]at e
 |_,_,.sliceN n o,k,e=>by cases k<;>simp[aX]at e
 |_,_,.sliceZ n o a i h,k,e=>by cases k<;>simp[aX]at e
 |_,_,.map n i h,k,e=>by cases k<;>simp[aX]at e
 |_,_,.func f xs cs xs' cs' h1 h2,k,e=>by
  cases k with
  |zero=>simp[aX]at e
  |succ k=>
   simp[aX]at e;obtain⟨rfl,rfl⟩:=e;cases h1;cases h2;rfl
 |_,_,.yield n i h,k,e=>by cases k<;>simp[aX]at e
 |_,_,.iface t v v' h,k,e=>by
  cases k with
  |zero=>simp[aX]at e
  |succ k=>rw[VR.of_flat h k (by simpa[aX]using e)]
 |_,_,.agg cs cs' h,k,e=>by
  cases k with
  |zero=>simp[aX]at e
  |succ k=>rw[aU.of_flat h k (by simpa[aX]using e)]
 |_,_,.tuple cs cs' h,k,e=>by
  cases k with
  |zero=>simp[aX]at e
  |succ k=>rw[aU.of_flat h k (by simpa[aX]using e)]
 |_,_,.frz cs cs' len b off cap c' e2 fr hB hl hc h,k,e=>by cases k<;>simp[FZ,aX]at e
 |_,_,.frzE a cap,k,e=>by cases k<;>simp[FZ,aX]at e
 |_,_,.frp cs cs' b off c' e2 fr hB hc h,k,e=>by cases k<;>simp[FP,aX]at e
theorem aU.of_flat{ρ:Ren}:∀{v x:List Value},aU ρ v x->∀k,(∀u∈v,aX k u=true)->x=v
 |_,_,.nil,_,_=>rfl
 |_,_,.cons v v' l l' h hs,k,e=>by rw[VR.of_flat h k (e v (by simp)),aU.of_flat hs k (fun u hu=>e u (by simp[hu]))]
end
theorem VR.flatEq{ρ:Ren}{v x:Value}(h:VR ρ v x)(e:cy v=true):x=v:=h.of_flat 8 e
theorem VR.int{ρ:Ren}{k:IntKind}{n:Int}{x:Value}(h:VR ρ (.int k n) x):x=.int k n:=h.of_flat 1 rfl
theorem VR.bool{ρ:Ren}{b:Bool}{x:Value}(h:VR ρ (.bool b) x):x=.bool b:=h.of_flat 1 rfl
theorem VR.str{ρ:Ren}{b:ByteArray}{x:Value}(h:VR ρ (.string b) x):x=.string b:=h.of_flat 1 rfl
theorem VR.ptrInv{ρ:Ren}{n o:Nat}{x:Value}(h:VR ρ (.pointer (some ⟨n,o,none⟩)) x):∃i,ρ n=some i/\x=.pointer (some ⟨i.b,o+i.s,none⟩):=by
 cases h with
 |flat k v h=>cases k<;>simp[aX]at h
 |ptr n o i h=>exact⟨i,h,rfl⟩
theorem VR.ptrSome{ρ:Ren}{a:Addr}{x:Value}(h:VR ρ (.pointer (some a)) x):∃n o i,a=⟨n,o,none⟩/\ρ n=some i/\x=.pointer (some ⟨i.b,o+i.s,none⟩):=by
 cases h with
 |flat k v h=>cases k<;>simp[aX]at h
 |ptr n o i h=>exact⟨n,o,i,rfl,h,rfl⟩
theorem VR.mapInv{ρ:Ren}{n:Nat}{x:Value}(h:VR ρ (.map (some n)) x):∃i,ρ n=some i/\x=.map (some i.b):=by
 cases h with
 |flat k v h=>cases k<;>simp[aX]at h
 |map n i h=>exact⟨i,h,rfl⟩
theorem VR.ifaceInv{ρ:Ren}{t:TypeId}{v x:Value}(h:VR ρ (.iface t v) x):∃v',x=.iface t v'/\VR ρ v v':=by
 cases h with
 |flat k v h=>
  cases k with
  |zero=>simp[aX]at h
  |succ k=>exact⟨_,rfl,.flat k _ (by simpa[aX]using h)⟩
 |iface t v v' h=>exact⟨v',rfl,h⟩
theorem VR.aggInv{ρ:Ren}{cs:Array Value}{x:Value}(h:VR ρ (.agg cs) x):∃cs':List Value,x=.agg cs'.toArray/\aU ρ cs.toList cs':=by
 cases h with
 |flat k v h=>
  cases k with
  |zero=>simp[aX]at h
  |succ k=>exact⟨cs.toList,by simp,rN (n:=k) (by simpa only[aX]using h)⟩
 |agg cs cs' h=>exact⟨cs',rfl,by simpa using h⟩
theorem VR.tupleInv{ρ:Ren}{cs:Array Value}{x:Value}(h:VR ρ (.tuple cs) x):∃cs':List Value,x=.tuple cs'.toArray/\aU ρ cs.toList cs':=by
 cases h with
 |flat k v h=>
  cases k with
  |zero=>simp[aX]at h
  |succ k=>exact⟨cs.toList,by simp,rN (n:=k) (by simpa only[aX]using h)⟩
 |tuple cs cs' h=>exact⟨cs',rfl,by simpa using h⟩
theorem VR.funcInv{ρ:Ren}{f:FuncId}{xs cs:Array Value}{x:Value}(h:VR ρ (.func (.func f) xs cs) x):∃xs' cs':List Value,x=.func (.func f) xs'.toArray cs'.toArray/\aU ρ xs.toList xs'/\aU ρ cs.toList cs':=by
 cases h with
 |flat k v h=>
  cases k with
  |zero=>simp[aX]at h
  |succ k=>
   simp[aX]at h;obtain⟨rfl,rfl⟩:=h;exact⟨[],[],rfl,.nil,.nil⟩
 |func f xs cs xs' cs' h1 h2=>exact⟨xs',cs',rfl,by simpa using h1,by simpa using h2⟩
theorem VR.yieldInv{ρ:Ren}{n:Nat}{xs cs:Array Value}{x:Value}(h:VR ρ (.func (.yield n) xs cs) x):∃i,ρ n=some i/\x=.func (.yield i.b) #[] #[]:=by
 cases h with
 |flat k v h=>cases k<;>simp[aX]at h
 |yield n i h=>exact⟨i,h,rfl⟩
theorem VR.fzInv{ρ:Ren}{n:Nat}{nm:String}{cs cc:Array Value}{x:Value}(h:VR ρ (.func (.methodOf n nm) cs cc) x):nm= "" /\ cc=#[] /\
 ((∃b off cap c' e fr,ρ.fz b=some (.cells c' e fr)/\n<=cap/\x=.slice (some ⟨b,off,none⟩) n cap/\aU ρ cs.toList ((c'.toList.drop off).take cs.toList.length))\/(cs=#[]/\n=0/\∃a cap,x=.slice a 0 cap)):=by
 generalize hv:Value.func (.methodOf n nm) cs cc=v at h;cases h with
 |flat k v h=>subst hv;cases k<;>simp[aX]at h
 |frz cs cs' len b off cap c' e fr hB hl hc h=>
  unfold FZ at hv;cases hv;subst hc;exact⟨rfl,rfl,.inl ⟨b,off,cap,c',e,fr,hB,hl,rfl,by simpa using h⟩⟩
 |frzE a cap=>
  unfold FZ at hv;cases hv;exact⟨rfl,rfl,.inr ⟨rfl,rfl,a,cap,rfl⟩⟩
 |frp=>unfold FP at hv;cases hv
 |_=>cases hv
theorem VR.fpInv{ρ:Ren}{nm:String}{cs cc:Array Value}{x:Value}(h:VR ρ (.func (.method nm) cs cc) x):nm= "" /\ cc=#[] /\
 ∃b off c' e fr,ρ.fz b=some (.cells c' e fr)/\x=.pointer (some ⟨b,off,none⟩)/\aU ρ cs.toList ((c'.toList.drop off).take cs.toList.length):=by
 generalize hv:Value.func (.method nm) cs cc=v at h;cases h with
 |flat k v h=>subst hv;cases k<;>simp[aX]at h
 |frp cs cs' b off c' e fr hB hc h=>
  unfold FP at hv;cases hv;subst hc;exact⟨rfl,rfl,b,off,c',e,fr,hB,rfl,by simpa using h⟩
 |frz=>unfold FZ at hv;cases hv
 |frzE=>unfold FZ at hv;cases hv
 |_=>cases hv
theorem VR.sliceInv{ρ:Ren}{n o len cap:Nat}{x:Value}(h:VR ρ (.slice (some ⟨n,o,none⟩) len cap) x)(hm:jL len cap=false):∃i,ρ n=some i /\
 ((bd cap=false/\x=.slice (some ⟨i.b,o+i.s,none⟩) len cap) \/
  (bd cap=true/\∃cap',x=.slice (some ⟨i.b,o+i.s,none⟩) len cap'/\len<=cap'/\i.r<=o+cap'*i.k/\o+i.s+cap'*i.k<=i.z) \/
  (bd cap=true/\len=0/\i.r<=o/\∃a,x=.slice (some a) 0 0) \/
  (cap=0/\len=0/\∃a,x=.slice (some a) 0 0)):=by
 cases h with
 |flat k v h=>cases k<;>simp[aX]at h
 |slice n o len cap i h hc=>exact⟨i,h,.inl ⟨hc,rfl⟩⟩
 |sliceO n o len cap cap' i h hc hl hr hz=>exact⟨i,h,.inr (.inl ⟨hc,cap',rfl,hl,hr,hz⟩)⟩
 |sliceE n o cap a i h hc hr=>exact⟨i,h,.inr (.inr (.inl ⟨hc,rfl,hr,a,rfl⟩))⟩
 |sliceN=>cases hm
 |sliceZ n o a i h=>exact⟨i,h,.inr (.inr (.inr ⟨rfl,rfl,a,rfl⟩))⟩
theorem kj{len cap:Nat}(h:len≠0):jL len cap=false:=by
 cases len with
 |zero=>exact absurd rfl h
 |succ n=>rfl
theorem vP:bd aq=true:=rfl
theorem VR.sliceOr{ρ:Ren}{n o len cap:Nat}{x:Value}(h:VR ρ (.slice (some ⟨n,o,none⟩) len cap) x):(len=0/\cap=aq/\x=.slice none 0 0)\/∃i,ρ n=some i /\
 ((bd cap=false/\x=.slice (some ⟨i.b,o+i.s,none⟩) len cap) \/
  (bd cap=true/\∃cap',x=.slice (some ⟨i.b,o+i.s,none⟩) len cap'/\len<=cap'/\i.r<=o+cap'*i.k/\o+i.s+cap'*i.k<=i.z) \/
  (bd cap=true/\len=0/\i.r<=o/\∃a,x=.slice (some a) 0 0) \/
  (cap=0/\len=0/\∃a,x=.slice (some a) 0 0)):=by
 cases h with
 |flat k v h=>cases k<;>simp[aX]at h
 |slice n o len cap i h hc=>exact .inr ⟨i,h,.inl ⟨hc,rfl⟩⟩
 |sliceO n o len cap cap' i h hc hl hr hz=>exact .inr ⟨i,h,.inr (.inl ⟨hc,cap',rfl,hl,hr,hz⟩)⟩
 |sliceE n o cap a i h hc hr=>exact .inr ⟨i,h,.inr (.inr (.inl ⟨hc,rfl,hr,a,rfl⟩))⟩
 |sliceN=>exact .inl ⟨rfl,rfl,rfl⟩
 |sliceZ n o a i h=>exact .inr ⟨i,h,.inr (.inr (.inr ⟨rfl,rfl,a,rfl⟩))⟩
theorem VR.sliceAddr{ρ:Ren}{a:Addr}{len cap:Nat}{x:Value}(h:VR ρ (.slice (some a) len cap) x):∃n o,a=⟨n,o,none⟩:=by
 cases h with
 |flat k v h=>cases k<;>simp[aX]at h
 |slice n o len cap i h hc=>exact⟨n,o,rfl⟩
 |sliceO n o len cap cap' i h hc hl hr hz=>exact⟨n,o,rfl⟩
 |sliceE n o cap a i h hc hr=>exact⟨n,o,rfl⟩
 |sliceN n o=>exact⟨n,o,rfl⟩
 |sliceZ n o a i h=>exact⟨n,o,rfl⟩
theorem VR.sliceLen{ρ:Ren}{a:Option Addr}{len cap:Nat}{x:Value}(h:VR ρ (.slice a len cap) x):∃a' cap',x=.slice a' len cap':=by
 cases a with
 |none=>exact⟨none,cap,h.of_flat 1 rfl⟩
 |some a=>
  obtain⟨n,o,rfl⟩:=h.sliceAddr;obtain⟨rfl,_,h⟩|⟨i,_,h|h|h|h⟩:=h.sliceOr
  ·exact⟨_,_,h⟩
  ·exact⟨_,_,h.2⟩
  ·obtain⟨_,c,e,_⟩:=h;exact⟨_,_,e⟩
  ·obtain⟨_,rfl,_,a,e⟩:=h;exact⟨_,_,e⟩
  obtain⟨_,rfl,a,e⟩:=h;exact⟨_,_,e⟩
theorem VR.one{ρ:Ren}{v x:Value}(h:VR ρ v x)(ho:dr v=true):x.oneCell'=true:=by
 cases h with
 |flat k v h=>cases v<;>first|rfl|(simp[dr]at ho)
 |agg=>simp[dr]at ho
 |tuple=>simp[dr]at ho
 |_=>rfl
theorem aU.one{ρ:Ren}:∀{v x:List Value},aU ρ v x->v.all dr=true->∀u∈x,u.oneCell'=true
 |_,_,.nil,_=>fun u hu=>by simp at hu
 |_,_,.cons v v' l l' h hs,e=>fun u hu=>by
  simp at e;rcases List.mem_cons.1 hu with rfl|hu
  ·exact h.one e.1
  exact hs.one (by simpa using e.2) u hu
theorem VR.cells{ρ:Ren}{v x:Value}(h:VR ρ v x):aU ρ v.cells.toList x.cells.toList:=by
 by_cases ha:∃cs,v=.agg cs
 ·obtain⟨cs,rfl⟩:=ha;obtain⟨cs',rfl,r⟩:=h.aggInv;simpa[Value.cells]using r
 have hx:¬∃cs,x=.agg cs:=by
  intro ⟨cs,e⟩;cases h<;>first|exact ha ⟨_,e⟩|cases e
  exact ha ⟨_,rfl⟩
 have e1:v.cells=#[v]:=by cases v<;>first|rfl|exact absurd ⟨_,rfl⟩ ha
 have e2:x.cells=#[x]:=by cases x<;>first|rfl|exact absurd ⟨_,rfl⟩ hx
 rw[e1,e2];exact .cons _ _ _ _ h .nil
theorem gz{a b:Nat}(h:a≠b):Nat.beq a b=false:=by
 cases e:Nat.beq a b with
 |true=>exact absurd (abY e) h
 |false=>rfl
theorem PT.get_set_ne{α:Type}:∀(t:PT α) (n m:Nat) (x:Option α),m≠n->(t.set n x).get m=t.get m
 |.lf,_,_,_,_=>rfl
 |.nd l v r,n,m,x,h=>by
  unfold PT.set;by_cases h0:n=0
  ·subst h0;have:=gz h;simp[PT.get,this]
  rw[gz h0,cond_false];by_cases h1:n%2=1
  ·rw[show Nat.beq (n%2) 1=true by rw[h1];rfl,cond_true];unfold PT.get;by_cases hm:m=0
   ·subst hm;rfl
   rw[gz hm,cond_false,cond_false];by_cases hm1:m%2=1
   ·rw[show Nat.beq (m%2) 1=true by rw[hm1];rfl,cond_true,cond_true];exact PT.get_set_ne l (n/2) (m/2) x (by omega)
   rw[gz hm1,cond_false,cond_false]
  rw[gz h1,cond_false];unfold PT.get;by_cases hm:m=0
  ·subst hm;rfl
  rw[gz hm,cond_false,cond_false];by_cases hm1:m%2=1
  ·rw[show Nat.beq (m%2) 1=true by rw[hm1];rfl,cond_true,cond_true]
  rw[gz hm1,cond_false,cond_false];exact PT.get_set_ne r (n/2-1) (m/2-1) x (by omega)
theorem PT.get_set_same{α:Type}:∀(t:PT α) (n:Nat) (x:Option α),(t.set n x).get n=x\/(t.set n x).get n=none
 |.lf,_,_=>.inr rfl
 |.nd l v r,n,x=>by
  unfold PT.set;by_cases h0:n=0
  ·subst h0;exact .inl rfl
  rw[gz h0,cond_false];by_cases h1:n%2=1
  ·rw[show Nat.beq (n%2) 1=true by rw[h1];rfl,cond_true];unfold PT.get;rw[gz h0,cond_false,show Nat.beq (n%2) 1=true by rw[h1];rfl,cond_true];exact PT.get_set_same l (n/2) x
  rw[gz h1,cond_false];unfold PT.get;rw[gz h0,cond_false,gz h1,cond_false];exact PT.get_set_same r (n/2-1) x
theorem PT.set_some{α:Type}{t:PT α}{n m:Nat}{x:Option α}{v:α}(h:(t.set n x).get m=some v):(m=n/\x=some v)\/(m≠n/\t.get m=some v):=by
 by_cases e:m=n
 ·subst e;rcases PT.get_set_same t m x with q|q
  ·exact .inl ⟨rfl,by rw[<-q,h]⟩
  rw[q]at h;cases h
 exact .inr ⟨e,by rwa [PT.get_set_ne t n m x e]at h⟩
theorem PT.get_full{α:Type}:∀(k n:Nat),(PT.full k:PT α).get n=none
 |0,_=>rfl
 |k+1,n=>by
  unfold PT.full PT.get;cases Nat.beq n 0<;>cases Nat.beq (n%2) 1<;>simp[PT.get_full k]
structure FR(ρ:Ren)(N:Nat)(fr:XF)(tmps:Array Value):Prop where
 size:tmps.size=N
 rep:∀t v,fr.get t=some v->VR ρ v (tmps.getD t undef)
theorem FR.mono{ρ ρ':Ren}(hr:ρ.le ρ'){N:Nat}{fr:XF}{tmps:Array Value}(h:FR ρ N fr tmps):FR ρ' N fr tmps:=⟨h.size,fun t v e=>(h.rep t v e).mono hr⟩
inductive eK(ρ:Ren):List MapEntry->List MapEntry->Prop
 |nil:eK ρ [] []
 |cons (e e':MapEntry) (l l':List MapEntry) (hk:VR ρ e.key e'.key) (hv:VR ρ e.val e'.val) (hb:e'.born=e.born) (hs:eK ρ l l'):eK ρ (e::l) (e'::l')
theorem eK.mono{ρ ρ':Ren}(hr:ρ.le ρ'):∀{l l':List MapEntry},eK ρ l l'->eK ρ' l l'
 |_,_,.nil=>.nil
 |_,_,.cons e e' l l' hk hv hb hs=>.cons e e' l l' (hk.mono hr) (hv.mono hr) hb (hs.mono hr)
theorem eK.length{ρ:Ren}:∀{l l':List MapEntry},eK ρ l l'->l'.length=l.length
 |_,_,.nil=>rfl
 |_,_,.cons e e' l l' hk hv hb hs=>by simp[hs.length]
inductive OR(P:Program)(ρ:Ren)(i:RI):ah->Obj->Prop
 |cells (c:List Value) (e:TypeId) (fr:Nat×Nat) (c':Array Value) (fr':Nat×Nat) (hz:c'.size=i.z) (hr:c.length=i.r) (hk:∀t,P.info? e=some t->t.size=i.k) (hl:i.s+i.r<=i.z)
  (hv:∀(j:Nat) (v:Value),c[j]?=some v->∃v',c'[i.s+j]?=some v'/\VR ρ v v') (hf:∀j,i.s+j<i.z->fr'.1<=i.s+j->i.s+j<fr'.2->fr.1<=j/\j<fr.2) (hq:fr'.1<=fr'.2/\(fr.1=0->fr'.2<=i.z)) (hm:i.s%i.k=0):OR P ρ i (.cells c e fr) (.cells c' e fr')
 |map (es es':List MapEntry) (clock:Nat) (h:eK ρ es es'):OR P ρ i (.map es clock) (.map es'.toArray clock)
 |iter (m since:Nat) (seen:List Nat) (stepped:Nat) (q:RI) (h:ρ m=some q) (hs:i.s=0):OR P ρ i (.iter m since seen stepped) (.mapIter (some q.b) since seen.toArray stepped)
 |loop (st:LoopState) (pend:Option Code) (tm:XF) (N:Nat) (ps:List Tmp) (asg body:Code) (d:Nat) (q:RI) (fn:FuncId) (tmps:Array Value) (hd:ρ d=some q) (hF:FR ρ N tm tmps) :
  OR P ρ i (.loop st pend tm N ps asg body d) (.loop { state:=st,pending:=pend,fn,tmps,params:=ps.toArray,assign:=asg,body,defers:=q.b })
 |defd0:OR P ρ i (.defd false) (.deferred (some []))
 |defd1:OR P ρ i (.defd true) (.deferred none)
theorem OR.mono{P:Program}{ρ ρ':Ren}(hr:ρ.le ρ'){i:RI}{o:ah}{ob:Obj}(h:OR P ρ i o ob):OR P ρ' i o ob:=by
 cases h with
 |cells c e fr c' fr' hz hr' hk hl hv hf hq hm=>exact .cells c e fr c' fr' hz hr' hk hl (fun j v e=>let⟨v',a,b⟩:=hv j v e;⟨v',a,b.mono hr⟩) hf hq hm
 |map es es' clock h=>exact .map es es' clock (h.mono hr)
 |iter m since seen stepped q h hs=>exact .iter m since seen stepped q (hr _ _ h) hs
 |loop st pend tm N ps asg body d q fn tmps hd hF=>exact .loop st pend tm N ps asg body d q fn tmps (hr _ _ hd) (hF.mono hr)
 |defd0=>exact .defd0
 |defd1=>exact .defd1
abbrev GH:=Nat->Option ah
def d9(ρ:Ren)(G:GH):Nat->Prop:=fun b=>∃n i,ρ n=some i/\G n≠none/\i.b=b
structure HR(P:Program)(ρ:Ren)(G:GH)(w:World):Prop where
 obj:∀n i o,ρ n=some i->G n=some o->∃ob,w.heap[i.b]?=some ob/\OR P ρ i o ob
 inj:∀n m i j,ρ n=some i->ρ m=some j->G n≠none->G m≠none->i.b=j.b->n=m
 frz:∀b o,ρ.fz b=some o->w.heap[b]?=some o/\¬d9 ρ G b
structure ca(ρ:Ren)(G:GH)(nx:Nat)(w:World)(ρ':Ren)(G':GH)(nx':Nat)(w':World):Prop where
 le:ρ.le ρ'
 keeps:ak (d9 ρ G) w w'
 img:∀b,d9 ρ' G' b->d9 ρ G b\/w.heap.size<=b
 dom:∀n,ρ' n≠none->ρ n≠none\/(nx<=n/\n<nx')
 next:nx<=nx'
 fzn:∀b o,ρ'.fz b=some o->ρ.fz b=some o\/d9 ρ G b\/w.heap.size<=b
theorem ca.refl(ρ:Ren)(G:GH)(nx:Nat)(w:World):ca ρ G nx w ρ G nx w:=⟨.refl _,.refl _ _,fun _ h=>.inl h,fun _ h=>.inl h,Nat.le_refl _,fun _ _ h=>.inl h⟩
theorem ca.trans{ρ ρ' ρ'':Ren}{G G' G'':GH}{nx nx' nx'':Nat}{w w' w'':World}(h:ca ρ G nx w ρ' G' nx' w')(k:ca ρ' G' nx' w' ρ'' G'' nx'' w''):ca ρ G nx w ρ'' G'' nx'' w'':=
 ⟨h.le.trans k.le,h.keeps.trans' k.keeps (fun b hb e=>(h.img b e).elim id (fun g=>by omega)),
  fun b e=>(k.img b e).elim (h.img b) (fun g=>.inr (acx h.keeps.size g)),
  fun n e=>(k.dom n e).elim (fun g=>(h.dom n g).imp id (fun⟨a,b⟩=>⟨a,acW b k.next⟩)) (fun⟨a,b⟩=>.inr ⟨acx h.next a,b⟩),acx h.next k.next,
  fun b o e=>(k.fzn b o e).elim (h.fzn b o) fun q=>.inr (q.elim (h.img b) fun g=>.inr (acx h.keeps.size g))⟩
theorem wl{P:Program}{ρ ρ':Ren}{G G':GH}{nx nx':Nat}{w w':World}(h:HR P ρ G w)(s:ca ρ G nx w ρ' G' nx' w')(hf:ρ'.fz=ρ.fz):∀b o,ρ'.fz b=some o->w'.heap[b]?=some o/\¬d9 ρ' G' b:=fun b o e=>by
 rw[hf]at e;obtain⟨h1,h2⟩:=h.frz b o e;refine⟨s.keeps.heap h1 h2,fun hi=>?_⟩;rcases s.img b hi with q|q
 ·exact h2 q
 have:=fy h1;omega
def cJ(ρ:Ren)(nx nx':Nat):Prop:=∀n,nx<=n->n<nx'->ρ n=none
theorem cJ.left{ρ:Ren}{a b c:Nat}(h:cJ ρ a c)(hbc:b<=c):cJ ρ a b:=fun n h1 h2=>h n h1 (acW h2 hbc)
theorem cJ.right{ρ ρ':Ren}{G G':GH}{w w':World}{a b c:Nat}(h:cJ ρ a c)(s:ca ρ G a w ρ' G' b w'):cJ ρ' b c:=fun n h1 h2=>by
 cases e:ρ' n with
 |none=>rfl
 |some i=>
  rcases s.dom n (by rw[e];simp)with q|q
  ·exact absurd (h n (acx s.next h1) h2) q
  omega
theorem HR.live{P:Program}{ρ:Ren}{G:GH}{w:World}(h:HR P ρ G w){n:Nat}{i:RI}(hr:ρ n=some i)(hg:G n≠none):i.b<w.heap.size:=by
 cases e:G n with
 |none=>exact absurd e hg
 |some o=>obtain⟨ob,h1,_⟩:=h.obj n i o hr e;exact fy h1
theorem HR.sub{P:Program}{ρ:Ren}{G G':GH}{w:World}(h:HR P ρ G w)(hs:∀n o,G' n=some o->G n=some o):HR P ρ G' w:=
 have hn:∀n,G' n≠none->G n≠none:=fun n hn=>by
  cases e:G' n with
  |none=>exact absurd e hn
  |some o=>rw[hs n o e];simp
 ⟨fun n i o h1 h2=>h.obj n i o h1 (hs n o h2),fun n m i j h1 h2 h3 h4=>h.inj n m i j h1 h2 (hn n h3) (hn m h4),fun b o e=>⟨(h.frz b o e).1,fun⟨n,i,q1,q2,q3⟩=>(h.frz b o e).2 ⟨n,i,q1,hn n q2,q3⟩⟩⟩
theorem d9.sub{ρ:Ren}{G G':GH}(hs:∀n o,G' n=some o->G n=some o){b:Nat}(h:d9 ρ G' b):d9 ρ G b:=by
 obtain⟨n,i,h1,h2,h3⟩:=h;refine⟨n,i,h1,?_,h3⟩;cases e:G' n with
 |none=>exact absurd e h2
 |some o=>rw[hs n o e];simp
theorem HR.drew{P:Program}{ρ:Ren}{G:GH}{w:World}(h:HR P ρ G w):HR P ρ G w.drew:=⟨h.obj,h.inj,h.frz⟩
theorem ca.drew{ρ ρ':Ren}{G G':GH}{nx nx':Nat}{w w':World}(h:ca ρ G nx w.drew ρ' G' nx' w'):ca ρ G nx w ρ' G' nx' w':=
 ⟨h.le,(ak.drew (ak.refl _ w)).trans h.keeps,h.img,h.dom,h.next,h.fzn⟩
def eV(ρ:Ren)(n:Nat)(i:RI):Ren:=⟨fun m=>if m=n then some i else ρ m,ρ.fz⟩
theorem cG(ρ:Ren)(n:Nat)(i:RI):eV ρ n i n=some i:=if_pos rfl
theorem gj{ρ:Ren}{n:Nat}(i:RI)(h:ρ n=none):ρ.le (eV ρ n i):=⟨fun m j e=>by
 show(if m=n then some i else ρ m)=some j;split
 ·rename_i q;subst q;rw[h]at e;cases e
 exact e,fun _ _ e=>e⟩
theorem zb{ρ:Ren}{n m:Nat}{i j:RI}(hm:m≠n)(h:eV ρ n i m=some j):ρ m=some j:=by
 have h:(if m=n then some i else ρ m)=some j:=h;rwa [if_neg hm]at h
theorem oU{a b:Nat}:Nat.blt a b=true↔a<b:=by
 unfold Nat.blt;exact⟨fun h=>Nat.le_of_ble_eq_true h,fun h=>acX h⟩
theorem mj{a b:Nat}(h:a<b):Nat.blt a b=true:=oU.2 h
theorem xB{a b:Nat}(h:b<=a):Nat.blt a b=false:=by
 cases e:Nat.blt a b with
 |false=>rfl
 |true=>have:=oU.1 e;omega
theorem XW.get_lt{W:XW}{n:Nat}(h:n<W.next):W.get n=W.heap.get n:=by unfold XW.get;rw[mj h];rfl
theorem XW.get_ge{W:XW}{n:Nat}(h:W.next<=n):W.get n=none:=by unfold XW.get;rw[xB h];rfl
theorem XW.get_push{W:XW}{o o':ah}{n:Nat}(h:(W.push o).get n=some o'):(n=W.next/\o=o')\/(n≠W.next/\W.get n=some o'):=by
 rcases ab8 n (W.push o).next with q|q
 ·rw[XW.get_lt q]at h;rcases PT.set_some h with⟨a,b⟩|⟨a,b⟩
  ·cases b;exact .inl ⟨a,rfl⟩
  have q:n<W.next+1:=q;exact .inr ⟨a,by rw[XW.get_lt (by omega)];exact b⟩
 rw[XW.get_ge q]at h;cases h
theorem XW.get_push_ne{W:XW}{o:ah}{n:Nat}(h:n≠W.next):(W.push o).get n=W.get n:=by
 rcases ab8 n W.next with q|q
 ·rw[XW.get_lt q,XW.get_lt (W:=W.push o) (Nat.lt_succ_of_lt q)];exact PT.get_set_ne _ _ _ _ h
 rw[XW.get_ge q,XW.get_ge (W:=W.push o) (show W.next+1<=n by omega)]
theorem XW.get_put{W:XW}{x:Option ah}{o':ah}{n m:Nat}(h:(W.put n x).get m=some o'):(m=n/\x=some o')\/(m≠n/\W.get m=some o'):=by
 rcases ab8 m W.next with q|q
 ·rw[XW.get_lt (W:=W.put n x) q]at h;rcases PT.set_some h with e|⟨a,b⟩
  ·exact .inl e
  exact .inr ⟨a,by rw[XW.get_lt q];exact b⟩
 rw[XW.get_ge (W:=W.put n x) q]at h;cases h
theorem XW.get_put_ne{W:XW}{x:Option ah}{n m:Nat}(h:m≠n):(W.put n x).get m=W.get m:=by
 rcases ab8 m W.next with q|q
 ·rw[XW.get_lt q,XW.get_lt (W:=W.put n x) q];exact PT.get_set_ne _ _ _ _ h
 rw[XW.get_ge q,XW.get_ge (W:=W.put n x) q]
section
variable {P:Program} {ρ:Ren} {W:XW} {w:World}
theorem HR.pushK(h:HR P ρ W.get w)(hn:ρ W.next=none)(o:ah)(ob:Obj)(i:RI){w':World}(hkk:ak aO w w')(hnew:w'.heap[w.heap.size]?=some ob)(hb:i.b=w.heap.size)(ho:OR P (eV ρ W.next i) i o ob) :
 HR P (eV ρ W.next i) (W.push o).get w'/\ca ρ W.get W.next w (eV ρ W.next i) (W.push o).get (W.push o).next w':=by
 have hle:=gj i hn;have hlive:∀m j,eV ρ W.next i m=some j->(W.push o).get m≠none->m≠W.next->ρ m=some j/\W.get m≠none:=fun m j h1 h2 h3=>⟨zb h3 h1,by rwa [XW.get_push_ne h3]at h2⟩
 have hst:ca ρ W.get W.next w (eV ρ W.next i) (W.push o).get (W.push o).next w':=⟨hle,hkk.mono (fun _ _ e=>e.elim),fun b hb'=>?_,fun m hm=>?_,acU _,fun _ _ h=>.inl h⟩;refine⟨⟨fun m j o' h1 h2=>?_,fun m m' j j' h1 h2 h3 h4 hj=>?_,wl h hst rfl⟩,hst⟩
 ·rcases XW.get_push h2 with⟨rfl,rfl⟩|⟨h3,h4⟩
  ·rw[cG]at h1;cases h1;exact⟨ob,by rw[hb];exact hnew,ho⟩
  obtain⟨ob',q1,q2⟩:=h.obj m j o' (zb h3 h1) h4;exact⟨ob',hkk.heap q1 (fun e=>e),q2.mono hle⟩
 ·by_cases e1:m=W.next
  ·by_cases e2:m'=W.next
   ·rw[e1,e2]
   obtain⟨q1,q2⟩:=hlive m' j' h2 h4 e2;have:=h.live q1 q2;subst e1;rw[cG]at h1;cases h1;omega
  obtain⟨q1,q2⟩:=hlive m j h1 h3 e1;by_cases e2:m'=W.next
  ·have:=h.live q1 q2;subst e2;rw[cG]at h2;cases h2;omega
  obtain⟨q3,q4⟩:=hlive m' j' h2 h4 e2;exact h.inj m m' j j' q1 q3 q2 q4 hj
 ·obtain⟨m,j,h1,h2,h3⟩:=hb';by_cases e:m=W.next
  ·subst e;rw[cG]at h1;cases h1;exact .inr (by omega)
  obtain⟨q1,q2⟩:=hlive m j h1 h2 e;exact .inl ⟨m,j,q1,q2,h3⟩
 by_cases e:m=W.next
 ·subst e;exact .inr ⟨Nat.le_refl _,aci _⟩
 left;have hm:(if m=W.next then _ else ρ m)≠none:=hm;rwa [if_neg e]at hm
theorem HR.push(h:HR P ρ W.get w)(hn:ρ W.next=none)(o:ah)(ob:Obj)(i:RI)(hb:i.b=w.heap.size)(ho:OR P (eV ρ W.next i) i o ob) :
 HR P (eV ρ W.next i) (W.push o).get (w.alloc ob)/\ca ρ W.get W.next w (eV ρ W.next i) (W.push o).get (W.push o).next (w.alloc ob):=
 h.pushK hn o ob i ((ak.refl _ w).alloc ob) bw hb ho
theorem HR.put(h:HR P ρ W.get w){n:Nat}{i:RI}(hr:ρ n=some i)(hg:W.get n≠none)(o:ah){w':World}{ob:Obj}(hk:ak (fun b=>b=i.b) w w')(hb:w'.heap[i.b]?=some ob)(ho:OR P ρ i o ob) :
 HR P ρ (W.put n (some o)).get w'/\ca ρ W.get W.next w ρ (W.put n (some o)).get (W.put n (some o)).next w':=by
 have hlive:∀m,(W.put n (some o)).get m≠none->W.get m≠none:=fun m hm=>by
  by_cases e:m=n
  ·subst e;exact hg
  rwa [XW.get_put_ne e]at hm
 have hst:ca ρ W.get W.next w ρ (W.put n (some o)).get (W.put n (some o)).next w':=⟨.refl _,hk.mono (fun b _ e=>⟨n,i,hr,hg,e.symm⟩),fun b hb'=>?_,fun m hm=>.inl hm,Nat.le_refl _,fun _ _ h=>.inl h⟩;refine⟨⟨fun m j o' h1 h2=>?_,fun m m' j j' h1 h2 h3 h4=>h.inj m m' j j' h1 h2 (hlive m h3) (hlive m' h4),wl h hst rfl⟩,hst⟩
 ·rcases XW.get_put h2 with⟨rfl,q⟩|⟨h3,h4⟩
  ·cases q;rw[hr]at h1;cases h1;exact⟨ob,hb,ho⟩
  obtain⟨ob',q1,q2⟩:=h.obj m j o' h1 h4;exact⟨ob',hk.heap q1 (fun e=>h3 (h.inj m n j i h1 hr (by rw[h4];simp) hg e)),q2⟩
 obtain⟨m,j,h1,h2,h3⟩:=hb';exact .inl ⟨m,j,h1,hlive m h2,h3⟩
theorem HR.kill(h:HR P ρ W.get w)(n:Nat):HR P ρ (W.put n none).get w/\ca ρ W.get W.next w ρ (W.put n none).get (W.put n none).next w:=by
 have hs:∀m o,(W.put n none).get m=some o->W.get m=some o:=fun m o e=>by
  rcases XW.get_put e with⟨_,q⟩|⟨_,q⟩
  ·cases q
  exact q
 exact⟨h.sub hs,⟨.refl _,.refl _ _,fun b hb=>.inl (d9.sub hs hb),fun m hm=>.inl hm,Nat.le_refl _,fun _ _ h=>.inl h⟩⟩
theorem HR.pushN(h:HR P ρ W.get w)(hn:ρ W.next=none)(o:ah):HR P ρ (W.push o).get w/\ca ρ W.get W.next w ρ (W.push o).get (W.push o).next w:=by
 have key:∀m i,ρ m=some i->(W.push o).get m=W.get m:=fun m i e=>XW.get_push_ne (fun q=>by rw[q,hn]at e;cases e)
 have himg:∀b,d9 ρ (W.push o).get b->d9 ρ W.get b:=fun b ⟨n,i,q1,q2,q3⟩=>⟨n,i,q1,by rw[<-key n i q1];exact q2,q3⟩
 exact⟨⟨fun m i o' q1 q2=>h.obj m i o' q1 (by rw[<-key m i q1];exact q2),fun m1 m2 i j q1 q2 q3 q4 q5=>h.inj m1 m2 i j q1 q2 (by rw[<-key m1 i q1];exact q3) (by rw[<-key m2 j q2];exact q4) q5,fun b o q=>⟨(h.frz b o q).1,fun q2=>(h.frz b o q).2 (himg b q2)⟩⟩,
  ⟨.refl _,.refl _ _,fun b hb=>.inl (himg b hb),fun m hm=>.inl hm,acU _,fun _ _ h=>.inl h⟩⟩
theorem HR.regrow(h:HR P ρ W.get w){n:Nat}{i i':RI}(hr:ρ n=some i)(hg:W.get n≠none)(hn:ρ W.next=none)(hne:n≠W.next)(o:ah){w':World}{ob:Obj}(hk:ak (fun b=>b=i.b) w w')
 (hi:i'.b=i.b) (hb:w'.heap[i.b]?=some ob) (ho:OR P (eV ρ W.next i') i' o ob) :
 HR P (eV ρ W.next i') ((W.put n none).push o).get w'/\ca ρ W.get W.next w (eV ρ W.next i') ((W.put n none).push o).get ((W.put n none).push o).next w':=by
 have hle:=gj i' hn;have hnx:(W.put n none).next=W.next:=rfl;have hlive:∀m j,eV ρ W.next i' m=some j->((W.put n none).push o).get m≠none->m≠W.next->m≠n/\ρ m=some j/\W.get m≠none:=fun m j h1 h2 h3=>by
  rw[XW.get_push_ne (by rw[hnx];exact h3)]at h2;have e:m≠n:=fun e=>by
   subst e;cases q:(W.put m none).get m with
   |none=>exact h2 q
   |some o=>rcases XW.get_put q with⟨_,q⟩|⟨q,_⟩;cases q;exact q rfl
  exact⟨e,zb h3 h1,by rwa [XW.get_put_ne e]at h2⟩
 have hst:ca ρ W.get W.next w (eV ρ W.next i') ((W.put n none).push o).get ((W.put n none).push o).next w':=⟨hle,hk.mono (fun b _ e=>⟨n,i,hr,hg,e.symm⟩),fun b hb'=>?_,fun m hm=>?_,acU _,fun _ _ h=>.inl h⟩;refine⟨⟨fun m j o' h1 h2=>?_,fun m m' j j' h1 h2 h3 h4 hj=>?_,wl h hst rfl⟩,hst⟩
 ·by_cases e:m=W.next
  ·subst e;rw[cG]at h1;cases h1;rcases XW.get_push h2 with⟨_,rfl⟩|⟨q,_⟩
   ·exact⟨ob,by rw[hi];exact hb,ho⟩
   exact absurd rfl q
  obtain⟨q1,q2,q3⟩:=hlive m j h1 (by rw[h2];simp) e;rw[XW.get_push_ne (by rw[hnx];exact e),XW.get_put_ne q1]at h2;obtain⟨ob',r1,r2⟩:=h.obj m j o' q2 h2;exact⟨ob',hk.heap r1 (fun e=>q1 (h.inj m n j i q2 hr q3 hg e)),r2.mono hle⟩
 ·by_cases e1:m=W.next
  ·by_cases e2:m'=W.next
   ·rw[e1,e2]
   obtain⟨q1,q2,q3⟩:=hlive m' j' h2 h4 e2;subst e1;rw[cG]at h1;cases h1;exact absurd (h.inj m' n j' i q2 hr q3 hg (by rw[<-hj,hi])) q1
  obtain⟨q1,q2,q3⟩:=hlive m j h1 h3 e1;by_cases e2:m'=W.next
  ·subst e2;rw[cG]at h2;cases h2;exact absurd (h.inj m n j i q2 hr q3 hg (by rw[hj,hi])) q1
  obtain⟨q4,q5,q6⟩:=hlive m' j' h2 h4 e2;exact h.inj m m' j j' q2 q5 q3 q6 hj
 ·obtain⟨m,j,h1,h2,h3⟩:=hb';by_cases e:m=W.next
  ·subst e;rw[cG]at h1;cases h1;exact .inl ⟨n,i,hr,hg,by rw[<-hi];exact h3⟩
  obtain⟨_,q2,q3⟩:=hlive m j h1 h2 e;exact .inl ⟨m,j,q2,q3,h3⟩
 by_cases e:m=W.next
 ·subst e;exact .inr ⟨Nat.le_refl _,aci _⟩
 left;have hm:(if m=W.next then _ else ρ m)≠none:=hm;rwa [if_neg e]at hm
end
section
variable {P:Program} {ρ:Ren} {w:World}
theorem wQ:(program).run P w=.ok P w:=rfl
theorem aI{t:TypeId}{d:TypeDesc}(h:P.underlying t=some d):(underlying t).run P w=.ok d w:=by
 unfold underlying;rw[abU,wQ,abQ,h];rfl
theorem lm{t:TypeId}{i:TypeInfo}(h:P.info? t=some i):(typeInfo t).run P w=.ok i w:=by
 unfold typeInfo;rw[abU,wQ,abQ,h];rfl
theorem y4{t:TypeId}{s:Nat}(h:sz P t=some s):∃i,P.info? t=some i/\i.size=s:=by
 unfold sz at h;cases e:P.info? t with
 |none=>rw[e]at h;cases h
 |some i=>rw[e]at h;exact⟨i,rfl,by simpa using h⟩
theorem dZ{t:TypeId}{s:Nat}(h:sz P t=some s):(sizeOf t).run P w=.ok s w:=by
 obtain⟨i,h1,h2⟩:=y4 h;unfold sizeOf;rw[abU,lm h1,abQ,h2];rfl
theorem vl{t:TypeId}{b:Bool}(h:bH P t=some b):(isAgg t).run P w=.ok b w:=by
 unfold bH at h;cases e:P.underlying t with
 |none=>rw[e]at h;cases h
 |some d=>
  rw[e]at h;unfold isAgg;rw[abU,aI e,abQ];cases d<;>(simp at h;subst h;rfl)
theorem gd{t:TypeId}{z:Value}(h:az P t=some z):∃i,P.info? t=some i/\i.zero=some z/\cy z=true:=by
 unfold az at h;cases e:P.info? t with
 |none=>rw[e]at h;cases h
 |some i=>
  simp only[e]at h;cases e2:i.zero with
  |none=>simp only[e2]at h;cases h
  |some y=>
   simp only[e2]at h;cases e3:cy y with
   |false=>rw[e3]at h;cases h
   |true=>rw[e3]at h;cases h;exact⟨i,rfl,e2,e3⟩
theorem gZ{t:TypeId}{z:Value}(h:az P t=some z):(zeroValue t).run P w=.ok z w:=by
 obtain⟨i,h1,h2,_⟩:=gd h;unfold zeroValue;rw[abU,lm h1,abQ,h2];rfl
theorem jW{α:Type}:∀{S:Sem α} {x:α},ay P S=some x->∀w:World,S.run P w=.ok x w
 |.pure a,x,h,w=>by simp only[ay,Option.some.injEq]at h;subst h;rfl
 |.program k,x,h,w=>by rw[Sem.run];exact jW (S:=k P) h w
 |.mark _ k,x,h,w=>by rw[Sem.run];exact jW (S:=k) h w
 |.choose q k,x,h,w=>by
  rw[ay]at h;cases e:q.forced with
  |false=>rw[e]at h;cases h
  |true=>rw[e]at h;rw[Sem.run,if_pos e];exact jW (S:=k 0) h w
 |.load _ _ _,_,h,_=>by simp[ay]at h
 |.store _ _ _ _,_,h,_=>by simp[ay]at h
 |.new _ _,_,h,_=>by simp[ay]at h
 |.shape _ _,_,h,_=>by simp[ay]at h
 |.freeze _ _ _,_,h,_=>by simp[ay]at h
 |.frozen _ _,_,h,_=>by simp[ay]at h
 |.getObj _ _,_,h,_=>by simp[ay]at h
 |.setObj _ _ _,_,h,_=>by simp[ay]at h
 |.sys _ _,_,h,_=>by simp[ay]at h
 |.halt _,_,h,_=>by simp[ay]at h
end
def Ev(ρ:Ren)(fr:XF)(e:Operand->Value):Prop:=∀x v,ev fr x=some v->VR ρ v (e x)
theorem FR.ev{ρ:Ren}{N:Nat}{fr:XF}{a:Act}(h:FR ρ N fr a.tmps):Ev ρ fr a.eval:=fun x v e=>by
 cases x with
 |tmp t=>exact h.rep t v e
 |const c=>
  simp only[X.ev]at e;cases q:cy c with
  |false=>rw[q]at e;cases e
  |true=>rw[q]at e;cases e;exact .flat 8 _ q
 |global g=>cases e
 |func f=>cases e;exact .flat 1 _ rfl
theorem Ev.evs{ρ:Ren}{fr:XF}{e:Operand->Value}(h:Ev ρ fr e):∀{l:List Operand} {vs:List Value},evs fr l=some vs->aU ρ vs (l.map e)
 |[],vs,q=>by cases q;exact .nil
 |x::l,vs,q=>by
  unfold X.evs at q;cases e1:ev fr x with
  |none=>rw[e1]at q;cases q
  |some v=>
   cases e2:X.evs fr l with
   |none=>rw[e1,e2]at q;cases q
   |some r=>rw[e1,e2]at q;cases q;exact .cons _ _ _ _ (h x v e1) (h.evs e2)
inductive Gz(ρ:Ren):List (Nat×Value)->List (Nat×Value)->Prop
 |nil:Gz ρ [] []
 |cons (i:Nat) (v v':Value) (l l':List (Nat×Value)) (h:VR ρ v v') (hs:Gz ρ l l'):Gz ρ ((i,v)::l) ((i,v')::l')
theorem Ev.evP{ρ:Ren}{fr:XF}{e:Operand->Value}(h:Ev ρ fr e):∀{l:List (Nat×Operand)} {vs:List (Nat×Value)},evP fr l=some vs->Gz ρ vs (l.map fun(i,x)=>(i,e x))
 |[],vs,q=>by cases q;exact .nil
 |(i,x)::l,vs,q=>by
  unfold X.evP at q;cases e1:ev fr x with
  |none=>rw[e1]at q;cases q
  |some v=>
   cases e2:X.evP fr l with
   |none=>rw[e1,e2]at q;cases q
   |some r=>rw[e1,e2]at q;cases q;exact .cons _ _ _ _ _ (h x v e1) (h.evP e2)
def vU(ρ:Ren)(s:Nat)(c:List Value)(c':Array Value):Prop:=∀(j:Nat) (v:Value),c[j]?=some v->∃v',c'[s+j]?=some v'/\VR ρ v v'
theorem aU.row{ρ:Ren}{off:Nat}{cs:List Value}{c':Array Value}(h:aU ρ cs ((c'.toList.drop off).take cs.length)):vU ρ off cs c':=fun j v hj=>by
 obtain⟨v',h1,h2⟩:=h.get j v hj;refine⟨v',?_,h2⟩;have hj':j<cs.length:=(List.getElem?_eq_some_iff.1 hj).1;rw[acw,if_pos hj',acC,acr]at h1;exact h1
theorem aU.piece{ρ:Ren}{off:Nat}{cs:List Value}{c':Array Value}(h:aU ρ cs ((c'.toList.drop off).take cs.length))(d n:Nat) :
 aU ρ ((cs.drop d).take n) ((c'.toList.drop (off+d)).take ((cs.drop d).take n).length):=by
 have:=(h.drop d).take n;rw[List.drop_take,acG,List.take_take]at this;rw[abR,abT];exact this
theorem vU.part{ρ:Ren}{s:Nat}{c:List Value}{c':Array Value}(h:vU ρ s c c')(o n:Nat)(hl:((c.drop o).take n).length=n) :
 ∃cs:List Value,cs.length=n/\aU ρ ((c.drop o).take n) cs/\∀j u,cs[j]?=some u->c'[s+o+j]?=some u:=by
 have key:∀j,j<n->∃v v',((c.drop o).take n)[j]?=some v/\c'[s+o+j]?=some v'/\VR ρ v v':=fun j hj=>by
  have hj':j<((c.drop o).take n).length:=by omega
  have e:=abS hj';have e2:c[o+j]?=some (((c.drop o).take n)[j]):=by rw[<-e,acw,if_pos hj,acC]
  obtain⟨v',h1,h2⟩:=h _ _ e2;exact⟨_,v',e,by rw[adb];exact h1,h2⟩
 have hget:∀j,j<n->(c'.toList.drop (s+o))[j]?=c'[s+o+j]?:=fun j hj=>by
  rw[acC,acr]
 have hlen:((c'.toList.drop (s+o)).take n).length=n:=by
  rw[abR];rcases ab8 ((c'.toList.drop (s+o)).length) n with q|q
  ·exfalso;obtain⟨v,v',_,h2,_⟩:=key _ q;rw[<-hget _ q]at h2;rw[ab9 (Nat.le_refl _)]at h2;cases h2
  omega
 refine⟨(c'.toList.drop (s+o)).take n,hlen,aU.of_get (by rw[hlen,hl]) fun j u hu=>?_,fun j u hu=>?_⟩
 ·have hj:j<n:=by
   have:=(List.getElem?_eq_some_iff.1 hu).1;omega
  obtain⟨v,v',h1,h2,h3⟩:=key j hj;rw[hu]at h1;cases h1;exact⟨v',by rw[acw,if_pos hj,hget j hj];exact h2,h3⟩
 have hj:j<n:=by have:=(List.getElem?_eq_some_iff.1 hu).1;omega
 rw[acw,if_pos hj,hget j hj]at hu;exact hu
theorem CE{P:Program}{ρ:Ren}{w:World}{b s o:Nat}{t e:TypeId}{c:List Value}{c':Array Value}{f:Nat×Nat}{v:Value}(hb:w.heap[b]?=some (.cells c' e f))(hr:vU ρ s c c')(h:gA P t c o=some v) :
 ∃u,(loadVar t ⟨b,o+s,none⟩).run P w=.ok u w/\VR ρ v u:=by
 unfold gA at h;cases ha:bH P t with
 |none=>rw[ha]at h;cases h
 |some q=>
  rw[ha]at h;cases q with
  |true=>
   cases hs:sz P t with
   |none=>rw[hs]at h;cases h
   |some n=>
    rw[hs]at h;simp only at h;cases hl:Nat.beq ((c.drop o).take n).length n with
    |false=>rw[hl]at h;cases h
    |true=>
     rw[hl]at h;cases h;obtain⟨cs,q1,q2,q3⟩:=hr.part o n (abY hl);refine⟨.agg cs.toArray,?_,.agg _ _ q2⟩;have hll:=run_loadCells_list (P:=P) w ⟨b,o+s,none⟩ cs fun j u hu=>by
      rw[bX,bm hb,acy o s];exact q3 j u hu
     rw[q1]at hll;unfold loadVar;rw[abU,vl ha,abQ,if_pos rfl,abU,dZ hs,abQ,abU,hll];rfl
  |false=>
   simp only at h;obtain⟨v',q1,q2⟩:=hr o v h;refine⟨v',?_,q2⟩;unfold loadVar;rw[abU,vl ha,abQ,if_neg acf];have:w.cell? ⟨b,o+s,none⟩=some v':=by rw[bm hb,acy o s];exact q1
   show(Sem.load _ _ _).run P w=_;rw[Sem.run,this];rfl
theorem B3{P:Program}{ρ:Ren}{w:World}{o:Nat}{t:TypeId}{c cs:List Value}{v:Value}(hr:aU ρ c cs)(h:gA P t c o=some v):∃u,(part t cs.toArray o).run P w=.ok u w/\VR ρ v u:=by
 unfold gA at h;cases ha:bH P t with
 |none=>rw[ha]at h;cases h
 |some q=>
  rw[ha]at h;cases q with
  |true=>
   cases hs:sz P t with
   |none=>rw[hs]at h;cases h
   |some n=>
    rw[hs]at h;simp only at h;cases hl:Nat.beq ((c.drop o).take n).length n with
    |false=>rw[hl]at h;cases h
    |true=>
     rw[hl]at h;cases h;refine⟨.agg ((cs.drop o).take n).toArray,?_,.agg _ _ ((hr.drop o).take n)⟩;unfold part;rw[abU,vl ha,abQ,if_pos rfl,abU,dZ hs,abQ];have:(cs.toArray.extract o (o+n))=((cs.drop o).take n).toArray:=by rw[List.extract_toArray,List.extract_eq_take_drop];simp
     rw[this];rfl
  |false=>
   simp only at h;obtain⟨v',q1,q2⟩:=hr.get o v h;refine⟨v',?_,q2⟩;unfold part;rw[abU,vl ha,abQ,if_neg acf];rw[show cs.toArray[o]?=some v' by rw[List.getElem?_toArray];exact q1];rfl
def mf(c:Array Value):Nat->List Value->Array Value
 |_,[]=>c
 |o,v::l=>mf (c.setIfInBounds o v) (o+1) l
theorem uh:∀(l:List Value) (o:Nat) (c:Array Value),(mf c o l).size=c.size
 |[],_,_=>rfl
 |v::l,o,c=>by rw[mf,uh l,Array.size_setIfInBounds]
theorem li:∀(l:List Value) (o:Nat) (c:Array Value) (j:Nat),(j<o\/o+l.length<=j)->(mf c o l)[j]?=c[j]?
 |[],_,_,_,_=>rfl
 |v::l,o,c,j,h=>by
  rw[mf,li l (o+1) _ j (by simp at h;omega),acB (by simp at h;omega)]
theorem u4:∀(l:List Value) (o:Nat) (c:Array Value) (j:Nat),o+l.length<=c.size->j<l.length->(mf c o l)[o+j]?=l[j]?
 |[],_,_,_,_,h=>by simp at h
 |v::l,o,c,0,hs,h=>by
  rw[mf,li l (o+1) _ (o+0) (by omega)];simp at hs;rw[Nat.add_zero,ac6,if_pos (by omega)];rfl
 |v::l,o,c,j+1,hs,h=>by
  have:=u4 l (o+1) (c.setIfInBounds o v) j (by simp at hs ⊢;omega) (by simpa using h);rw[mf,show o+(j+1)=o+1+j by omega,this];rfl
theorem wA{w:World}{b o:Nat}{c:Array Value}{e:TypeId}{f:Nat×Nat}{v:Value}(h:w.heap[b]?=some (.cells c e f)):(w.setCell ⟨b,o,none⟩ v).heap[b]?=some (.cells (c.setIfInBounds o v) e f):=by
 have hb:=fy h;simp only[World.setCell,acK,h];simp
theorem oh:∀(l:List Value) (w:World) (b o:Nat) (c:Array Value) (e:TypeId) (f:Nat×Nat),w.heap[b]?=some (.cells c e f)->(w.setCells b o l).heap[b]?=some (.cells (mf c o l) e f)
 |[],_,_,_,_,_,_,h=>h
 |v::l,w,b,o,c,e,f,h=>by
  rw[World.setCells];exact oh l _ b (o+1) _ e f (wA h)
theorem od:∀(us:List Value) (w:World) (b off:Nat),ak (fun k=>k=b) w (w.setCells b off us)
 |[],w,b,off=>ak.refl _ _
 |u::us,w,b,off=>by
  rw[World.setCells];exact((ak.refl (fun k=>k=b) w).setCell (p:=⟨b,off,none⟩) (fun _=>rfl) u).trans (od us _ b (off+1))
theorem Ko{c vs:List Value}{o:Nat}(h:o+vs.length<=c.length):(wr c o vs).length=c.length:=by
 unfold wr;simp;omega
theorem VJ{c vs:List Value}{o j:Nat}{v:Value}(h:o+vs.length<=c.length)(hv:(wr c o vs)[j]?=some v):(j<o/\c[j]?=some v)\/(o<=j/\j<o+vs.length/\vs[j-o]?=some v)\/(o+vs.length<=j/\c[j]?=some v):=by
 unfold wr at hv;have ht:(c.take o).length=o:=by simp;omega
 rcases ab8 j o with q|q
 ·left;rw[acz (by omega),acw,if_pos q]at hv;exact⟨q,hv⟩
 rw[act (by omega),ht]at hv;rcases ab8 (j-o) vs.length with q2|q2
 ·rw[acz q2]at hv;exact .inr (.inl ⟨q,by omega,hv⟩)
 rw[act q2,acC]at hv;rw[show o+vs.length+(j-o-vs.length)=j by omega]at hv;exact .inr (.inr ⟨by omega,hv⟩)
theorem oy{W W':XW}{n o:Nat}{vs:List Value}(h:eI W n o vs=some W'):∃c e fr,W.get n=some (.cells c e fr)/\o+vs.length<=c.length/\(∀j,o<=j->j<o+vs.length->¬(fr.1<=j/\j<fr.2)) /\
 vs.all dr=true/\W'=W.put n (some (.cells (wr c o vs) e fr)):=by
 unfold eI at h;cases e1:W.get n with
 |none=>rw[e1]at h;cases h
 |some ob=>
  rw[e1]at h;cases ob with
  |cells c e fr=>
   simp only at h;cases q:(Nat.ble (o+vs.length) c.length&&!nX fr o vs.length&&vs.all dr)with
   |false=>rw[q]at h;cases h
   |true=>
    rw[q]at h;cases h;simp only[abZ,acJ]at q;refine⟨c,e,fr,rfl,Nat.le_of_ble_eq_true q.1.1,fun j h1 h2 ⟨h3,h4⟩=>?_,q.2,rfl⟩;have:=q.1.2;unfold nX at this;simp only[Bool.not_eq_false',acs]at this;rcases this with(this|this)|this
    ·have:=Nat.le_of_ble_eq_true this;omega
    ·have:=Nat.le_of_ble_eq_true this;omega
    have:=Nat.le_of_ble_eq_true this;omega
  |_=>cases h
theorem l6{P:Program}{ρ:Ren}{W W':XW}{w:World}{n o:Nat}{i:RI}{vs us:List Value}(h:HR P ρ W.get w)(hr:ρ n=some i)(hs:eI W n o vs=some W')(hv:aU ρ vs us) :
 (storeCells ⟨i.b,o+i.s,none⟩ us).run P w=.ok () (w.setCells i.b (o+i.s) us)/\HR P ρ W'.get (w.setCells i.b (o+i.s) us)/\ca ρ W.get W.next w ρ W'.get W'.next (w.setCells i.b (o+i.s) us):=by
 obtain⟨c,e,fr,hg,hl,hfr,h1,rfl⟩:=oy hs;obtain⟨ob,hb,ho⟩:=h.obj n i _ hr hg;cases ho with
 |cells _ _ _ c' fr' hz hrr hk hll hrow hf hq hm=>
  have hlen:=hv.length;have hin:∀j,j<us.length->o+i.s+j<c'.size:=fun j hj=>by omega
  refine⟨?_,?_⟩
  ·have:=run_storeCells_cells (P:=P) i.b (o+i.s) us 0 w (fun j hj=>by
    rw[Nat.add_zero,bm hb,acl (hin j hj)];rfl)
    (fun j hj=>by
     rw[Nat.add_zero];simp only[World.frozen?,hb];cases q:(decide (fr'.1<=o+i.s+j)&&decide (o+i.s+j<fr'.2))with
     |false=>rfl
     |true=>
      simp only[abZ,decide_eq_true_eq]at q;exact absurd (hf (o+j) (by omega) (by omega) (by omega)) (hfr (o+j) (by omega) (by omega)))
    (hv.one h1)
   simpa using this
  refine h.put hr (by rw[hg];simp) _ (od us w i.b (o+i.s)) (oh us w i.b (o+i.s) c' e fr' hb) ?_;refine .cells _ _ _ _ _ (by rw[uh,hz]) (by rw[Ko hl,hrr]) hk hll (fun j v hj=>?_) (fun j hj=>?_) hq hm
  ·rcases VJ hl hj with⟨q1,q2⟩|⟨q1,q2,q3⟩|⟨q1,q2⟩
   ·obtain⟨v',r1,r2⟩:=hrow j v q2;exact⟨v',by rw[li _ _ _ _ (by omega)];exact r1,r2⟩
   ·obtain⟨v',r1,r2⟩:=hv.get (j-o) v q3;refine⟨v',?_,r2⟩;rw[show i.s+j=o+i.s+(j-o) by omega,u4 us _ _ _ (by omega) (by omega)];exact r1
   obtain⟨v',r1,r2⟩:=hrow j v q2;exact⟨v',by rw[li _ _ _ _ (by omega)];exact r1,r2⟩
  exact hf j hj
theorem OR.new{P:Program}{ρ:Ren}{e:TypeId}{c:List Value}{c':Array Value}{b k:Nat}(hk:∀t,P.info? e=some t->t.size=k)(hc:aU ρ c (c'.toList.take c.length)):OR P ρ ⟨b,0,c'.size,k,c.length⟩ (.cells c e (0,0)) (.cells c' e (0,0)):=by
 have hl:c.length<=c'.size:=by have:=hc.length;rw[abR]at this;have q:c'.toList.length=c'.size:=acv;omega
 refine .cells _ _ _ _ _ rfl rfl hk (by simpa using hl) (fun j v hj=>?_) (fun j hj h1 h2=>by simp at h2) ⟨Nat.le_refl _,fun _=>abW _⟩ (Nat.zero_mod _);obtain⟨v',h1,h2⟩:=hc.get j v hj;refine⟨v',?_,h2⟩;have hj':j<c.length:=(List.getElem?_eq_some_iff.1 hj).1;rw[acw,if_pos hj',acr]at h1;simpa using h1
def qj(P:Program)(S:Sem Next)(w:World)(u:Value)(w':World):Prop:=S.run P w=.ok (.value u) w'\/(S.run P w=.ok .skip w'/\u=undef)
def cV(P:Program)(ρ:Ren)(W:XW)(w:World)(S:Sem Next):XR->Prop
 |.val v=>∃u,qj P S w u w/\∀x,v=some x->VR ρ x u
 |.new o k=>ρ W.next=none->∃u ρ' w',qj P S w u w'/\ca ρ W.get W.next w ρ' (W.push o).get (W.push o).next w'/\HR P ρ' (W.push o).get w'/\VR ρ' (k W.next) u
 |.mod v W'=>cJ ρ W.next W'.next->∃u ρ' w',qj P S w u w'/\ca ρ W.get W.next w ρ' W'.get W'.next w'/\HR P ρ' W'.get w'/\VR ρ' v u
 |.enter f args=>∃args':List Value,S.run P w=(callFunc f args'.toArray).run P w/\aU ρ args args'
 |.pan v=>∃v',S.run P w=.halt (.panic v') w/\VR ρ v v'
 |.defer f args cap=>∃as' cs':List Value,S.run P w=.ok (.defer ⟨.fn (.func f) cs'.toArray,as'.toArray⟩) w/\aU ρ args as'/\aU ρ cap cs'
 |.round l args=>∃i,∃args':List Value,ρ l=some i/\S.run P w=(Instr.yield i.b args'.toArray).run P w/\aU ρ args args'
section
variable {P:Program} {ρ:Ren} {W:XW} {w:World} {fr:XF} {e:Operand->Value}
theorem gv{S:Sem Value}{u:Value}{w':World}(h:S.run P w=.ok u w'):qj P (do pure (.value (<-S))) w u w':=.inl (by rw[abU,h];rfl)
theorem gu{S:Sem Unit}{w':World}(h:S.run P w=.ok () w'):qj P (do S;pure .skip) w undef w':=.inr ⟨by rw[abU,h];rfl,rfl⟩
theorem xv{S:Sem Value}{v u:Value}(h:S.run P w=.ok u w)(hv:VR ρ v u):cV P ρ W w (do pure (.value (<-S))) (.val (some v)):=⟨u,gv h,fun x q=>by cases q;exact hv⟩
theorem JO{S:Sem Value}{r:XR}(h:mt (ay P S)=some r):cV P ρ W w (do pure (.value (<-S))) r:=by
 cases q:ay P S with
 |none=>rw[q]at h;cases h
 |some v=>
  rw[q]at h;simp only[mt]at h;cases q2:cy v with
  |false=>rw[q2]at h;cases h
  |true=>rw[q2]at h;cases h;exact xv (jW q w) (.flat 8 _ q2)
theorem Jz{S:Sem Value}{o:Option Value}{r:XR}(h:rV o=some r)(hS:∀v,o=some v->∃u,S.run P w=.ok u w/\VR ρ v u):cV P ρ W w (do pure (.value (<-S))) r:=by
 cases q:o with
 |none=>rw[q]at h;cases h
 |some v=>
  rw[q]at h;cases h;obtain⟨u,h1,h2⟩:=hS v q;exact xv h1 h2
theorem pg:VR ρ undef undef:=.flat 1 _ rfl
theorem zh{S:Sem Value}{o:ah}{k:Nat->Value}{ob:Obj}{i:RI}{u:Value}(hH:HR P ρ W.get w)(hi:i.b=w.heap.size)(hS:S.run P w=.ok u (w.alloc ob))(ho:ρ W.next=none->OR P (eV ρ W.next i) i o ob)
 (hv:VR (eV ρ W.next i) (k W.next) u):cV P ρ W w (do pure (.value (<-S))) (.new o k):=fun hn=>by
 obtain⟨h1,h2⟩:=hH.push hn o ob i hi (ho hn);exact⟨u,_,_,gv hS,h2,h1,hv⟩
theorem Ad{n b z k r:Nat}:VR (eV ρ n ⟨b,0,z,k,r⟩) (.pointer (some ⟨n,0,none⟩)) (.pointer (some ⟨b,0,none⟩)):=by
 have:=VR.ptr (ρ:=eV ρ n ⟨b,0,z,k,r⟩) n 0 _ (cG _ _ _);simpa using this
theorem Aq{n b z k r len cap:Nat}(h:bd cap=false):VR (eV ρ n ⟨b,0,z,k,r⟩) (.slice (some ⟨n,0,none⟩) len cap) (.slice (some ⟨b,0,none⟩) len cap):=by
 have:=VR.slice (ρ:=eV ρ n ⟨b,0,z,k,r⟩) n 0 len cap _ (cG _ _ _) h;simpa using this
theorem BJ{e:TypeId}{c:List Value}{c':Array Value}{n b k:Nat}(hk:∀t,P.info? e=some t->t.size=k)(hn:ρ n=none)(hc:aU ρ c c'.toList):OR P (eV ρ n ⟨b,0,c'.size,k,c.length⟩) ⟨b,0,c'.size,k,c.length⟩ (.cells c e (0,0)) (.cells c' e (0,0)):=by
 have hl:=hc.length;refine OR.new hk ?_;rw[<-hl,List.take_length];exact hc.mono (gj _ hn)
def i6(P:Program)(e:TypeId):Nat:=(sz P e).getD 0
theorem jg{e:TypeId}:∀t,P.info? e=some t->t.size=i6 P e:=fun t h=>by simp[i6,sz,h]
theorem QO{el:TypeId}{v u:Value}{r:XR}(hH:HR P ρ W.get w)(hv:VR ρ v u)(h:Cy el (some v)=some r):cV P ρ W w (do pure (.value (<-Instr.box el u))) r:=by
 cases h;exact zh (i:=⟨w.heap.size,0,u.cells.size,i6 P el,v.cells.toList.length⟩) hH rfl (S:=Instr.box el u) (u:=.pointer (some ⟨w.heap.size,0,none⟩)) rfl (fun hn=>BJ jg hn hv.cells) Ad
theorem KT{el:TypeId}{r:XR}(hH:HR P ρ W.get w)(h:uF el (az P el)=some r):cV P ρ W w (do pure (.value (<-Instr.alloc el true (.tuple #[])))) r:=by
 cases q:az P el with
 |none=>rw[q]at h;cases h
 |some z=>
  rw[q]at h;cases h;obtain⟨_,_,_,hf⟩:=gd q;refine zh (i:=⟨w.heap.size,0,z.cells.size,i6 P el,z.cells.toList.length⟩) hH rfl (u:=.pointer (some ⟨w.heap.size,0,none⟩)) ?_ (fun hn=>BJ jg hn (VR.flat 8 z hf).cells) Ad;unfold Instr.alloc;rw[abU,gZ q];rfl
theorem B4:∀(l:List Value) (o k:Nat) (c:Array Value),((l.zipIdx k).foldl (fun cs (x,j)=>cs.setIfInBounds (o+j) x) c)=mf c (o+k) l
 |[],_,_,_=>rfl
 |v::l,o,k,c=>by
  rw[List.zipIdx_cons,List.foldl_cons,B4 l o (k+1),mf];rfl
theorem L8:∀(vs:List Value) (o:Nat) (c:List Value),o+vs.length<=c.length->(mf c.toArray o vs).toList=wr c o vs
 |vs,o,c,h=>by
  apply acN;intro j;rw[acr];rcases ab8 j o with q|q
  ·rw[li _ _ _ _ (.inl q)];unfold wr;rw[acz (by simp;omega),acw,if_pos q,List.getElem?_toArray]
  rcases ab8 j (o+vs.length)with q2|q2
  ·have:=u4 vs o c.toArray (j-o) (by simpa using h) (by omega);rw[show o+(j-o)=j by omega]at this;rw[this];unfold wr;rw[act (by simp;omega),acz (by simp;omega)];congr 1;simp;omega
  rw[li _ _ _ _ (.inr q2)];unfold wr;rw[act (by simp;omega),act (by simp;omega),acC,List.getElem?_toArray];congr 1;simp;omega
theorem Ve{c c' vs us:List Value}{o:Nat}(h:aU ρ c c')(hv:aU ρ vs us):aU ρ (wr c o vs) (wr c' o us):=by
 unfold wr;rw[hv.length];exact(h.take o).append (hv.append (h.drop _))
theorem tl{place:Nat->Option (Nat×Nat)}:∀{ps qs:List (Nat×Value)} {c c' cs:List Value},Gz ρ ps qs->aU ρ c c'->mi place c ps=some cs ->
 ∃cs':List Value,Instr.fill place c'.toArray qs=some cs'.toArray/\aU ρ cs cs'
 |_,_,c,c',cs,.nil,hc,h=>by cases h;exact⟨c',rfl,hc⟩
 |_,_,c,c',cs,.cons i v v' l l' hv hs,hc,h=>by
  unfold mi at h;cases hp:place i with
  |none=>rw[hp]at h;cases h
  |some q=>
   obtain⟨off,size⟩:=q;simp only[hp]at h;cases hq:(Nat.beq v.cells.size size&&Nat.ble (off+size) c.length)with
   |false=>rw[hq]at h;cases h
   |true=>
    rw[hq]at h;simp only[cond_true]at h;simp only[abZ]at hq;have h1:=abY hq.1;have h2:=Nat.le_of_ble_eq_true hq.2;have hvc:=hv.cells;have hl:=hvc.length;rw[acv,acv]at hl;have hl2:=hc.length;obtain⟨cs',r1,r2⟩:=tl hs (Ve (o:=off) hc hvc) h;refine⟨cs',?_,r2⟩;rw[<-r1];have e:=B4 v'.cells.toList off 0 c'.toArray;rw[Nat.add_zero]at e;have e2:=L8 v'.cells.toList off c' (by rw[acv];omega);have e3:v'.cells.zipIdx.foldl (fun cs (x,j)=>cs.setIfInBounds (off+j) x) c'.toArray=(v'.cells.toList.zipIdx 0).foldl (fun cs (x,j)=>cs.setIfInBounds (off+j) x) c'.toArray:=by rw[<-Array.foldl_toList,Array.toList_zipIdx]
    have e4:v'.cells.zipIdx.foldl (fun cs (x,j)=>cs.setIfInBounds (off+j) x) c'.toArray=(wr c' off v'.cells.toList).toArray:=by rw[e3,e];exact Array.ext' e2
    rw[Instr.fill];simp only[hp];rw[if_neg (by simp;omega)];exact congrArg (fun x=>Instr.fill place x l') e4
theorem yr:∀{l:List Field} {pl:List (Nat×Nat)},lE P l=some pl->(l.mapM (fun f=>(do pure (f.offset,<-sizeOf f.type):Sem (Nat×Nat)))).run P w=.ok pl w
 |[],pl,h=>by cases h;simp[List.mapM_nil]
 |f::l,pl,h=>by
  unfold lE at h;cases hs:sz P f.type with
  |none=>simp only[hs]at h;cases h
  |some s=>
   cases hr:lE P l with
   |none=>simp only[hs,hr]at h;cases h
   |some r=>
    simp only[hs,hr,Option.some.injEq]at h;subst h;simp only[List.mapM_cons,abU,dZ hs,ab0,abQ,yr hr]
theorem Ki{t:TypeId}{ps qs:List (Nat×Value)}{r:XR}(hp:Gz ρ ps qs)(h:Ci P t (some ps)=some r):cV P ρ W w (do pure (.value (<-Instr.build t qs.toArray))) r:=by
 refine Jz h fun v hv=>?_
 cases hz:az P t with
 |none=>rw[hz]at hv;cases hv
 |some z=>
  obtain⟨_,_,_,hf⟩:=gd hz;have hzc:=(VR.flat (ρ:=ρ) 8 z hf).cells;cases hu:P.underlying t with
  |none=>rw[hz,hu]at hv;cases hv
  |some d=>
   rw[hz,hu]at hv;cases d with
   |struct fs=>
    simp only[tS]at hv;cases hpl:lE P fs.toList with
    |none=>rw[hpl]at hv;cases hv
    |some pl=>
     rw[hpl]at hv;simp only[I3]at hv;cases hq:mi (fun(i:Nat)=>pl[i]?) z.cells.toList ps with
     |none=>rw[hq]at hv;cases hv
     |some cs=>
      rw[hq]at hv;cases hv;obtain⟨cs',r1,r2⟩:=tl hp hzc hq;refine⟨.agg cs'.toArray,?_,.agg _ _ r2⟩;have hm:(fs.mapM (fun f=>(do pure (f.offset,<-sizeOf f.type):Sem (Nat×Nat)))).run P w=.ok pl.toArray w:=by
       have e:fs=fs.toList.toArray:=by simp
       rw[e,List.mapM_toArray,map_eq_pure_bind];simp only[abU,yr hpl,abQ,ab0]
      have hpe:(fun x=>(pl.toArray)[x]?)=(fun(i:Nat)=>pl[i]?):=by funext x;rw[List.getElem?_toArray]
      simp only[Instr.build,abU,gZ hz,abQ,aI hu,hm];rw[hpe];simp only[acR]at r1;rw[r1];rfl
   |array n el=>
    simp only[tS]at hv;cases hs:sz P el with
    |none=>rw[hs]at hv;cases hv
    |some s=>
     rw[hs]at hv;simp only[HU]at hv;cases hq:mi (fun i=>some (i*s,s)) z.cells.toList ps with
     |none=>rw[hq]at hv;cases hv
     |some cs=>
      rw[hq]at hv;cases hv;obtain⟨cs',r1,r2⟩:=tl hp hzc hq;refine⟨.agg cs'.toArray,?_,.agg _ _ r2⟩;simp only[Instr.build,abU,gZ hz,abQ,aI hu,dZ hs];simp only[acR]at r1;rw[r1];rfl
   |_=>cases hv
theorem oD{z:List Value}:∀{n:Nat},(rep z n).length=n*z.length
 |0=>by simp[rep]
 |n+1=>by rw[rep,abP,oD,ac7];omega
theorem Hf{z:List Value}:∀{n j:Nat},j<n*z.length->(rep z n)[j]?=z[j%z.length]?
 |0,j,h=>by simp at h
 |n+1,j,h=>by
  rw[rep];rcases ab8 j z.length with q|q
  ·rw[acz q,Nat.mod_eq_of_lt q]
  rw[act q,Hf (by rw[ac7]at h;omega)];rw[Nat.mod_eq_sub_mod q]
theorem tE{z:Array Value}{n m:Nat}(hm:m=n*z.size):((Array.range m).map (z[·%z.size]!))=(rep z.toList n).toArray:=by
 subst hm;apply Array.ext';apply acN;intro j;rw[acr,Array.getElem?_map];rcases ab8 j (n*z.size)with q|q
 ·have h0:0<z.size:=by
   rcases adc z.size with h|h
   ·rw[h]at q;simp at q
   exact h
  have hm:=Nat.mod_lt j h0;rw[Hf (by rw[acv];exact q),acv,acr,acl hm];simp[q,hm]
 rw[ab9 (by simp[oD];exact q)];simp[q]
theorem uO{z:List Value}(h:aU ρ z z):∀n,aU ρ (rep z n) (rep z n)
 |0=>.nil
 |n+1=>h.append (uO h n)
theorem jR{n:Nat}(h:n<=16777216):bd n=false:=by
 unfold bd;cases q:Nat.ble 2305843009213693952 n with
 |false=>rfl
 |true=>have:=Nat.le_of_ble_eq_true q;omega
theorem Ah{t:TypeId}{n:Nat}{ps:List (Nat×Operand)}{r:XR}(hH:HR P ρ W.get w)(hE:Ev ρ fr e)(h:zO P fr n ps (P.underlying t)=some r) :
 cV P ρ W w (do pure (.value (<-Instr.buildSlice t n (ps.map fun(i,x)=>(i,e x)).toArray))) r:=by
 cases hu:P.underlying t with
 |none=>rw[hu]at h;cases h
 |some d=>
  rw[hu]at h;cases d with
  |slice el=>
   simp only[zO]at h;cases hs:sz P el with
   |none=>rw[hs]at h;cases h
   |some s=>
    cases hz:az P el with
    |none=>rw[hs,hz]at h;cases h
    |some z=>
     cases hp:evP fr ps with
     |none=>rw[hs,hz,hp]at h;cases h
     |some l=>
      rw[hs,hz,hp]at h;simp only[IJ]at h;obtain⟨i,hi,hiz,hf⟩:=gd hz;obtain⟨i',hi',his⟩:=y4 hs;have hzc:=(VR.flat (ρ:=ρ) 8 z hf).cells;cases hq:mi (fun i=>some (i*s,s)) (rep z.cells.toList n) l with
      |none=>rw[hq]at h;cases h
      |some cs=>
       rw[hq]at h;simp only[CB]at h;cases hb:(Nat.ble (n*s) 16777216&&Nat.beq (n*s) (n*z.cells.size)&&Nat.ble n 16777216)with
       |false=>rw[hb]at h;cases h
       |true=>
        rw[hb]at h;cases h;simp only[abZ]at hb;have hb1:=Nat.le_of_ble_eq_true hb.1.1;have hb2:=abY hb.1.2;have hb3:=Nat.le_of_ble_eq_true hb.2;obtain⟨cs',r1,r2⟩:=tl (hE.evP hp) (uO hzc n) hq;refine zh (i:=⟨w.heap.size,0,cs'.toArray.size,i6 P el,cs.length⟩) hH rfl (u:=.slice (some ⟨w.heap.size,0,none⟩) n n) ?_ (fun hn=>BJ jg hn (by simpa using r2)) (Aq (jR hb3));simp only[Instr.buildSlice,abU,aI hu,abQ,dZ hs];rw[if_neg (by omega)];by_cases h0:n*s=0
        ·rw[if_pos h0];have e0:∀z':Array Value,(Array.range (n*s)).map (z'[·%z'.size]!)=(rep z.cells.toList n).toArray:=fun z'=>by
          rw[h0];have:(rep z.cells.toList n)=[]:=ace (by rw[oD,acv];omega);rw[this];simp
         simp only[abU,ab0,abQ];rw[e0,r1];rfl
        rw[if_neg h0];simp only[abU,gZ hz,ab0,abQ];rw[tE hb2,r1];rfl
  |_=>cases h
theorem EW{t:TypeId}{r:Option Operand}{x:XR}(hH:HR P ρ W.get w)(hE:Ev ρ fr e)(h:C4 (jI fr r) (P.underlying t)=some x):cV P ρ W w (do pure (.value (<-Instr.makeMap t (r.map e)))) x:=by
 have key:∀S:Sem Value,S.run P w=.ok (.map (some w.heap.size)) (w.alloc (.map #[] 0))->cV P ρ W w (do pure (.value (<-S))) (.new (.map [] 0) fun n=>.map (some n)):=fun S hS=>
  zh (i:=⟨w.heap.size,0,0,0,0⟩) hH rfl hS (fun hn=>.map [] [] 0 .nil) (.map _ _ (cG _ _ _))
 cases r with
 |none=>
  cases h;exact key _ rfl
 |some x=>
  simp only[jI]at h;cases hx:ev fr x with
  |none=>rw[hx]at h;cases h
  |some v=>
   rw[hx]at h;cases v with
   |int k n=>
    cases hu:P.underlying t with
    |none=>rw[hu]at h;cases h
    |some d=>
     rw[hu]at h;cases d with
     |map a b=>
      cases h;have:=(hE x _ hx).int;refine key _ ?_;simp only[ach,Instr.makeMap,this,abU,aI hu,abQ];rfl
     |_=>cases h
   |_=>cases h
theorem BC{t:TypeId}{x y:Operand}{r:XR}(hH:HR P ρ W.get w)(hE:Ev ρ fr e)(h:Aj P (P.underlying t) (ev fr x) (ev fr y)=some r):cV P ρ W w (do pure (.value (<-Instr.makeSlice t (e x) (e y)))) r:=by
 cases hu:P.underlying t with
 |none=>rw[hu]at h;cases h
 |some d=>
  rw[hu]at h;cases d with
  |slice el=>
   cases hx:ev fr x with
   |none=>rw[hx]at h;cases h
   |some v=>
    cases hy:ev fr y with
    |none=>rw[hx,hy]at h;cases v<;>(try cases h);rename_i k n;cases k<;>cases n<;>cases h
    |some v'=>
     rw[hx,hy]at h;cases v with
     |int k n=>
      cases v' with
      |int k' n'=>
       cases k<;>(try cases h);cases n with
       |negSucc n=>cases h
       |ofNat l=>
        cases k'<;>(try cases h);cases n' with
        |negSucc n=>cases h
        |ofNat c=>
         simp only[Aj]at h;cases hi:P.info? el with
         |none=>rw[hi]at h;cases h
         |some i=>
          cases hz:az P el with
          |none=>rw[hi,hz]at h;cases h
          |some z=>
           rw[hi,hz]at h;simp only[zD]at h;cases hb:(Nat.ble l c&&Nat.ble (i.bytes*c) 1048576&&Nat.ble c 1048576&&Nat.beq i.size z.cells.size)with
           |false=>rw[hb]at h;cases h
           |true=>
            rw[hb]at h;cases h;simp only[abZ]at hb;have h1:=Nat.le_of_ble_eq_true hb.1.1.1;have h2:=Nat.le_of_ble_eq_true hb.1.1.2;have h3:=Nat.le_of_ble_eq_true hb.1.2;have h4:=abY hb.2;obtain⟨_,_,_,hf⟩:=gd hz;have hzc:=(VR.flat (ρ:=ρ) 8 z hf).cells;have ex:=(hE x _ hx).int;have ey:=(hE y _ hy).int;have hsz:sz P el=some i.size:=by unfold sz;rw[hi];rfl
            refine zh (i:=⟨w.heap.size,0,(rep z.cells.toList c).toArray.size,i6 P el,(rep z.cells.toList c).length⟩) hH rfl (u:=.slice (some ⟨w.heap.size,0,none⟩) l c) ?_
             (fun hn=>BJ jg hn (by simpa using uO hzc c)) (Aq (jR (by omega)))
            have wrap:∀n:Nat,n<=1048576->IntKind.i64.wrap (n:Int)=(n:Int):=fun n hn=>IntWalk.i64_in _ (by omega)
            have hbc:((i.bytes:Int)*(c:Int))=((i.bytes*c:Nat):Int):=by simp
            simp only[Instr.makeSlice,abU,aI hu,abQ,ex,ey,asInt,asIntOf,ab0,lm hi,acS,wrap l (by omega),wrap c h3,ab2];rw[if_neg (by
             simp only[acs,decide_eq_true_eq,not_or,Int.not_lt];rw[hbc];omega)]
            have hroom:(askRoom (c*i.bytes)).run P w=.ok () w:=by unfold askRoom;split<;>rfl
            simp only[abU,hroom,abQ,dZ hsz];by_cases h0:c*i.size=0
            ·rw[if_pos h0];have e0:∀z':Array Value,(Array.range (c*i.size)).map (z'[·%z'.size]!)=(rep z.cells.toList c).toArray:=fun z'=>by
              rw[h0];have:(rep z.cells.toList c)=[]:=ace (by rw[oD,acv,<-h4];omega);rw[this];simp
             simp only[abU,ab0,abQ];rw[e0];rfl
            rw[if_neg h0];simp only[abU,gZ hz,ab0,abQ];rw[tE (by rw[h4])];rfl
      |_=>cases k<;>cases n<;>cases h
     |_=>cases h
  |_=>cases h
end
section
variable {P:Program} {ρ:Ren} {W:XW} {w:World} {fr:XF} {e:Operand->Value}
theorem Nu{c a b:Operand}{r:XR}(hE:Ev ρ fr e)(h:yj fr a b (ev fr c)=some r):cV P ρ W w (do pure (.value (if <-asBool (e c)then e a else e b))) r:=by
 cases hc:ev fr c with
 |none=>rw[hc]at h;cases h
 |some v=>
  rw[hc]at h;cases v with
  |bool t=>
   cases h;have:=(hE c _ hc).bool;refine⟨if t then e a else e b,.inl ?_,fun x hx=>?_⟩
   ·rw[this];cases t<;>rfl
   cases t
   ·exact hE b x hx
   exact hE a x hx
  |_=>cases h
theorem mM(hH:HR P ρ W.get w){n:Nat}{i:RI}{c:List Value}{t:TypeId}{f:Nat×Nat}(hr:ρ n=some i)(hg:W.get n=some (.cells c t f)) :
 ∃c' f',w.heap[i.b]?=some (.cells c' t f')/\c'.size=i.z/\c.length=i.r/\(∀q,P.info? t=some q->q.size=i.k)/\i.s+i.r<=i.z/\vU ρ i.s c c':=by
 obtain⟨ob,h1,h2⟩:=hH.obj n i _ hr hg;cases h2 with
 |cells _ _ _ c' f' hz hrr hk hl hv hf hq=>exact⟨c',f',h1,hz,hrr,hk,hl,hv⟩
theorem AM{t:TypeId}{p q v:Value}(hH:HR P ρ W.get w)(hp:VR ρ p q)(h:jB P W t p=some v):∃a u,q=.pointer (some a)/\(loadVar t a).run P w=.ok u w/\VR ρ v u:=by
 cases p with
 |pointer a=>
  cases a with
  |none=>cases h
  |some a=>
   obtain⟨n,o,i,rfl,hr,rfl⟩:=hp.ptrSome;simp only[jB]at h;cases hg:W.get n with
   |none=>rw[hg]at h;cases h
   |some ob=>
    rw[hg]at h;cases ob with
    |cells c t' f=>
     obtain⟨c',f',h1,_,_,_,_,h2⟩:=mM hH hr hg;obtain⟨u,r1,r2⟩:=CE h1 h2 h;exact⟨_,u,rfl,r1,r2⟩
    |_=>cases h
 |func f cs cc=>
  cases f with
  |method nm=>
   obtain⟨_,_,b,off,c',e,fr,hB,rfl,hv⟩:=hp.fpInv;obtain⟨u,r1,r2⟩:=CE (hH.frz b _ hB).1 hv.row h;rw[Nat.zero_add]at r1;exact⟨_,u,rfl,r1,r2⟩
  |_=>cases h
 |_=>cases h
theorem MX{t:TypeId}{a:Operand}{r:XR}(hH:HR P ρ W.get w)(hE:Ev ρ fr e)(h:F5 P W t (ev fr a)=some r):cV P ρ W w (do pure (.value (<-Instr.loadAt t (e a)))) r:=by
 cases ha:ev fr a with
 |none=>rw[ha]at h;cases h
 |some p=>
  rw[ha]at h;refine Jz h fun v hv=>?_
  obtain⟨b,u,h1,h2,h3⟩:=AM hH (hE a p ha) hv;refine⟨u,?_,h3⟩;unfold Instr.loadAt;rw[h1,abU];exact h2
theorem Fy{t:Operand}{j:Nat}{r:XR}(hE:Ev ρ fr e)(h:HQ j (ev fr t)=some r):cV P ρ W w (do pure (.value (<-Instr.extract (e t) j))) r:=by
 cases ha:ev fr t with
 |none=>rw[ha]at h;cases h
 |some v=>
  rw[ha]at h;cases v with
  |tuple vs=>
   obtain⟨cs,h1,h2⟩:=(hE t _ ha).tupleInv;refine Jz h fun v hv=>?_
   obtain⟨u,r1,r2⟩:=h2.get j v hv;refine⟨u,?_,r2⟩;rw[h1];unfold Instr.extract;simp only[List.getElem?_toArray,r1];rfl
  |_=>cases h
theorem LX{t:TypeId}{x:Operand}{r:XR}(hE:Ev ρ fr e)(h:ui t (ev fr x) (P.underlying t)=some r):cV P ρ W w (do pure (.value (<-Instr.makeInterface t (e x)))) r:=by
 cases ha:ev fr x with
 |none=>rw[ha]at h;cases P.underlying t<;>cases h
 |some v=>
  cases hu:P.underlying t with
  |none=>rw[ha,hu]at h;cases h
  |some d=>
   rw[ha,hu]at h;have hv:=hE x v ha;cases d<;>first|cases h|skip
   all_goals
    refine xv (u:=.iface t (e x)) ?_ (.iface t _ _ hv);unfold Instr.makeInterface;rw[abU,aI hu];rfl
theorem oT{l:Array Operand}{vs:List Value}(hE:Ev ρ fr e)(h:evs fr l.toList=some vs):aU ρ vs (l.map e).toList:=by rw[Array.toList_map];exact hE.evs h
theorem D3{f:Fn}{a c:Array Operand}{r:XR}(hE:Ev ρ fr e)(h:Ih f (evs fr a.toList) (evs fr c.toList)=some r):cV P ρ W w (do pure (.value (<-Instr.makeFunc f (a.map e) (c.map e)))) r:=by
 cases ha:evs fr a.toList with
 |none=>rw[ha]at h;cases f<;>cases h
 |some xs=>
  cases hc:evs fr c.toList with
  |none=>rw[ha,hc]at h;cases f<;>cases h
  |some cs=>
   rw[ha,hc]at h;cases f<;>first|cases h|skip
   rename_i g;have h1:=oT hE ha;have h2:=oT hE hc;refine xv (u:=.func (.func g) (a.map e) (c.map e)) rfl ?_;have:=VR.func g xs cs _ _ h1 h2;rw[acR,acR]at this;exact this
theorem Dm{x:Operand}{r:XR}{S:Sem Next}(hS:∀a,e x=.pointer (some a)->S=pure (.value (e x)))(hE:Ev ρ fr e)(h:C8 (ev fr x)=some r):cV P ρ W w S r:=by
 cases ha:ev fr x with
 |none=>rw[ha]at h;cases h
 |some v=>
  rw[ha]at h;cases v with
  |pointer p=>
   cases p with
   |none=>cases h
   |some a=>
    cases h;have hv:=hE x _ ha;obtain⟨n,o,i,rfl,hr,hx⟩:=hv.ptrSome;rw[hS _ hx];exact⟨e x,.inl rfl,fun y hy=>by cases hy;exact hv⟩
  |func f cs cc=>
   cases f with
   |method nm=>
    cases h;have hv:=hE x _ ha;obtain⟨_,_,b,off,c',e',fr,hB,hx,_⟩:=hv.fpInv;rw[hS _ hx];exact⟨e x,.inl rfl,fun y hy=>by cases hy;exact hv⟩
   |_=>cases h
  |_=>cases h
theorem J6{t:TypeId}{x:Operand}{f:Nat}{r:XR}(hE:Ev ρ fr e)(h:Ew P f (P.underlying t) (ev fr x)=some r):cV P ρ W w (do pure (.value (<-Instr.field t (e x) f))) r:=by
 cases hu:P.underlying t with
 |none=>rw[hu]at h;cases h
 |some d=>
  rw[hu]at h;cases d with
  |struct fs=>
   cases ha:ev fr x with
   |none=>rw[ha]at h;cases h
   |some v=>
    rw[ha]at h;cases v with
    |agg cs=>
     simp only[Ew]at h;obtain⟨cs',h1,h2⟩:=(hE x _ ha).aggInv;cases hf:fs[f]? with
     |none=>rw[hf]at h;cases h
     |some fd=>
      rw[hf]at h;refine Jz h fun v hv=>?_
      obtain⟨u,r1,r2⟩:=B3 (w:=w) h2 hv;refine⟨u,?_,r2⟩;unfold Instr.field;rw[abU,aI hu,abQ];simp only[hf,h1,asAgg,abU,ab0,abQ];exact r1
    |_=>cases h
  |_=>cases h
theorem Bl{t:TypeId}{x:Operand}{f:Nat}{r:XR}(hE:Ev ρ fr e)(h:sR P f (P.underlying t) (ev fr x)=some r):cV P ρ W w (do pure (.value (<-Instr.fieldAt t (e x) f))) r:=by
 cases hu:P.underlying t with
 |none=>rw[hu]at h;cases h
 |some d=>
  rw[hu]at h;cases d with
  |struct fs=>
   cases ha:ev fr x with
   |none=>rw[ha]at h;cases h
   |some v=>
    rw[ha]at h;cases v with
    |pointer p=>
     cases p with
     |none=>cases h
     |some a=>
      obtain⟨n,o,i,rfl,hr,hx⟩:=(hE x _ ha).ptrSome;simp only[sR]at h;cases hf:fs[f]? with
      |none=>rw[hf]at h;cases h
      |some fd=>
       rw[hf]at h;simp only[yS]at h;cases hs:sz P fd.type with
       |none=>rw[hs]at h;cases h
       |some s=>
        rw[hs]at h;cases s with
        |zero=>cases h
        |succ s=>
         cases h;refine xv (u:=.pointer (some ⟨i.b,o+fd.offset+i.s,none⟩)) ?_ (.ptr _ _ _ hr);unfold Instr.fieldAt;rw[abU,aI hu,abQ];simp only[hf,hx,Instr.sureAddr,abU,ab0,abQ,fieldPlace,dZ hs];rw[if_neg (by omega)];rw[ab0,abQ,bX,show o+i.s+fd.offset=o+fd.offset+i.s by omega]
    |func q cs cc=>
     cases q with
     |method nm=>
      obtain⟨_,_,b,off,c',e',fr,hB,hx,hv⟩:=(hE x _ ha).fpInv;simp only[sR]at h;cases hf:fs[f]? with
      |none=>rw[hf]at h;cases h
      |some fd=>
       rw[hf]at h;simp only[yE]at h;cases hs:sz P fd.type with
       |none=>rw[hs]at h;cases h
       |some s=>
        rw[hs]at h;cases s with
        |zero=>cases h
        |succ s=>
         cases h;refine xv (u:=.pointer (some ⟨b,off+fd.offset,none⟩)) ?_ (.frp _ _ b (off+fd.offset) c' e' fr hB rfl (hv.piece _ _));unfold Instr.fieldAt;rw[abU,aI hu,abQ];simp only[hf,hx,Instr.sureAddr,abU,ab0,abQ,fieldPlace,dZ hs];rw[if_neg (by omega)];rw[ab0,abQ,bX]
     |_=>cases h
    |_=>cases h
  |_=>cases h
theorem Ka{S:Sem Value}{b o i n:Nat}{j:RI}{s:Option Nat}{r:XR}(hr:ρ b=some j)(h:m3 b o i n s=some r)(hS:∀k,s=some k->i<n->S.run P w=.ok (.pointer (some ⟨j.b,o+j.s+i*k,none⟩)) w) :
 cV P ρ W w (do pure (.value (<-S))) r:=by
 cases s with
 |none=>cases h
 |some k=>
  simp only[m3]at h;cases q:Nat.blt i n with
  |false=>rw[q]at h;cases h
  |true=>
   rw[q]at h;cases h;have hlt:i<n:=Nat.le_of_ble_eq_true q;refine xv (hS k rfl hlt) ?_;have:=VR.ptr b (o+i*k) j hr;rwa [show o+i*k+j.s=o+j.s+i*k by omega]at this
theorem GZ{S:Sem Value}{cs:List Value}{b off i n:Nat}{c':Array Value}{e':TypeId}{f':Nat×Nat}{s:Option Nat}{r:XR}(hB:ρ.fz b=some (.cells c' e' f'))(hv:aU ρ cs ((c'.toList.drop off).take cs.length))(h:qu cs i n s=some r)
 (hS:∀k,s=some k->i<n->S.run P w=.ok (.pointer (some ⟨b,off+i*k,none⟩)) w):cV P ρ W w (do pure (.value (<-S))) r:=by
 cases s with
 |none=>cases h
 |some k=>
  simp only[qu]at h;cases q:Nat.blt i n with
  |false=>rw[q]at h;cases h
  |true=>
   rw[q]at h;cases h;have hlt:i<n:=Nat.le_of_ble_eq_true q;exact xv (hS k rfl hlt) (.frp _ _ b _ c' e' f' hB rfl (hv.piece _ _))
theorem Bw{t:TypeId}{x y:Operand}{r:XR}(hE:Ev ρ fr e)(h:kY P (P.underlying t) (ev fr x) (ev fr y)=some r):cV P ρ W w (do pure (.value (<-Instr.indexAt t (e x) (e y)))) r:=by
 unfold kY at h;split at h
 ·rename_i n el nm cs cc k m hu hx hy;obtain⟨_,_,b,off,c',e',f',hB,hxe,hv⟩:=(hE x _ hx).fpInv;have hye:=(hE y _ hy).int;refine GZ hB hv h fun s hs hlt=>?_
  unfold Instr.indexAt;simp only[hye,hxe,asIntOf,abU,ab0,abQ,aI hu,Instr.sureAddr,dZ hs,acS];rw[if_pos (by omega)];simp only[abU,ab0,abQ,dZ hs,ab2,bX]
 ·rename_i el len nm cs cc k m hu hx hy;have hye:=(hE y _ hy).int;obtain⟨_,_,⟨b,off,cap,c',e',f',hB,hl,hxe,hv⟩|⟨_,rfl,_⟩⟩:=(hE x _ hx).fzInv
  ·refine GZ hB hv h fun s hs hlt=>?_
   unfold Instr.indexAt;simp only[hye,hxe,asIntOf,abU,ab0,abQ,aI hu,acS];rw[if_pos (by omega)];simp only[abU,ab0,abQ,dZ hs,ab2,bX]
  exfalso;unfold qu at h;split at h
  ·have:Nat.blt m 0=false:=xB (abW _);rw[this]at h;cases h
  cases h
 ·rename_i n el b o k m hu hx hy;obtain⟨i,hr,hxe⟩:=(hE x _ hx).ptrInv;have hye:=(hE y _ hy).int;refine Ka hr h fun s hs hlt=>?_
  unfold Instr.indexAt;simp only[hye,hxe,asIntOf,abU,ab0,abQ,aI hu,Instr.sureAddr,dZ hs,acS];rw[if_pos (by omega)];simp only[abU,ab0,abQ,dZ hs,ab2,bX]
 ·rename_i el b o len cap k m hu hx hy;have hye:=(hE y _ hy).int;have hne:len≠0:=fun e=>by
   subst e;unfold m3 at h;split at h
   ·rw[show Nat.blt m 0=false from xB (abW _)]at h;cases h
   cases h
  obtain⟨i,hr,hcase⟩:=(hE x _ hx).sliceInv (kj hne);refine Ka hr h fun s hs hlt=>?_
  have key:∃cap',e x=.slice (some ⟨i.b,o+i.s,none⟩) len cap':=by
   rcases hcase with⟨_,q⟩|⟨_,c,q,_⟩|⟨_,q,_⟩|⟨_,q,_⟩
   ·exact⟨_,q⟩
   ·exact⟨_,q⟩
   ·omega
   omega
  obtain⟨cap',hxe⟩:=key;unfold Instr.indexAt;simp only[hye,hxe,asIntOf,abU,ab0,abQ,aI hu,acS];rw[if_pos (by omega)];simp only[abU,ab0,abQ,dZ hs,ab2,bX]
 cases h
theorem Jp{t:TypeId}{x y:Operand}{r:XR}(hE:Ev ρ fr e)(h:wj P (P.underlying t) (ev fr x) (ev fr y)=some r):cV P ρ W w (do pure (.value (<-Instr.index t (e x) (e y)))) r:=by
 unfold wj at h;split at h
 ·rename_i n el cs k m hu hx hy;obtain⟨cs',h1,h2⟩:=(hE x _ hx).aggInv;have hye:=(hE y _ hy).int;cases hs:sz P el with
  |none=>rw[hs]at h;cases h
  |some s=>
   rw[hs]at h;simp only[CA]at h;cases q:Nat.blt m n with
   |false=>rw[q]at h;cases h
   |true=>
    rw[q]at h;have hlt:m<n:=Nat.le_of_ble_eq_true q;refine Jz h fun v hv=>?_
    obtain⟨u,r1,r2⟩:=B3 (w:=w) h2 hv;refine⟨u,?_,r2⟩;unfold Instr.index;simp only[hye,h1,asIntOf,abU,ab0,abQ,aI hu,acS];rw[if_pos (by omega)];simp only[abU,dZ hs,abQ,ab2];exact r1
 ·rename_i s k m hu hx hy;have hxe:=(hE x _ hx).str;have hye:=(hE y _ hy).int;cases hq:s.data.toList[m]? with
  |none=>rw[hq]at h;cases h
  |some b=>
   rw[hq]at h;cases h;have hsb:s[m]?=some b:=by have hlt:m<s.data.toList.length:=(List.getElem?_eq_some_iff.1 hq).1;rw[acv]at hlt;rw[acr]at hq;rw[getElem?_pos s m hlt];rw[getElem?_pos s.data m hlt]at hq;exact hq
   refine xv (u:=.int .u8 b.toNat) ?_ (.flat 1 _ rfl);unfold Instr.index;simp only[hye,hxe,asIntOf,abU,ab0,abQ,aI hu,acS];rw[if_pos (by omega),ab2,hsb];rfl
 cases h
theorem s7{a:Addr}{l c:Nat}{x:Value}(h:VR ρ (.slice (some a) l c) x)(hm:jL l c=false):∃b c',x=.slice (some b) l c':=by
 obtain⟨n,o,rfl⟩:=h.sliceAddr;obtain⟨i,_,h|h|h|h⟩:=h.sliceInv hm
 ·exact⟨_,_,h.2⟩
 ·obtain⟨_,c,e,_⟩:=h;exact⟨_,_,e⟩
 ·obtain⟨_,rfl,_,a,e⟩:=h;exact⟨_,_,e⟩
 obtain⟨_,rfl,a,e⟩:=h;exact⟨_,_,e⟩
theorem uu{f:FuncId}{xs cs:Array Value}{x:Value}(h:VR ρ (.func (.func f) xs cs) x):∃f' xs' cs',x=.func f' xs' cs':=by
 cases h with
 |flat k v h=>exact⟨_,_,_,rfl⟩
 |func f xs cs xs' cs' h1 h2=>exact⟨_,_,_,rfl⟩
theorem Ag{n:Nat}{nm:String}{xs cs:Array Value}{x:Value}(h:VR ρ (.func (.methodOf n nm) xs cs) x)(hn:Nat.beq n 0=false):∃a l c,x=.slice (some a) l c:=by
 obtain⟨_,_,⟨b,off,cap,c',e',f',_,_,h,_⟩|⟨_,rfl,a,c,h⟩⟩:=h.fzInv
 ·exact⟨_,_,_,h⟩
 cases hn
theorem zz{nm:String}{xs cs:Array Value}{x:Value}(h:VR ρ (.func (.method nm) xs cs) x):∃a,x=.pointer (some a):=by
 obtain⟨_,_,b,off,c',e',f',_,h,_⟩:=h.fpInv;exact⟨_,h⟩
theorem mP{c q:Bool}(h:(bif c then none else some false)=some q):c=false/\q=false:=by
 cases c<;>cases h;exact⟨rfl,rfl⟩
theorem Vf{t:TypeId}{a b x y:Value}{q:Bool}(h:vy P t a b=some q)(hx:VR ρ a x)(hy:VR ρ b y):(Op.equal t x y).run P w=.ok q w/\∀op X Y,(eqGuard op t X Y x y).run P w=.ok () w:=by
 have hg:∀op X Y,(match x,y with|.nilIface,.nilIface=>false|.agg _,.agg _=>false|_,_=>true)=true->(eqGuard op t X Y x y).run P w=.ok () w:=fun op X Y hh=>by
  unfold eqGuard;cases op<;>first|rfl|skip
  all_goals (revert hh;cases x<;>cases y<;>first|(intro _;rfl)|(intro hh;cases hh))
 unfold vy at h;split at h
 ·rename_i hu;cases h;obtain⟨n,o,i,rfl,_,rfl⟩:=hy.ptrSome;have:=hx.of_flat 1 rfl;subst this;refine⟨?_,fun op X Y=>hg op X Y rfl⟩;unfold Op.equal Op.maxDepth;rw[Op.equalIn,abU,aI hu];rfl
 ·rename_i hu;cases h;obtain⟨n,o,i,rfl,_,rfl⟩:=hx.ptrSome;have:=hy.of_flat 1 rfl;subst this;refine⟨?_,fun op X Y=>hg op X Y rfl⟩;unfold Op.equal Op.maxDepth;rw[Op.equalIn,abU,aI hu];rfl
 ·rename_i hu;cases h;obtain⟨v',rfl,_⟩:=hy.ifaceInv;have:=hx.of_flat 1 rfl;subst this;refine⟨?_,fun op X Y=>hg op X Y rfl⟩;unfold Op.equal Op.maxDepth;rw[Op.equalIn,abU,aI hu];rfl
 ·rename_i hu;cases h;obtain⟨v',rfl,_⟩:=hx.ifaceInv;have:=hy.of_flat 1 rfl;subst this;refine⟨?_,fun op X Y=>hg op X Y rfl⟩;unfold Op.equal Op.maxDepth;rw[Op.equalIn,abU,aI hu];rfl
 ·rename_i hu;obtain⟨hm,rfl⟩:=mP h;obtain⟨_,_,rfl⟩:=s7 hy hm;have:=hx.of_flat 1 rfl;subst this;refine⟨?_,fun op X Y=>hg op X Y rfl⟩;unfold Op.equal Op.maxDepth;rw[Op.equalIn,abU,aI hu];rfl
 ·rename_i hu;obtain⟨hm,rfl⟩:=mP h;obtain⟨_,_,rfl⟩:=s7 hx hm;have:=hy.of_flat 1 rfl;subst this;refine⟨?_,fun op X Y=>hg op X Y rfl⟩;unfold Op.equal Op.maxDepth;rw[Op.equalIn,abU,aI hu];rfl
 ·rename_i hu;cases h;obtain⟨i,_,rfl⟩:=hy.mapInv;have:=hx.of_flat 1 rfl;subst this;refine⟨?_,fun op X Y=>hg op X Y rfl⟩;unfold Op.equal Op.maxDepth;rw[Op.equalIn,abU,aI hu];rfl
 ·rename_i hu;cases h;obtain⟨i,_,rfl⟩:=hx.mapInv;have:=hy.of_flat 1 rfl;subst this;refine⟨?_,fun op X Y=>hg op X Y rfl⟩;unfold Op.equal Op.maxDepth;rw[Op.equalIn,abU,aI hu];rfl
 ·rename_i hu;cases h;obtain⟨_,_,_,rfl⟩:=uu hy;have:=hx.of_flat 1 rfl;subst this;refine⟨?_,fun op X Y=>hg op X Y rfl⟩;unfold Op.equal Op.maxDepth;rw[Op.equalIn,abU,aI hu];rfl
 ·rename_i hu;cases h;obtain⟨_,_,_,rfl⟩:=uu hx;have:=hy.of_flat 1 rfl;subst this;refine⟨?_,fun op X Y=>hg op X Y rfl⟩;unfold Op.equal Op.maxDepth;rw[Op.equalIn,abU,aI hu];rfl
 ·rename_i hu;obtain⟨hm,rfl⟩:=mP h;obtain⟨_,_,_,rfl⟩:=Ag hy hm;have:=hx.of_flat 1 rfl;subst this;refine⟨?_,fun op X Y=>hg op X Y rfl⟩;unfold Op.equal Op.maxDepth;rw[Op.equalIn,abU,aI hu];rfl
 ·rename_i hu;obtain⟨hm,rfl⟩:=mP h;obtain⟨_,_,_,rfl⟩:=Ag hx hm;have:=hy.of_flat 1 rfl;subst this;refine⟨?_,fun op X Y=>hg op X Y rfl⟩;unfold Op.equal Op.maxDepth;rw[Op.equalIn,abU,aI hu];rfl
 ·rename_i hu;cases h;obtain⟨_,rfl⟩:=zz hy;have:=hx.of_flat 1 rfl;subst this;refine⟨?_,fun op X Y=>hg op X Y rfl⟩;unfold Op.equal Op.maxDepth;rw[Op.equalIn,abU,aI hu];rfl
 ·rename_i hu;cases h;obtain⟨_,rfl⟩:=zz hx;have:=hy.of_flat 1 rfl;subst this;refine⟨?_,fun op X Y=>hg op X Y rfl⟩;unfold Op.equal Op.maxDepth;rw[Op.equalIn,abU,aI hu];rfl
 cases h
def Gv:Value->Bool
 |.int _ _=>false
 |.float _ _=>false
 |.complex _ _ _=>false
 |.string _=>false
 |_=>true
theorem AX{t:TypeId}{x y:Value}{q:Bool}(hx:Gv x=true)(h:(Op.equal t x y).run P w=.ok q w) :
 (Go.binOp .eql t x y).run P w=.ok (.bool q) w/\(Go.binOp .neq t x y).run P w=.ok (.bool (!q)) w:=by
 constructor
 ·have:Go.binOp .eql t x y=(do pure (.bool (<-Op.equal t x y))):=by
   cases x<;>first|(exact absurd hx acf)|(cases y<;>rfl)
  rw[this,abU,h];rfl
 have:Go.binOp .neq t x y=(do pure (.bool (!(<-Op.equal t x y)))):=by cases x<;>first|(exact absurd hx acf)|(cases y<;>rfl)
 rw[this,abU,h];rfl
theorem KZ{t:TypeId}{a b x:Value}{q:Bool}(h:vy P t a b=some q)(hx:VR ρ a x):Gv x=true:=by
 unfold vy at h;have hf:∀{v u:Value},VR ρ v u->aX 1 v=true->u=v:=fun h e=>h.of_flat 1 e
 split at h
 ·rw[hf hx rfl];rfl
 ·obtain⟨n,o,i,rfl,_,rfl⟩:=hx.ptrSome;rfl
 ·rw[hf hx rfl];rfl
 ·obtain⟨v',rfl,_⟩:=hx.ifaceInv;rfl
 ·rw[hf hx rfl];rfl
 ·obtain⟨_,_,rfl⟩:=s7 hx (mP h).1;rfl
 ·rw[hf hx rfl];rfl
 ·obtain⟨i,_,rfl⟩:=hx.mapInv;rfl
 ·rw[hf hx rfl];rfl
 ·obtain⟨_,_,_,rfl⟩:=uu hx;rfl
 ·rw[hf hx rfl];rfl
 ·obtain⟨_,_,_,rfl⟩:=Ag hx (mP h).1;rfl
 ·rw[hf hx rfl];rfl
 ·obtain⟨_,rfl⟩:=zz hx;rfl
 cases h
theorem R0{op:BinOp}{t:TypeId}{x y:Operand}{r:XR}(hE:Ev ρ fr e)(h:dH P op t x y (ev fr x) (ev fr y)=some r) :
 cV P ρ W w (do pure (.value (<-(do eqGuard op t x y (e x) (e y);Go.binOp op t (e x) (e y))))) r:=by
 unfold dH at h;split at h
 ·rename_i a b hx hy;have h1:=hE x _ hx;have h2:=hE y _ hy;cases hq:(cy a&&cy b)with
  |true=>
   rw[hq]at h;simp only[abZ]at hq;rw[h1.flatEq hq.1,h2.flatEq hq.2];exact JO h
  |false=>
   rw[hq]at h;simp only[cond_false]at h;cases hr:vy P t a b with
   |none=>rw[hr]at h;cases op<;>cases h
   |some q=>
    rw[hr]at h;obtain⟨h3,h4⟩:=Vf (w:=w) hr h1 h2;obtain⟨h5,h6⟩:=AX (KZ hr h1) h3;cases op<;>first|cases h|skip
    ·refine xv (u:=.bool q) ?_ (.flat 1 _ rfl);rw[abU,h4 .eql x y];exact h5
    refine xv (u:=.bool (!q)) ?_ (.flat 1 _ rfl);rw[abU,h4 .neq x y];exact h6
 cases h
theorem UY{op:UnOp}{x:Operand}{r:XR}(hE:Ev ρ fr e)(h:Ao P op (ev fr x)=some r):cV P ρ W w (do pure (.value (<-Op.unary op (e x)))) r:=by
 cases hx:ev fr x with
 |none=>rw[hx]at h;cases h
 |some a=>
  rw[hx]at h;simp only[Ao]at h;cases hq:cy a with
  |false=>rw[hq]at h;cases h
  |true=>
   rw[hq]at h;rw[(hE x _ hx).flatEq hq];exact JO h
end
section
variable {P:Program} {ρ:Ren} {W:XW} {w:World} {fr:XF} {e:Operand->Value}
theorem As{n b z k r len cap cap':Nat}(hc:bd cap=true)(hl:len<=cap')(hr:r<=cap'*k)(hz:cap'*k<=z):VR (eV ρ n ⟨b,0,z,k,r⟩) (.slice (some ⟨n,0,none⟩) len cap) (.slice (some ⟨b,0,none⟩) len cap'):=by
 have:=VR.sliceO (ρ:=eV ρ n ⟨b,0,z,k,r⟩) n 0 len cap cap' _ (cG _ _ _) hc hl (by simpa using hr) (by simpa using hz);simpa using this
theorem Nf{n b z k r len cap':Nat}(hl:len<=cap')(hr:r<=cap'*k)(hz:cap'*k<=z):VR (eV ρ n ⟨b,0,z,k,r⟩) (.slice (some ⟨n,0,none⟩) len bf) (.slice (some ⟨b,0,none⟩) len cap'):=As rfl hl hr hz
theorem NX(l:List UInt8):aU ρ (an l) (an l):=by
 induction l with
 |nil=>exact .nil
 |cons b l ih=>exact .cons _ _ _ _ (.flat 1 _ rfl) ih
theorem VG{l:List UInt8}{m:List Value}(h:aU ρ (an l) m):m=an l:=h.of_flat 1 fun u hu=>by
 simp only[an,List.mem_map]at hu;obtain⟨x,_,rfl⟩:=hu;rfl
theorem sM:∀{l:List Value} {bs:List UInt8},eJ l=some bs->l=an bs
 |[],bs,h=>by cases h;rfl
 |v::l,bs,h=>by
  unfold eJ at h;split at h
  ·rename_i n;cases hr:eJ l with
   |none=>rw[hr]at h;cases h
   |some r=>
    rw[hr]at h;simp only[pJ]at h;cases q:Nat.blt n 256 with
    |false=>rw[q]at h;cases h
    |true=>
     rw[q]at h;cases h;have hlt:n<256:=Nat.le_of_ble_eq_true q;rw[sM hr];show _=bv (UInt8.ofNat n)::an r;unfold bv;have:(UInt8.ofNat n).toNat=n:=by simp;omega
     rw[this];rfl
  cases h
theorem ln{s n:Nat}{x u:Value}{src:List Value}(hH:HR P ρ W.get w)(hx:VR ρ x u)(h:fE W s n x=some src)(hn:∀m,pE x=some m->n<=m) :
 ∃us:List Value,(Builtin.firstCells s n u).run P w=.ok us.toArray w/\aU ρ src us/\us.length=src.length/\(∀ad l c,u=.slice (some ad) l c->∀j v,us[j]?=some v->w.cell? (ad.add j)=some v)/\(∀a l c,x=.slice a l c->src.length=n*s):=by
 unfold fE at h;split at h
 ·rename_i len cap;have:=hx.of_flat 1 rfl;subst this;cases q:Nat.beq n 0 with
  |false=>rw[q]at h;cases h
  |true=>
   rw[q]at h;cases h;refine⟨[],rfl,.nil,rfl,?_,?_⟩
   ·intro _ _ _ h;cases h
   intro _ _ _ _;rw[abY q];simp
 ·rename_i b o len cap;cases q:Nat.beq n 0 with
  |true=>
   rw[q]at h;cases h;have:=abY q;subst this;obtain⟨c,c',rfl⟩:=hx.sliceLen;refine⟨[],?_,.nil,rfl,fun _ _ _ _ j v hv=>by simp at hv,fun _ _ _ _=>by simp⟩;unfold Builtin.firstCells
   rw[acH];cases c<;>rfl
  |false=>
   rw[q]at h;simp only[cond_false]at h;have hn0:n≠0:=fun e=>by subst e;cases q
   split at h
   ·rename_i c t f hg;cases q2:Nat.beq ((c.drop o).take (n*s)).length (n*s)with
    |false=>rw[q2]at h;cases h
    |true=>
     rw[q2]at h;cases h;have hl0:len≠0:=fun e=>by have:=hn len rfl;omega
     obtain⟨i,hr,hcase⟩:=hx.sliceInv (kj hl0);have key:∃cap',u=.slice (some ⟨i.b,o+i.s,none⟩) len cap':=by
      rcases hcase with⟨_,q⟩|⟨_,c,q,_⟩|⟨_,q,_⟩|⟨_,q,_⟩
      ·exact⟨_,q⟩
      ·exact⟨_,q⟩
      ·have:=hn len rfl;omega
      have:=hn len rfl;omega
     obtain⟨cap',rfl⟩:=key;obtain⟨c',f',h1,_,_,_,_,h2⟩:=mM hH hr hg;obtain⟨us,r1,r2,r3⟩:=h2.part o (n*s) (abY q2);have hcell:∀j v,us[j]?=some v->w.cell? ((⟨i.b,o+i.s,none⟩:Addr).add j)=some v:=fun j v hv=>by rw[bX,bm h1,acy o];exact r3 j v hv
     refine⟨us,?_,r2,r2.length,fun ad l c hq=>by cases hq;exact hcell,fun _ _ _ _=>abY q2⟩;unfold Builtin.firstCells
     rw[<-r1];exact run_loadCells_list w _ us hcell
   cases h
 ·rename_i t;have:=hx.str;subst this;cases h;refine⟨(t.data.toList.map fun b=>Value.int .u8 b.toNat).take n,?_,(NX t.data.toList).take n,rfl,(by intro _ _ _ h;cases h),(by intro _ _ _ h;cases h)⟩;have hm:=hn t.size rfl;have:((t.extract 0 n).data.map fun b=>Value.int .u8 (b.toNat:Int))=((t.data.toList.map fun b=>Value.int .u8 (b.toNat:Int)).take n).toArray:=by
   apply Array.ext';rw[Array.toList_map];simp[List.map_take,ByteArray.data_extract]
  show Result.ok _ w=_;rw[this]
 ·rename_i len nm cs cc;have hm:=hn len rfl;cases q2:Nat.beq (cs.toList.take (n*s)).length (n*s)with
  |false=>simp only[q2]at h;cases h
  |true=>
   simp only[q2]at h;cases h;obtain⟨_,_,⟨b,off,cap,c',e',f',hB,hl,rfl,hv⟩|⟨rfl,rfl,a,cap,rfl⟩⟩:=hx.fzInv
   ·have h1:=(hH.frz b _ hB).1;obtain⟨us,r1,r2,r3⟩:=hv.row.part 0 (n*s) (by rw[List.drop_zero];exact abY q2);rw[List.drop_zero]at r2;have hcell:∀j v,us[j]?=some v->w.cell? ((⟨b,off,none⟩:Addr).add j)=some v:=fun j v hv=>by rw[bX,bm h1];have:=r3 j v hv;rwa [Nat.add_zero]at this
    refine⟨us,?_,r2,r2.length,fun ad l c hq=>by cases hq;exact hcell,by intro _ _ _ h;cases h⟩;unfold Builtin.firstCells
    rw[<-r1];exact run_loadCells_list w _ us hcell
   have:n=0:=by omega
   subst this;refine⟨[],?_,by simpa using aU.nil,by simp,fun _ _ _ _ j v hv=>by simp at hv,by intro _ _ _ h;cases h⟩;unfold Builtin.firstCells
   rw[acH];cases a<;>rfl
 cases h
theorem Hn{x u:Value}{n:Nat}(hx:VR ρ x u)(h:pE x=some n):(Builtin.lenOf u).run P w=.ok n w:=by
 unfold pE at h;split at h
 ·cases h;obtain⟨a',c',rfl⟩:=hx.sliceLen;rfl
 ·cases h;have:=hx.str;subst this;rfl
 ·cases h;obtain⟨_,_,⟨b,off,cap,c',e',f',_,_,rfl,_⟩|⟨_,rfl,a,c,rfl⟩⟩:=hx.fzInv<;>rfl
 cases h
theorem Fs{s d:TypeId}{x:Operand}{r:XR}(hH:HR P ρ W.get w)(hE:Ev ρ fr e)(h:jp P W s d (ev fr x) (P.underlying s) (P.underlying d)=some r):cV P ρ W w (do pure (.value (<-Go.convert s d (e x)))) r:=by
 unfold jp at h;split at h
 ·rename_i el hs hd;unfold rY at h;split at h
  ·rename_i t hx he hz;cases h;have hxe:=(hE x _ hx).str;rw[hxe];intro hn;have hrun:=Lib.run_convert_string_bytes (P:=P) w s d el t hs hd he;have hge:t.size<=grownCap w t.size 0 el:=grownCap_ge w t.size 0 el;have hcs:(Lib.bytesCells w el t).size=grownCap w t.size 0 el:=by
    unfold Lib.bytesCells;rw[Array.size_append,Array.size_map,Array.size_replicate];show t.size+_=_;omega
   have hk:i6 P el=1:=by unfold i6;rw[hz];rfl
   have hsz:=Lib.bytesWorld_size w el t;have hnew:=Lib.bytesWorld_at_new w el t;have hlen:t.data.toList.length=t.size:=acv;have hkk:ak aO w (Lib.bytesWorld w el t):=⟨rfl,rfl,rfl,by omega,fun k hk _=>Lib.bytesWorld_at_old w el t k hk⟩;obtain⟨q1,q2⟩:=hH.pushK hn (.cells (t.data.toList.map fun b=>Value.int .u8 b.toNat) el (1,1)) _ ⟨w.heap.size,0,(Lib.bytesCells w el t).size,i6 P el,(t.data.toList.map fun b=>Value.int .u8 b.toNat).length⟩ hkk hnew rfl (by
    refine .cells _ _ _ _ _ rfl rfl jg (by simp only[ab1,hlen];omega) (fun j v hj=>?_) (fun j hj h1 h2=>?_) ⟨acU _,fun h=>absurd h (by simp)⟩ (Nat.zero_mod _)
    ·refine⟨v,?_,?_⟩
     ·show(Lib.bytesCells w el t)[0+j]?=_;have hj':j<(t.data.map fun b=>Value.int .u8 (b.toNat:Int)).size:=by
       have:=(List.getElem?_eq_some_iff.1 hj).1;rw[Array.size_map];simpa[hlen]using this
      unfold Lib.bytesCells;rw[Nat.zero_add,Array.getElem?_append_left hj',<-hj,<-acr,Array.toList_map]
     obtain⟨x,_,rfl⟩:=List.mem_map.1 (acq hj);exact .flat 1 _ rfl
    exfalso;simp only at hj h1;omega)
   refine⟨_,_,_,gv hrun,q2,q1,Nf hge ?_ ?_⟩
   ·rw[hk,ab1,hlen];omega
   rw[hk,hcs];omega
  cases h
 ·rename_i el hs hd;unfold pc at h;split at h
  ·rename_i a n c hx he;cases hsrc:fE W 1 n (.slice a n c)with
   |none=>rw[hsrc]at h;cases h
   |some l=>
    rw[hsrc]at h;simp only[ye]at h;cases hb:eJ l with
    |none=>rw[hb]at h;cases h
    |some bs=>
     rw[hb]at h;cases h;have hl:=sM hb;subst hl;obtain⟨us,h1,h2,h3,h4,h5⟩:=ln hH (hE x _ hx) hsrc (fun m hm=>by cases hm;exact Nat.le_refl _);have hu:=VG h2;subst hu;refine xv (u:=.string (str bs)) ?_ (.flat 1 _ rfl);rw[bE]at h3;obtain⟨a',c',hxe⟩:=(hE x _ hx).sliceLen;rw[hxe]at h1 ⊢;have hlen:bs.length=n:=by have:=h5 _ _ _ rfl;rwa [bE,Nat.mul_one]at this
     refine n8 w s d el a' n c' bs hs he hd hlen.symm fun h0=>?_
     cases a' with
     |none=>unfold Builtin.firstCells at h1;cases bs with|nil=>simp at h0|cons _ _=>cases h1
     |some ad=>
      refine⟨ad,rfl,fun j hj=>h4 ad n c' hxe j _ ?_⟩;simp[an,hj]
  cases h
 ·rename_i q1 q2 hs hd;unfold rF at h;split at h
  ·rename_i a hx;cases hq:cy a with
   |false=>rw[hq]at h;cases h
   |true=>
    rw[hq]at h;rw[(hE x _ hx).flatEq hq];exact JO h
  cases h
 cases h
end
section
variable {P:Program} {ρ:Ren} {W:XW} {w:World} {fr:XF} {e:Operand->Value}
theorem J8{t:TypeId}{a x:Operand}{r:XR}(hH:HR P ρ W.get w)(hE:Ev ρ fr e)(h:vq W (ev fr a) (ev fr x) (sz P t)=some r):cV P ρ W w (do Instr.storeAt t (e a) (e x);pure .skip) r:=by
 unfold vq at h;split at h
 ·rename_i n o v s ha hx hs;cases hq:Nat.beq v.cells.size s with
  |false=>rw[hq]at h;cases h
  |true=>
   rw[hq]at h;simp only[cond_true]at h;cases hst:eI W n o v.cells.toList with
   |none=>rw[hst]at h;cases h
   |some W'=>
    rw[hst]at h;cases h;intro _;obtain⟨i,hr,hae⟩:=(hE a _ ha).ptrInv;have hc:=(hE x _ hx).cells;obtain⟨h1,h2,h3⟩:=l6 hH hr hst hc;have hl:=hc.length;rw[acv,acv]at hl;refine⟨undef,ρ,_,gu ?_,h3,h2,pg⟩;unfold Instr.storeAt;rw[hae];simp only[Instr.sureAddr,abU,ab0,abQ,storeVar,dZ hs];rw[if_neg (by rw[hl,abY hq];simp)];exact h1
 cases h
theorem j9{d m:Nat}{x:Option Operand}{n:Nat}(hE:Ev ρ fr e)(h:cR fr d x=some n):(x=none/\n=d)\/∃y k,x=some y/\e y=.int k (n:Int):=by
 unfold cR at h;split at h
 ·cases h;exact .inl ⟨rfl,rfl⟩
 rename_i y;split at h
 ·rename_i k n' hy;cases h;exact .inr ⟨y,k,rfl,(hE y _ hy).int⟩
 cases h
theorem gR{x:Value}{k:IntKind}{n y:Nat}{c:BoundsCode}(hx:x=.int k (n:Int))(hl:n<=y):(Instr.sliceBound x y c).run P w=.ok n w:=by
 subst hx;unfold Instr.sliceBound;rw[abU,show(asIntOf (.int k (n:Int))).run P w=.ok (k,(n:Int)) w from rfl,abQ];show(if 0<=(n:Int)/\(n:Int)<=(y:Int)then(pure (n:Int).toNat:Sem Nat)else boundsPanic k (n:Int) y c).run P w=_;rw[if_pos (by omega),ab2];rfl
theorem fA{sl:Bool}{len cap l h:Nat}{lo hi:Option Operand}(hE:Ev ρ fr e)(h1:cR fr 0 lo=some l)(h2:cR fr len hi=some h)(hl:l<=h)(hh:h<=cap) :
 (Instr.sliceBounds sl len cap (lo.map e) (hi.map e) none).run P w=.ok (l,h,cap) w:=by
 unfold Instr.sliceBounds;rcases j9 (m:=0) hE h1 with⟨rfl,rfl⟩|⟨y,k,rfl,hy⟩
 ·rcases j9 (m:=0) hE h2 with⟨rfl,rfl⟩|⟨z,k2,rfl,hz⟩
  ·rfl
  simp only[acA,ach,abU,ab0,abQ,gR hz hh]
 rcases j9 (m:=0) hE h2 with⟨rfl,rfl⟩|⟨z,k2,rfl,hz⟩
 ·simp only[acA,ach,abU,ab0,abQ,gR hy hl]
 simp only[acA,ach,abU,ab0,abQ,gR hz hh,gR hy hl]
theorem Fq{len cap l h m:Nat}{lo hi:Option Operand}{mx:Operand}(hE:Ev ρ fr e)(h1:cR fr 0 lo=some l)(h2:cR fr len hi=some h)(h3:cR fr 0 (some mx)=some m)(hs:hi.isSome=true)(hl:l<=h)(hh:h<=m)(hm:m<=cap) :
 (Instr.sliceBounds true len cap (lo.map e) (hi.map e) (some (e mx))).run P w=.ok (l,h,m) w:=by
 unfold Instr.sliceBounds;rcases j9 (m:=0) hE h3 with⟨q,_⟩|⟨u,k0,q,hu⟩
 ·cases q
 cases q;rcases j9 (m:=0) hE h2 with⟨rfl,rfl⟩|⟨z,k2,rfl,hz⟩
 ·cases hs
 rcases j9 (m:=0) hE h1 with⟨rfl,rfl⟩|⟨y,k,rfl,hy⟩
 ·simp only[acA,ach,abU,ab0,abQ,gR hz hh,gR hu hm]
 simp only[acA,ach,abU,ab0,abQ,gR hz hh,gR hu hm,gR hy hl]
theorem LL{t:TypeId}{x:Operand}{lo hi mx:Option Operand}{r:XR}(hH:HR P ρ W.get w)(hE:Ev ρ fr e)(h:uq P fr W t lo hi mx (ev fr x)=some r) :
 cV P ρ W w (do pure (.value (<-Instr.sliceAt t (e x) (lo.map e) (hi.map e) (mx.map e)))) r:=by
 unfold uq at h;split at h
 ·rename_i v hx;have hv:=hE x _ hx;unfold ir at h;split at h
  ·
   rename_i hu;split at h
   ·rename_i s;have hxe:=hv.str;unfold PW at h;split at h
    ·rename_i l hh h1 h2;cases q:(Nat.ble l hh&&Nat.ble hh s.size)with
     |false=>rw[q]at h;cases h
     |true=>
      rw[q]at h;cases h;simp only[abZ]at q;refine xv (u:=.string (s.extract l hh)) ?_ (.flat 1 _ rfl);unfold Instr.sliceAt;simp only[abU,aI hu,abQ,Instr.slice,hxe];simp only[acA,Option.isSome_none,Bool.false_eq_true,if_false,abU,ab0,abQ,fA hE h1 h2 (Nat.le_of_ble_eq_true q.1) (Nat.le_of_ble_eq_true q.2)]
    cases h
   cases h
  ·
   rename_i el hu;split at h
   ·rename_i a len cap;have base:∀a' cap',e x=.slice a' len cap'->∀l hh m,(Instr.sliceBounds true len cap' (lo.map e) (hi.map e) (mx.map e)).run P w=.ok (l,hh,m) w->∀s,sz P el=some s ->
     (Instr.sliceAt t (e x) (lo.map e) (hi.map e) (mx.map e)).run P w=.ok (.slice (if m=l then a' else a'.map (·.add (l*s))) (hh-l) (m-l)) w:=fun a' cap' hxe l hh m hb s hs=>by
     unfold Instr.sliceAt;simp only[abU,aI hu,abQ,Instr.slice,hxe,hb,dZ hs,ab0]
    have capLow:∀c l,bd c=false->bd (c-l)=false:=fun c l hc=>by
     unfold bd at hc ⊢;cases q:Nat.ble 2305843009213693952 (c-l)with
     |false=>rfl
     |true=>
      have q1:=Nat.le_of_ble_eq_true q;have:Nat.ble 2305843009213693952 c=true:=acX (by omega);rw[this]at hc;cases hc
    split at h
    ·
     unfold LD at h;split at h
     ·rename_i s l hh hs h1 h2;cases q:(kg W cap el a&&Nat.ble l hh&&Nat.ble hh len&&(bd cap||Nat.ble len cap)&&(Nat.beq len 0||Nat.blt 0 s))with
      |false=>rw[q]at h;cases h
      |true=>
       rw[q]at h;cases h;simp only[abZ,acs]at q;obtain⟨⟨⟨⟨q1,q2⟩,q3⟩,q4⟩,q5⟩:=q;have q2:=Nat.le_of_ble_eq_true q2;have q3:=Nat.le_of_ble_eq_true q3;cases a with
       |none=>
        have hxe:=hv.of_flat 1 rfl;have hc:bd cap=false:=by simpa[kg]using q1
        rw[hc]at q4;have q4:=Nat.le_of_ble_eq_true (q4.resolve_left acf);refine xv (base _ _ hxe l hh cap (fA hE h1 h2 q2 (by omega)) s hs) ?_;rw[hc];have:(if cap=l then none else(none:Option Addr).map (·.add (l*s)))=none:=by split<;>rfl
        rw[this];have:(bif !false&&Nat.beq cap l then(none:Option Addr)else Av none (l*s))=none:=by cases Nat.beq cap l<;>rfl
        rw[this];exact .flat 1 _ rfl
       |some a=>
        obtain⟨n,o,rfl⟩:=hv.sliceAddr;obtain⟨rfl,rfl,hxe⟩|⟨i,hr,hcase⟩:=hv.sliceOr
        ·have e1:hh=0:=by omega
         have e2:l=0:=by omega
         subst e1;subst e2;refine xv (base _ _ hxe 0 0 0 (fA hE h1 h2 (Nat.le_refl _) (Nat.le_refl _)) s hs) ?_;exact .sliceN _ _
        rcases hcase with⟨hc,hxe⟩|⟨hc,cap',hxe,g1,g2,g3⟩|⟨hc,g1,g2,a',hxe⟩|⟨hc,g1,a',hxe⟩
        ·rw[hc]at q4;have q4:=Nat.le_of_ble_eq_true (q4.resolve_left acf);refine xv (base _ _ hxe l hh cap (fA hE h1 h2 q2 (by omega)) s hs) ?_;rw[hc];by_cases hcl:cap=l
         ·rw[if_pos hcl,show Nat.beq cap l=true by rw[hcl];exact acb l];exact .slice _ _ _ _ i hr (capLow _ _ hc)
         rw[if_neg hcl,gz hcl];have:=VR.slice n (o+l*s) (hh-l) (cap-l) i hr (capLow _ _ hc);rw[show o+l*s+i.s=o+i.s+l*s by omega]at this;rw[ach,bX];exact this
        ·have hk:s=i.k:=by
          simp only[kg,hc,Bool.not_true,Bool.false_or]at q1;split at q1
          ·rename_i c e' f hg;have:=abY q1;subst this;obtain⟨_,_,_,_,_,hk,_⟩:=mM hH hr hg;obtain⟨ti,hti,his⟩:=y4 hs;rw[<-his];exact hk _ hti
          cases q1
         subst hk;refine xv (base _ _ hxe l hh cap' (fA hE h1 h2 q2 (by omega)) _ hs) ?_;rw[hc];by_cases hcl:cap'=l
         ·have e1:hh-l=0:=by omega
          have e2:cap'-l=0:=by omega
          rw[if_pos hcl,e1,e2];exact .sliceE n (o+l*i.k) cap _ i hr hc (by rw[<-hcl];exact g2)
         rw[if_neg hcl,ach,bX];have hm:(cap'-l)*i.k+l*i.k=cap'*i.k:=by rw[<-ac7];congr 1;omega
         have:=VR.sliceO n (o+l*i.k) (hh-l) cap (cap'-l) i hr hc (by omega) (by omega) (by omega);rw[show o+l*i.k+i.s=o+i.s+l*i.k by omega]at this;exact this
        ·subst g1;have e1:hh=0:=by omega
         have e2:l=0:=by omega
         subst e1;subst e2;refine xv (base _ _ hxe 0 0 0 (fA hE h1 h2 (Nat.le_refl _) (Nat.le_refl _)) s hs) ?_;rw[hc,if_pos rfl];exact .sliceE n (o+0*s) cap _ i hr hc (by omega)
        subst g1;subst hc;have e1:hh=0:=by omega
        have e2:l=0:=by omega
        subst e1;subst e2;refine xv (base _ _ hxe 0 0 0 (fA hE h1 h2 (Nat.le_refl _) (Nat.le_refl _)) s hs) ?_;exact .sliceZ _ _ _ i hr
     cases h
    ·
     rename_i m;cases q0:(hi.isSome&&(bd cap||Nat.ble len cap)&&!jL len cap)with
     |false=>rw[q0]at h;cases h
     |true=>
      rw[q0]at h;simp only[cond_true]at h;simp only[abZ,acs]at q0;have q0m:jL len cap=false:=by simpa using q0.2
      replace q0:=q0.1;unfold PL at h;split at h
      ·rename_i s l hh mm hs h1 h2 h3;cases q:(Nat.ble l hh&&Nat.ble hh mm&&Nat.ble mm len&&Nat.ble mm 16777216)with
       |false=>rw[q]at h;cases h
       |true=>
        rw[q]at h;cases h;simp only[abZ]at q;obtain⟨⟨⟨q1,q2⟩,q3⟩,q4⟩:=q;have q1:=Nat.le_of_ble_eq_true q1;have q2:=Nat.le_of_ble_eq_true q2;have q3:=Nat.le_of_ble_eq_true q3;have q4:=Nat.le_of_ble_eq_true q4;have small:bd (mm-l)=false:=jR (by omega);have fin:∀(A':Option Addr) (cap':Nat),e x=.slice A' len cap'->mm<=cap'->VR ρ (.slice (bif Nat.beq mm l then a else Av a (l*s)) (hh-l) (mm-l)) (.slice (if mm=l then A' else A'.map (·.add (l*s))) (hh-l) (mm-l)) ->
         cV P ρ W w (do pure (.value (<-Instr.sliceAt t (e x) (lo.map e) (hi.map e) (some (e m))))) (.val (some (.slice (bif Nat.beq mm l then a else Av a (l*s)) (hh-l) (mm-l)))):=fun A' cap' hxe hm hvr=>
         xv (base A' cap' hxe l hh mm (Fq hE h1 h2 h3 q0.1 q1 q2 hm) s hs) hvr
        cases a with
        |none=>
         have hxe:=hv.of_flat 1 rfl;refine fin none cap hxe ?_ ?_
         ·rcases q0.2 with g|g
          ·unfold bd at g;have:=Nat.le_of_ble_eq_true g;omega
          have:=Nat.le_of_ble_eq_true g;omega
         have:(if mm=l then none else(none:Option Addr).map (·.add (l*s)))=none:=by split<;>rfl
         rw[this];have:(bif Nat.beq mm l then(none:Option Addr)else Av none (l*s))=none:=by cases Nat.beq mm l<;>rfl
         rw[this];exact .flat 1 _ rfl
        |some a=>
         obtain⟨n,o,rfl⟩:=hv.sliceAddr;obtain⟨i,hr,hcase⟩:=hv.sliceInv q0m;have two:∀cap',e x=.slice (some ⟨i.b,o+i.s,none⟩) len cap'->mm<=cap'->cV P ρ W w (do pure (.value (<-Instr.sliceAt t (e x) (lo.map e) (hi.map e) (some (e m))))) (.val (some (.slice (bif Nat.beq mm l then some ⟨n,o,none⟩else Av (some ⟨n,o,none⟩) (l*s)) (hh-l) (mm-l)))):=fun cap' hxe hm=>by
          refine fin _ cap' hxe hm ?_;by_cases hcl:mm=l
          ·rw[if_pos hcl,show Nat.beq mm l=true by rw[hcl];exact acb l];exact .slice _ _ _ _ i hr small
          rw[if_neg hcl,gz hcl];have:=VR.slice n (o+l*s) (hh-l) (mm-l) i hr small;rw[show o+l*s+i.s=o+i.s+l*s by omega]at this;rw[ach,bX];exact this
         rcases hcase with⟨hc,hxe⟩|⟨hc,cap',hxe,g1,g2,g3⟩|⟨hc,g1,g2,a',hxe⟩|⟨hc,g1,a',hxe⟩
         ·rw[hc]at q0;have:=Nat.le_of_ble_eq_true (q0.2.resolve_left acf);exact two cap hxe (by omega)
         ·exact two cap' hxe (by omega)
         ·subst g1;have e1:mm=0:=by omega
          subst e1;have e2:hh=0:=by omega
          have e3:l=0:=by omega
          subst e2;subst e3;exact fin (some a') 0 hxe (Nat.le_refl _) (.sliceZ _ _ _ i hr)
         subst g1;have e1:mm=0:=by omega
         subst e1;have e2:hh=0:=by omega
         have e3:l=0:=by omega
         subst e2;subst e3;exact fin (some a') 0 hxe (Nat.le_refl _) (.sliceZ _ _ _ i hr)
      cases h
   ·rename_i len nm cs cc;have base:∀a' cap',e x=.slice a' len cap'->∀l hh m,(Instr.sliceBounds true len cap' (lo.map e) (hi.map e) (mx.map e)).run P w=.ok (l,hh,m) w->∀s,sz P el=some s ->
     (Instr.sliceAt t (e x) (lo.map e) (hi.map e) (mx.map e)).run P w=.ok (.slice (if m=l then a' else a'.map (·.add (l*s))) (hh-l) (m-l)) w:=fun a' cap' hxe l hh m hb s hs=>by
     unfold Instr.sliceAt;simp only[abU,aI hu,abQ,Instr.slice,hxe,hb,dZ hs,ab0]
    unfold LB at h;split at h
    ·rename_i s l hh hs h1 h2;cases q:(Nat.ble l hh&&Nat.ble hh len)with
     |false=>rw[q]at h;cases h
     |true=>
      rw[q]at h;cases h;simp only[abZ]at q;have q2:=Nat.le_of_ble_eq_true q.1;have q3:=Nat.le_of_ble_eq_true q.2;obtain⟨_,_,⟨b,off,cap,c',e',f',hB,hl,hxe,hrow⟩|⟨rfl,rfl,a,cap,hxe⟩⟩:=hv.fzInv
      ·refine xv (base _ _ hxe l hh cap (fA hE h1 h2 q2 (by omega)) s hs) ?_;by_cases hcl:cap=l
       ·have e1:hh-l=0:=by omega
        rw[if_pos hcl,e1,acH,List.take_zero];exact .frzE _ _
       rw[if_neg hcl,ach,bX];exact .frz _ _ _ b _ _ c' e' f' hB (by omega) rfl (hrow.piece _ _)
      have e1:hh=0:=by omega
      have e2:l=0:=by omega
      subst e1;subst e2;refine xv (base _ _ hxe 0 0 cap (fA hE h1 h2 (Nat.le_refl _) (abW _)) s hs) ?_;rw[Nat.sub_self,acH,List.take_zero,ac0];split
      ·exact .frzE _ _
      exact .frzE _ _
    cases h
   cases h
  ·
   rename_i n el hu;split at h
   ·rename_i b o;obtain⟨i,hr,hxe⟩:=hv.ptrInv;unfold P4 at h;split at h
    ·rename_i s l hh hs h1 h2;cases q:(Nat.ble l hh&&Nat.ble hh n&&Nat.ble n 16777216)with
     |false=>rw[q]at h;cases h
     |true=>
      rw[q]at h;cases h;simp only[abZ]at q;have q3:=Nat.le_of_ble_eq_true q.2;refine xv (u:=.slice (some (if n=l then⟨i.b,o+i.s,none⟩else(⟨i.b,o+i.s,none⟩:Addr).add (l*s))) (hh-l) (n-l)) ?_ ?_
      ·unfold Instr.sliceAt;simp only[abU,aI hu,abQ,hxe,Instr.sureAddr,ab0];simp only[acA,abU,ab0,abQ,fA hE h1 h2 (Nat.le_of_ble_eq_true q.1.1) (Nat.le_of_ble_eq_true q.1.2),dZ hs]
      by_cases hnl:n=l
      ·rw[if_pos hnl,show Nat.beq n l=true by rw[hnl];exact acb l];exact .slice _ _ _ _ i hr (jR (by omega))
      rw[if_neg hnl,gz hnl,bX];have:=VR.slice b (o+l*s) (hh-l) (n-l) i hr (jR (by omega));rwa [show o+l*s+i.s=o+i.s+l*s by omega]at this
    cases h
   cases h
  cases h
 cases h
end
section
variable {P:Program} {ρ:Ren} {W:XW} {w:World} {fr:XF} {e:Operand->Value}
theorem oG{ats:Array TypeId}{ty t u el:TypeId}{base:Option Addr}{sLen sCap n s:Nat}{x:Value}{us:List Value}{w':World}(h0:ats[0]?=some t)(h1:ats[1]?=some u)(ht:P.underlying t=some (.slice el))(hu:me (P.underlying u)=true)
 (hs:sz P el=some s) (hn:(Builtin.lenOf x).run P w=.ok n w) (hf:(Builtin.firstCells s n x).run P w=.ok us.toArray w) (hle:sLen+n<=sCap)
 (hst:(match base with|some a=>storeCells (a.add (sLen*s)) us|none=>pure ():Sem Unit).run P w=.ok () w') :
 (Builtin.append_ ats ty #[.slice base sLen sCap,x]).run P w=.ok (.slice base (sLen+n) sCap) w':=by
 cases hd:P.underlying u with
 |none=>rw[hd]at hu;cases hu
 |some d=>
  rw[hd]at hu;cases d<;>first|(exact absurd hu acf)|skip
  all_goals
   simp only[Builtin.append_,h0,h1,List.getElem?_toArray,List.getElem?_cons_zero,List.getElem?_cons_succ,abU,aI ht,abQ,dZ hs,aI hd,ab0,Bool.false_eq_true,if_false,hn,Bool.not_false,if_true,if_pos hle,hf];cases base with
   |none=>
    simp only[ab0,Result.ok.injEq,true_and]at hst;subst hst;rfl
   |some a=>
    simp only at hst;simp only[abU,hst,abQ,ab0]
theorem Cl{ats:Array TypeId}{ty t u el:TypeId}{i:TypeInfo}{z:Value}{base:Option Addr}{sLen sCap n:Nat}{x:Value}{us os:List Value}(h0:ats[0]?=some t)(h1:ats[1]?=some u)(ht:P.underlying t=some (.slice el))(hu:me (P.underlying u)=true)
 (hi:P.info? el=some i) (hz:i.zero=some z) (hn:(Builtin.lenOf x).run P w=.ok n w) (ho:(Builtin.firstCells i.size sLen (.slice base sLen sCap)).run P w.drew=.ok os.toArray w.drew) (hf:(Builtin.firstCells i.size n x).run P w.drew=.ok us.toArray w.drew)
 (hg:sCap<sLen+n) (h63:sLen+n<=1099511627776) (hfit:(sLen+n)*i.bytes<=1099511627776) :
 (Builtin.append_ ats ty #[.slice base sLen sCap,x]).run P w=.ok (.slice (some ⟨w.heap.size,0,none⟩) (sLen+n) (grownCap w (sLen+n) sCap el))
  (w.drew.alloc (.cells (os.toArray++us.toArray++Builtin.zeroCells z.cells (grownCap w (sLen+n) sCap el-(sLen+n))) el)):=by
 have hle:¬(sLen+n<=sCap):=by omega
 have hmax:IntKind.i64.max=9223372036854775807:=by decide
 have hsz:sz P el=some i.size:=by unfold sz;rw[hi];rfl
 have hnext:=growslice_fits (bytes:=i.bytes) hg (by omega);have hzr:∀w',(zeroValue el).run P w'=.ok z w':=fun w'=>by
  unfold zeroValue;rw[abU,lm hi,abQ,hz];rfl
 have hask:∀b w',(askRoom b).run P w'=.ok () w':=fun b w'=>by unfold askRoom;split<;>rfl
 have hch:(choose (.appendCap (sLen+n) sCap el)).run P w=.ok (grownCap w (sLen+n) sCap el) w.drew:=rfl;have hnew:∀c,(newRow el c).run P w.drew=.ok ⟨w.heap.size,0,none⟩ (w.drew.alloc (.cells c el)):=fun c=>rfl
 cases hd:P.underlying u with
 |none=>rw[hd]at hu;cases hu
 |some d=>
  rw[hd]at hu;cases d<;>first|(exact absurd hu acf)|skip
  all_goals
   simp only[Builtin.append_,h0,h1,List.getElem?_toArray,List.getElem?_cons_zero,List.getElem?_cons_succ,abU,aI ht,abQ,dZ hsz,aI hd,ab0,Bool.false_eq_true,if_false,hn,Bool.not_false,if_true,if_neg hle,lm hi];rw[if_neg (by rintro ⟨a,_⟩;rw[hmax]at a;omega)];simp only[abU,lm hi,abQ];rw[if_neg (by omega)];simp only[abU,hch,abQ,lm hi,hask,ho,hf,hzr,ab0,hnew]
theorem yH(z:Array Value)(q:Nat):(Builtin.zeroCells z q).size=q*z.size:=by simp[Builtin.zeroCells]
theorem Dd(hH:HR P ρ W.get w){n:Nat}{i:RI}{c:List Value}{t:TypeId}{f:Nat×Nat}(hr:ρ n=some i)(hg:W.get n=some (.cells c t f)) :
 ∃ob,w.heap[i.b]?=some ob/\∀c' t' f',ob=.cells c' t' f'->(∀j,i.s+j<i.z->f'.1<=i.s+j->i.s+j<f'.2->f.1<=j/\j<f.2)/\f'.1<=f'.2/\(f.1=0->f'.2<=i.z):=by
 obtain⟨ob,h1,h2⟩:=hH.obj n i _ hr hg;refine⟨ob,h1,?_⟩;cases h2 with
 |cells _ _ _ c' f' hz hrr hk hl hv hf hq=>intro _ _ _ e;cases e;exact⟨hf,hq⟩
theorem G8(hH:HR P ρ W.get w){n:Nat}{i:RI}{c:List Value}{t:TypeId}{f:Nat×Nat}(hr:ρ n=some i)(hg:W.get n=some (.cells c t f)):i.s%i.k=0:=by
 obtain⟨ob,h1,h2⟩:=hH.obj n i _ hr hg;cases h2 with
 |cells _ _ _ c' f' hz hrr hk hl hv hf hq hm=>exact hm
theorem Rl{S:Sem Value}{el:TypeId}{c us:List Value}{z:Value}{k need cap cap':Nat}{f:Nat×Nat}(ho:bd cap=true)(hH:HR P ρ W.get w)(hn:ρ W.next=none)(hk:i6 P el=k)(hz:z.cells.size=k)(hc:aU ρ c us)(hl:c.length=need*k)(hcap:need<=cap')
 (hS:S.run P w=.ok (.slice (some ⟨w.heap.size,0,none⟩) need cap') (w.drew.alloc (.cells (us.toArray++Builtin.zeroCells z.cells (cap'-need)) el))) :
 ∃u ρ' w',qj P (do pure (.value (<-S))) w u w'/\ca ρ W.get W.next w ρ' (W.push (.cells c el f)).get (W.push (.cells c el f)).next w'/\HR P ρ' (W.push (.cells c el f)).get w'/\VR ρ' (.slice (some ⟨W.next,0,none⟩) need cap) u:=by
 have hsz:(us.toArray++Builtin.zeroCells z.cells (cap'-need)).size=cap'*k:=by rw[Array.size_append,yH,List.size_toArray,hc.length,hl,hz,<-ac7];congr 1;omega
 obtain⟨q1,q2⟩:=hH.drew.push hn (.cells c el f) (.cells (us.toArray++Builtin.zeroCells z.cells (cap'-need)) el (0,0)) ⟨w.heap.size,0,cap'*k,k,c.length⟩ rfl (by
  refine .cells _ _ _ _ _ hsz rfl (fun t ht=>by rw[<-hk];exact jg t ht) (by simp only[Nat.zero_add,hl];exact acL _ hcap) (fun j v hj=>?_) (fun j _ h1 h2=>by simp at h2) ⟨Nat.le_refl _,fun _=>abW _⟩ (Nat.zero_mod _);obtain⟨v',h1,h2⟩:=hc.get j v hj;refine⟨v',?_,h2.mono (gj _ hn)⟩;have hj':j<us.length:=(List.getElem?_eq_some_iff.1 h1).1;show(us.toArray++Builtin.zeroCells z.cells (cap'-need))[0+j]?=_;rw[Nat.zero_add,Array.getElem?_append_left (by simpa using hj')];simpa using h1)
 exact⟨_,_,_,gv hS,q2.drew,q1,As ho hcap (by rw[hl];exact acL _ hcap) (Nat.le_refl _)⟩
theorem IV{ats:Array TypeId}{ty:TypeId}{v x v' x':Value}{r:XR}(hH:HR P ρ W.get w)(hv:VR ρ v v')(hx:VR ρ x x')(hu:me (gB P ats[1]?)=true)(h:oR P W v x (gB P ats[0]?)=some r) :
 cV P ρ W w (do pure (.value (<-Builtin.append_ ats ty #[v',x']))) r:=by
 cases h0:ats[0]? with
 |none=>rw[h0]at h;cases h
 |some t=>
  cases h1:ats[1]? with
  |none=>rw[h1]at hu;cases hu
  |some u=>
   rw[h0]at h;rw[h1]at hu;simp only[gB]at h hu;unfold oR at h;split at h
   ·rename_i el ht;unfold I8 at h;split at h
    ·rename_i i z n hi hz hl;cases hzs:Nat.beq i.size z.cells.size with
     |false=>rw[hzs]at h;cases h
     |true=>
     rw[hzs]at h;simp only[cond_true]at h;have hzs:=abY hzs;have hsz:sz P el=some i.size:=by unfold sz;rw[hi];rfl
     obtain⟨i',hi',hzz,hzf⟩:=gd hz;rw[hi]at hi';cases hi';cases hsrc:fE W i.size n x with
     |none=>rw[hsrc]at h;cases h
     |some src=>
      rw[hsrc]at h;simp only[CG]at h;cases hsl:(Nat.beq src.length (n*i.size)&&src.all dr)with
      |false=>rw[hsl]at h;cases h
      |true=>
      rw[hsl]at h;simp only[cond_true]at h;simp only[abZ]at hsl;have one:=hsl.2;have hsl:=abY hsl.1;obtain⟨us,f1,f2,f3,f4,f5⟩:=ln hH hx hsrc (fun m hm=>by rw[hl]at hm;cases hm;exact Nat.le_refl _);obtain⟨us',g1,g2,g3,g4,g5⟩:=ln hH.drew hx hsrc (fun m hm=>by rw[hl]at hm;cases hm;exact Nat.le_refl _);have hlen:=Hn (P:=P) (w:=w) hx hl;unfold tW at h;split at h
      ·rename_i base len cap;obtain⟨base',cap',rfl⟩:=hv.sliceLen;have same:n=0->len<=cap'->(Builtin.append_ ats ty #[.slice base' len cap',x']).run P w=.ok (.slice base' len cap') w:=fun e hle=>by
        subst e;have hus:us=[]:=by
         have:src=[]:=by unfold fE at hsrc;split at hsrc<;>first|(cases hsrc;rfl)|(simp at hsrc;exact hsrc)|(cases hsrc)
         rw[this]at f2;cases f2;rfl
        subst hus;exact oG (w':=w) h0 h1 ht hu hsz hlen f1 hle (by cases base'<;>rfl)
       have hkk:i6 P el=i.size:=by unfold i6;rw[hsz];rfl
       have grown:∀(oc:Nat) (hoc1:bd oc=true) (old os:List Value) (W1:XW) (f:Nat×Nat),HR P ρ W1.get w->W1.next=W.next->ca ρ W.get W.next w ρ W1.get W1.next w->aU ρ old os->old.length=len*i.size ->
        (Builtin.firstCells i.size len (.slice base' len cap')).run P w.drew=.ok os.toArray w.drew->cap'<len+n->fi i.bytes (len+n)=true ->
        cV P ρ W w (do pure (.value (<-Builtin.append_ ats ty #[.slice base' len cap',x']))) (.mod (.slice (some ⟨W1.next,0,none⟩) (len+n) oc) (W1.push (.cells (old++src) el f))):=fun oc hoc1 old os W1 f hH1 hnx hst hvo hlo hfo hg hok=>fun hfr=>by
        unfold fi at hok;simp only[abZ]at hok;have hrun:=Cl (ty:=ty) h0 h1 ht hu hi hzz hlen hfo g1 hg (Nat.le_of_ble_eq_true hok.2) (Nat.le_of_ble_eq_true hok.1);have hn:ρ W1.next=none:=hfr _ (by rw[hnx];exact Nat.le_refl _) (aci _);have hge:=grownCap_ge w (len+n) cap' el;obtain⟨u,ρ',w',r1,r2,r3,r4⟩:=Rl (f:=f) hoc1 hH1 hn hkk hzs.symm (hvo.append g2) (by rw[abP,hlo,hsl,<-ac7]) hge (by
         have e:(os++us').toArray=os.toArray++us'.toArray:=by simp
         rw[e];exact hrun)
        exact⟨u,ρ',w',r1,hst.trans r2,r3,r4⟩
       have noOpen:bd 0=false:=rfl;unfold Hz at h;cases hN:sX W len n cap i.size i.bytes el src (xC W base) base with
       |some r'=>
        rw[hN]at h;cases h;unfold sX at hN;split at hN
        ·rename_i b;unfold BP at hN;split at hN
         ·rename_i c ce cf hg;replace hg:W.get b=some (.cells c ce cf):=hg;cases q:(Nat.beq el ce&&Nat.beq c.length (len*i.size))with
          |false=>rw[q]at hN;cases hN
          |true=>
          rw[q]at hN;simp only[abZ]at q;have q1:=abY q.1;subst q1;have q2:=abY q.2;simp only[cond_true]at hN;have moved:∀j,ρ b=some j->ρ W.next=none->HR P (eV ρ W.next j) ((W.put b none).push (.cells c el cf)).get w/\ca ρ W.get W.next w (eV ρ W.next j) ((W.put b none).push (.cells c el cf)).get ((W.put b none).push (.cells c el cf)).next w:=fun j hr hn=>by
           obtain⟨ob,hb,ho⟩:=hH.obj b j _ hr hg;exact hH.regrow hr (by rw[hg];simp) hn (fun e=>by rw[e,hn]at hr;cases hr) _ (.refl _ _) rfl hb (ho.mono (gj _ hn))
          cases hoc:bd cap with
          |true=>
           rw[hoc,cond_true]at hN;cases q3:(Nat.beq n 0&&Nat.ble len cap)with
           |false=>rw[q3]at hN;cases hN
           |true=>
           rw[q3]at hN;cases hN;simp only[abZ]at q3;have hn0:=abY q3.1;intro hfr;have hn:ρ W.next=none:=hfr _ (Nat.le_refl _) (aci _);obtain⟨rfl,rfl,hxe⟩|⟨j,hr,hcase⟩:=hv.sliceOr
           ·cases hxe;obtain⟨k1,k2⟩:=hH.kill b;obtain⟨k3,k4⟩:=k1.pushN hn (.cells c el cf);exact⟨_,ρ,_,gv (same hn0 (Nat.le_refl _)),k2.trans k4,k3,.sliceN _ _⟩
           obtain⟨m1,m2⟩:=moved j hr hn;rcases hcase with⟨hc,_⟩|⟨hc,cc,e,e2,e3,e4⟩|⟨hc,e1,e2,a',e⟩|⟨hc,e1,a',e⟩
           ·rw[hc]at hoc;cases hoc
           ·cases e;exact⟨_,_,_,gv (same hn0 e2),m2,m1,.sliceO _ _ _ _ _ j (cG _ _ _) hoc e2 e3 e4⟩
           ·cases e;exact⟨_,_,_,gv (same hn0 (Nat.le_refl _)),m2,m1,.sliceE _ _ _ _ j (cG _ _ _) hoc e2⟩
           subst hc;rw[noOpen]at hoc;cases hoc
          |false=>
           rw[hoc,cond_false]at hN;cases q3:(Nat.beq cap len&&fi i.bytes (len+n))with
           |false=>rw[q3]at hN;cases hN
           |true=>
           rw[q3]at hN;cases hN;simp only[abZ]at q3;have e1:=abY q3.1;subst e1;obtain⟨_,hq,_⟩|⟨j,hr,hcase⟩:=hv.sliceOr
           ·subst hq;rw[vP]at hoc;cases hoc
           by_cases hn0:n=0
           ·intro hfr;have hn:ρ W.next=none:=hfr _ (Nat.le_refl _) (aci _);have hs0:src=[]:=ace (by rw[hsl,hn0,acH]);obtain⟨m1,m2⟩:=moved j hr hn;rw[hs0,hn0,List.append_nil];obtain⟨c',f',hb,hcz,hcr,hck,hcl,hrow⟩:=mM hH hr hg;have hk:i.size=j.k:=hck _ hi;rcases hcase with⟨hc,e⟩|⟨hc,_⟩|⟨hc,_⟩|⟨h0',_,a',e⟩
            ·cases e;exact⟨_,_,_,gv (same hn0 (Nat.le_refl _)),m2,m1,.sliceO _ _ _ _ _ j (cG _ _ _) rfl (Nat.le_refl _) (by rw[<-hcr,q2,hk];omega) (by rw[<-hk,<-q2];omega)⟩
            ·rw[hoc]at hc;cases hc
            ·rw[hoc]at hc;cases hc
            cases e;exact⟨_,_,_,gv (same hn0 (Nat.le_refl _)),m2,m1,.sliceE _ _ _ _ j (cG _ _ _) rfl (by rw[<-hcr,q2,acH];exact Nat.le_refl _)⟩
           obtain⟨k1,k2⟩:=hH.kill b;have hold:fE W i.size cap (.slice (some ⟨b,0,none⟩) cap cap)=some c:=by
            show(bif Nat.beq cap 0 then some []else _)=_;cases hz0:Nat.beq cap 0 with
            |true=>
             have:=abY hz0;subst this;rw[ace (l:=c) (by rw[q2,acH])];rfl
            |false=>
             rw[cond_false,hg];show(bif Nat.beq ((c.drop 0).take (cap*i.size)).length (cap*i.size)then some ((c.drop 0).take (cap*i.size))else none)=_;rw[List.drop_zero,<-q2,List.take_length,acb];rfl
           obtain⟨os,o1,o2,_,_,o5⟩:=ln hH.drew hv hold (fun m hm=>by cases hm;exact Nat.le_refl _);refine grown bf rfl c os (W.put b none) cf k1 rfl k2 o2 (o5 _ _ _ rfl) o1 ?_ q3.2;rcases hcase with⟨hc,q⟩|⟨hc,_⟩|⟨hc,_⟩|⟨h0',q1,a',q⟩
           ·cases q;omega
           ·rw[hoc]at hc;cases hc
           ·rw[hoc]at hc;cases hc
           cases q;omega
         cases hN
        cases hN
       |none=>
       rw[hN]at h;replace h:=(show(bif Nat.beq n 0 then(bif Nat.ble len cap then val (.slice base len cap)else none)else bif Nat.blt 0 i.size then pa W len n cap i.size i.bytes el src base else none)=some r from h);cases hn0:Nat.beq n 0 with
       |true=>
        rw[hn0]at h;cases hlc:Nat.ble len cap with
        |false=>rw[hlc]at h;cases h
        |true=>
         rw[hlc]at h;cases h;refine xv (same (abY hn0) ?_) hv;have hlc:=Nat.le_of_ble_eq_true hlc;cases base with
         |none=>have:=hv.of_flat 1 rfl;cases this;exact hlc
         |some a=>
          obtain⟨b,o,rfl⟩:=hv.sliceAddr;obtain⟨q1,_,q⟩|⟨j,hr,q|⟨_,c,q,q2,_⟩|⟨_,q1,_,_,q⟩|⟨_,q1,_,q⟩⟩:=hv.sliceOr
          ·cases q;omega
          ·have:=q.2;cases this;exact hlc
          ·cases q;exact q2
          ·cases q;omega
          cases q;omega
       |false=>
        rw[hn0]at h;simp only[cond_false]at h;have hn0:n≠0:=fun e=>by subst e;cases hn0
        cases hs0:Nat.blt 0 i.size with
        |false=>rw[hs0]at h;cases h
        |true=>
         rw[hs0]at h;simp only[cond_true]at h;have hs0:0<i.size:=Nat.le_of_ble_eq_true hs0;unfold pa at h;split at h
         ·
          have:=hv.of_flat 1 rfl;cases this;cases q:(Nat.beq cap 0&&Nat.beq len 0&&fi i.bytes n)with
          |false=>rw[q]at h;cases h
          |true=>
           rw[q]at h;cases h;simp only[abZ]at q;have e1:=abY q.1.1;have e2:=abY q.1.2;subst e1;subst e2;have:=grown bf rfl [] [] W (0,0) hH rfl (.refl _ _ _ _) .nil (by simp) rfl (by omega) (by rw[Nat.zero_add];exact q.2);rw[Nat.zero_add]at this;exact this
         ·rename_i b o;obtain⟨rfl,rfl,hxe⟩|⟨j,hr,hcase⟩:=hv.sliceOr
          ·cases hxe;have hmn:jL 0 aq=true:=rfl;simp only[vP,Bool.true_or,cond_true,hmn,Bool.not_true,Bool.and_false,cond_false]at h;unfold wZ at h;split at h
           ·rename_i c ce cf hg;cases q:(bd aq&&Nat.beq el ce&&Nat.ble (o+0*i.size) c.length&&fi i.bytes (0+n)&&!nX cf (o+0*i.size) (n*i.size)&&(Nat.beq cf.1 0||Nat.ble cf.2 cf.1)&&Nat.beq (o%i.size) 0)with
            |false=>rw[q]at h;cases h
            |true=>
             rw[q]at h;cases h;simp only[abZ,acJ]at q;obtain⟨k1,k2⟩:=hH.kill b;rw[acH,List.take_zero];exact grown aq rfl [] [] (W.put b none) _ k1 rfl k2 .nil (by simp) rfl (by omega) q.1.1.1.2
           cases h
          cases hoc:(bd cap||Nat.ble (len+n) cap)with
          |true=>
           rw[hoc]at h;simp only[cond_true]at h;simp only[acs]at hoc;cases hin:(Nat.ble (o+(len+n)*i.size) (nU (W.get b))&&kg W cap el (some ⟨b,o,none⟩)&&!jL len cap)with
           |true=>
            rw[hin]at h;simp only[cond_true]at h;simp only[abZ]at hin;replace hin:=hin.1;have hin1:=Nat.le_of_ble_eq_true hin.1;cases hst:eI W b (o+len*i.size) src with
            |none=>rw[hst]at h;cases h
            |some W'=>
             rw[hst]at h;cases h;intro hfr;obtain⟨c,ce,cf,hg,_⟩:=oy hst;rw[hg]at hin1;simp only[nU]at hin1;obtain⟨c',f',hb,hcz,hcr,hck,hcl,hrow⟩:=mM hH hr hg;obtain⟨s1,s2,s3⟩:=l6 hH hr hst f2;have hpos:0<(len+n)*i.size:=Nat.mul_pos (by omega) hs0;have hmul:(len+n)*i.size=len*i.size+n*i.size:=ac7 _ _ _;have addr:((⟨j.b,o+j.s,none⟩:Addr).add (len*i.size))=⟨j.b,o+len*i.size+j.s,none⟩:=by rw[bX];congr 1;omega
             rcases hcase with⟨hc,q⟩|⟨hc,cc,q,q2,q3,q4⟩|⟨hc,q1,q2,a',q⟩|⟨hc,q1,a',q⟩
             ·cases q;have hle:=Nat.le_of_ble_eq_true (hoc.resolve_left (by rw[hc];exact acf));exact⟨_,ρ,_,gv (oG (ty:=ty) h0 h1 ht hu hsz hlen f1 hle (by simp only;rw[addr];exact s1)),s3,s2,.slice _ _ _ _ j hr hc⟩
             ·cases q;have hk:i.size=j.k:=by
               have:=hin.2;simp only[kg,hc,Bool.not_true,Bool.false_or,hg]at this;have:=abY this;subst this;exact hck _ hi
              have hle:len+n<=cap':=by
               have:(len+n)*i.size<=cap'*i.size:=by rw[<-hk]at q3;omega
               exact Nat.le_of_mul_le_mul_right this hs0
              exact⟨_,ρ,_,gv (oG (ty:=ty) h0 h1 ht hu hsz hlen f1 hle (by simp only;rw[addr];exact s1)),s3,s2,.sliceO _ _ _ _ _ j hr hc hle q3 q4⟩
             ·omega
             subst hc;have:=Nat.le_of_ble_eq_true (hoc.resolve_left (by rw[noOpen];exact acf));omega
           |false=>
            rw[hin]at h;simp only[cond_false]at h;unfold wZ at h;split at h
            ·rename_i c ce cf hg;cases q:(bd cap&&Nat.beq el ce&&Nat.ble (o+len*i.size) c.length&&fi i.bytes (len+n)&&!nX cf (o+len*i.size) (n*i.size)&&(Nat.beq cf.1 0||Nat.ble cf.2 cf.1)&&Nat.beq (o%i.size) 0)with
             |false=>rw[q]at h;cases h
             |true=>
              rw[q]at h;cases h;simp only[abZ,acJ]at q;obtain⟨⟨⟨⟨⟨⟨p1,p2⟩,p3⟩,p4⟩,p5⟩,p6⟩,p7⟩:=q;have p2:=abY p2;have p3:=Nat.le_of_ble_eq_true p3;subst p2;obtain⟨c',f',hb,hcz,hcr,hck,hcl,hrow⟩:=mM hH hr hg;have hk:i.size=j.k:=hck _ hi;have hgn:W.get b≠none:=by rw[hg];simp
              obtain⟨k1,k2⟩:=hH.kill b;have holdl:((c.drop o).take (len*i.size)).length=len*i.size:=by rw[abR,abT];omega
              obtain⟨os,o1,o2,o3⟩:=hrow.part o (len*i.size) holdl;rcases hcase with⟨hc,q⟩|⟨hc,cc,q,q2,q3,q4⟩|⟨hc,q1,q2,a',q⟩|⟨hc,q1,a',q⟩
              ·rw[hc]at p1;cases p1
              ·cases q;by_cases hle:len+n<=cap'
               ·
                intro hfr;have hn:ρ W.next=none:=hfr _ (Nat.le_refl _) (aci _);have hne:b≠W.next:=fun e=>by rw[e,hn]at hr;cases hr
                obtain⟨ob,hb2,hff⟩:=Dd hH hr hg;rw[hb]at hb2;cases hb2;obtain⟨hff,hqq⟩:=hff _ _ _ rfl;have hm1:(len+n)*i.size=len*i.size+n*i.size:=ac7 _ _ _;have hm2:(len+n)*i.size<=cap'*j.k:=by rw[<-hk];exact acL _ hle
                have addr:((⟨j.b,o+j.s,none⟩:Addr).add (len*i.size))=⟨j.b,o+j.s+len*i.size,none⟩:=bX _ _ _;have hst:(storeCells ⟨j.b,o+j.s+len*i.size,none⟩ us).run P w=.ok () (w.setCells j.b (o+j.s+len*i.size) us):=by
                 have:=run_storeCells_cells (P:=P) j.b (o+j.s+len*i.size) us 0 w (fun q hq=>by
                  rw[Nat.add_zero,bm hb,acl (by omega)];rfl)
                  (fun q hq=>by
                   rw[Nat.add_zero];simp only[World.frozen?,hb];cases g:(decide (f'.1<=o+j.s+len*i.size+q)&&decide (o+j.s+len*i.size+q<f'.2))with
                   |false=>rfl
                   |true=>
                    simp only[abZ,decide_eq_true_eq]at g;obtain⟨g1,g2⟩:=hff (o+len*i.size+q) (by omega) (by omega) (by omega);unfold nX at p5;simp only[Bool.not_eq_false',acs]at p5;rcases p5 with(p5|p5)|p5
                    ·have:=Nat.le_of_ble_eq_true p5;omega
                    ·have:=Nat.le_of_ble_eq_true p5;omega
                    have:=Nat.le_of_ble_eq_true p5;omega)
                  (f2.one one)
                 simpa using this
                have hcl2:((c.drop o).take (len*i.size)++src).length=(len+n)*i.size:=by rw[abP,holdl,hsl,hm1]
                obtain⟨r1,r2⟩:=hH.regrow hr hgn hn hne (i':=⟨j.b,o+j.s,j.z,j.k,(len+n)*i.size⟩) (.cells ((c.drop o).take (len*i.size)++src) el (xl cf o)) (od us w j.b (o+j.s+len*i.size)) rfl
                 (oh us w j.b (o+j.s+len*i.size) c' el f' hb) (by
                  refine .cells _ _ _ _ _ (by rw[uh,hcz]) hcl2 hck (by simp only;omega) (fun q v hq=>?_) (fun q hq h1 h2=>?_) ⟨hqq.1,fun hz0=>?_⟩ (by
                   show(o+j.s)%j.k=0;have:=abY p7;rw[hk]at this;rw[Nat.add_mod,this,G8 hH hr hg,Nat.zero_add,Nat.zero_mod])
                  ·rcases ab8 q (len*i.size)with g|g
                   ·rw[acz (by omega),acw,if_pos g,acC]at hq;obtain⟨v',y1,y2⟩:=hrow _ v hq;refine⟨v',?_,y2.mono (gj _ hn)⟩;show(mf c' (o+j.s+len*i.size) us)[o+j.s+q]?=_;rw[li _ _ _ _ (by omega),show o+j.s+q=j.s+(o+q) by omega];exact y1
                   rw[act (by omega),holdl]at hq;obtain⟨v',y1,y2⟩:=f2.get _ v hq;refine⟨v',?_,y2.mono (gj _ hn)⟩;show(mf c' (o+j.s+len*i.size) us)[o+j.s+q]?=_;have hlt:q-len*i.size<us.length:=(List.getElem?_eq_some_iff.1 y1).1;rw[show o+j.s+q=o+j.s+len*i.size+(q-len*i.size) by omega,u4 us _ _ _ (by omega) hlt];exact y1
                  ·obtain⟨g1,g2⟩:=hff (o+q) (by simp only at hq;omega) (by simp only at h1;omega) (by simp only at h2;omega);unfold xl;cases g:Nat.beq cf.1 0 with
                   |true=>exact⟨abW _,by show q<cf.2-o;omega⟩
                   |false=>
                    rw[g,Bool.false_or]at p6;have:=Nat.le_of_ble_eq_true p6;omega
                  refine hqq.2 ?_;unfold xl at hz0;cases g:Nat.beq cf.1 0 with
                  |true=>exact abY g
                  |false=>rw[g]at hz0;cases hz0)
                refine⟨_,_,_,gv (oG (ty:=ty) h0 h1 ht hu hsz hlen f1 hle (by simp only;rw[addr];exact hst)),r2,r1,?_⟩;have:=VR.sliceO (ρ:=eV ρ W.next ⟨j.b,o+j.s,j.z,j.k,(len+n)*i.size⟩) W.next 0 (len+n) cap cap' _ (cG _ _ _) p1 hle (by simp only;omega) (by simp only;omega);simp only[Nat.zero_add]at this;exact this
               refine grown cap p1 _ os (W.put b none) _ k1 rfl k2 o2 holdl ?_ (by omega) p4;exact run_firstCells_some (P:=P) w.drew i.size len ⟨j.b,o+j.s,none⟩ len cap' os o1 (fun q u hu=>by
                show w.cell? _=_;rw[bX,bm hb,acy o];exact o3 q u hu)
              ·cases q;rw[acH,List.take_zero];refine grown cap p1 [] [] (W.put b none) _ k1 rfl k2 .nil (by simp) ?_ (by omega) p4;exact run_firstCells_some (P:=P) w.drew i.size 0 a' 0 0 [] (by simp) (fun q u hu=>by simp at hu)
              subst hc;rw[noOpen]at p1;cases p1
            cases h
          |false=>
           rw[hoc]at h;simp only[cond_false]at h;simp only[Bool.or_eq_false_iff]at hoc;have hnle:¬(len+n<=cap):=fun hh=>by have:=acX hh;rw[this]at hoc;cases hoc.2
           cases hold:fE W i.size len (.slice (some ⟨b,o,none⟩) len cap)with
           |none=>rw[hold]at h;cases h
           |some old=>
            rw[hold]at h;simp only[EG]at h;cases hok:fi i.bytes (len+n)with
            |false=>rw[hok]at h;cases h
            |true=>
             rw[hok]at h;cases h;obtain⟨os,o1,o2,_,_,o5⟩:=ln hH.drew hv hold (fun m hm=>by cases hm;exact Nat.le_refl _);refine grown bf rfl old os W (0,0) hH rfl (.refl _ _ _ _) o2 (o5 _ _ _ rfl) o1 ?_ hok;rcases hcase with⟨hc,q⟩|⟨hc,_⟩|⟨hc,_⟩|⟨hc,q1,a',q⟩
             ·cases q;omega
             ·rw[hc]at hoc;cases hoc.1
             ·rw[hc]at hoc;cases hoc.1
             cases q;omega
         cases h
      cases h
    cases h
   cases h
theorem OJ{ats:Array TypeId}{ty:TypeId}{v x v' x':Value}{r:XR}(hH:HR P ρ W.get w)(hv:VR ρ v v')(hx:VR ρ x x')(h:DO P W v x (gB P ats[0]?)=some r) :
 cV P ρ W w (do pure (.value (<-Builtin.copy_ ats ty #[v',x']))) r:=by
 cases h0:ats[0]? with
 |none=>rw[h0]at h;cases h
 |some t=>
  rw[h0]at h;simp only[gB]at h;unfold DO at h;split at h
  ·rename_i el ht;split at h
   ·rename_i base n cap;unfold Iy at h;split at h
    ·rename_i s m hs hm;obtain⟨base',cap',rfl⟩:=hv.sliceLen;have hlen:=Hn (P:=P) (w:=w) hx hm;cases hsrc:fE W s (Nat.min m n) x with
     |none=>rw[hsrc]at h;cases h
     |some src=>
      rw[hsrc]at h;simp only[DZ]at h;obtain⟨us,f1,f2,f3,_,_⟩:=ln hH hx hsrc (fun q hq=>by rw[hm]at hq;cases hq;exact Nat.min_le_left _ _);have run:∀w',(match base' with|some a=>storeCells a us|none=>pure ():Sem Unit).run P w=.ok () w'->(Builtin.copy_ ats ty #[.slice base' n cap',x']).run P w=.ok (goInt (Nat.min m n)) w':=fun w' hst=>by
       simp only[Builtin.copy_,h0,List.getElem?_toArray,List.getElem?_cons_zero,List.getElem?_cons_succ,abU,aI ht,abQ,dZ hs,hlen,f1];cases base' with
       |none=>
        simp only[ab0,Result.ok.injEq,true_and]at hst;subst hst;rfl
       |some a=>
        simp only at hst;simp only[abU,hst,abQ,ab0]
      cases hk:Nat.beq (Nat.min m n) 0 with
      |true=>
       rw[hk]at h;cases h;have hk:=abY hk;have hus:us=[]:=by
        have:src=[]:=by rw[hk]at hsrc;unfold fE at hsrc;split at hsrc<;>first|(cases hsrc;rfl)|(simp at hsrc;exact hsrc)|(cases hsrc)
        rw[this]at f2;cases f2;rfl
       subst hus;rw[hk]at run;exact xv (run w (by cases base'<;>rfl)) (.flat 1 _ rfl)
      |false=>
       rw[hk]at h;simp only[cond_false]at h;unfold H5 at h;split at h
       ·rename_i b o;cases hst:eI W b o src with
        |none=>rw[hst]at h;cases h
        |some W'=>
         rw[hst]at h;cases h;intro _;have hmn:0<n:=by
          have:Nat.min m n≠0:=fun e=>by rw[e]at hk;cases hk
          have h2:Nat.min m n<=n:=Nat.min_le_right m n;omega
         obtain⟨j,hr,hcase⟩:=hv.sliceInv (kj (by omega));have key:base'=some ⟨j.b,o+j.s,none⟩:=by
          rcases hcase with⟨_,q⟩|⟨_,c,q,_⟩|⟨_,q,_⟩|⟨_,q,_⟩
          ·cases q;rfl
          ·cases q;rfl
          ·omega
          omega
         subst key;obtain⟨s1,s2,s3⟩:=l6 hH hr hst f2;exact⟨_,ρ,_,gv (run _ s1),s3,s2,.flat 1 _ rfl⟩
       cases h
    cases h
   cases h
  cases h
theorem T8{z:Array Value}{n:Nat}:Builtin.zeroCells z n=(rep z.toList n).toArray:=tE rfl
theorem Mr{ats:Array TypeId}{ty:TypeId}{v v':Value}{r:XR}(hH:HR P ρ W.get w)(hv:VR ρ v v')(h:Je P W v (gB P ats[0]?)=some r):cV P ρ W w (do pure (.value (<-Builtin.clear_ ats ty #[v']))) r:=by
 cases h0:ats[0]? with
 |none=>rw[h0]at h;cases h
 |some t=>
  rw[h0]at h;simp only[gB]at h;unfold Je at h;split at h
  ·rename_i el ht;split at h
   ·rename_i base n cap;obtain⟨base',cap',rfl⟩:=hv.sliceLen;cases hk:Nat.beq n 0 with
    |true=>
     rw[hk]at h;cases h;have hk:=abY hk;subst hk;refine xv (u:=.tuple #[]) ?_ (.flat 1 _ rfl);simp only[Builtin.clear_,h0,List.getElem?_toArray,List.getElem?_cons_zero,abU,aI ht,abQ];cases base'<;>rfl
    |false=>
     rw[hk]at h;simp only[cond_false]at h;have hn0:n≠0:=fun e=>by subst e;cases hk
     unfold NM at h;split at h
     ·rename_i b o z hz;cases hst:eI W b o (rep z.cells.toList n)with
      |none=>rw[hst]at h;cases h
      |some W'=>
       rw[hst]at h;cases h;intro _;obtain⟨_,_,_,hf⟩:=gd hz;have hzc:=(VR.flat (ρ:=ρ) 8 z hf).cells;obtain⟨j,hr,hcase⟩:=hv.sliceInv (kj hn0);have key:base'=some ⟨j.b,o+j.s,none⟩:=by
        rcases hcase with⟨_,q⟩|⟨_,c,q,_⟩|⟨_,q,_⟩|⟨_,q,_⟩
        ·cases q;rfl
        ·cases q;rfl
        ·omega
        omega
       subst key;obtain⟨s1,s2,s3⟩:=l6 hH hr hst (uO hzc n);refine⟨_,ρ,_,gv ?_,s3,s2,.flat 1 (.tuple #[]) rfl⟩;obtain⟨m,rfl⟩:=Nat.exists_eq_succ_of_ne_zero hn0;simp only[Builtin.clear_,h0,List.getElem?_toArray,List.getElem?_cons_zero,abU,aI ht,abQ,gZ hz,T8,s1,ab0]
     cases h
   cases h
  cases h
theorem Ty{ats:Array TypeId}{ty:TypeId}{v v':Value}{r:XR}(hH:HR P ρ W.get w)(hv:VR ρ v v')(h:nY W v (gB P ats[0]?)=some r):cV P ρ W w (do pure (.value (<-Builtin.len_ ats ty #[v']))) r:=by
 cases h0:ats[0]? with
 |none=>rw[h0]at h;cases h
 |some t=>
  rw[h0]at h;simp only[gB]at h;unfold nY at h;split at h
  ·rename_i el ht;split at h
   ·rename_i a n c;cases h;obtain⟨base',cap',rfl⟩:=hv.sliceLen;refine xv (u:=goInt n) ?_ (.flat 1 _ rfl);simp only[Builtin.len_,h0,List.getElem?_toArray,List.getElem?_cons_zero,abU,aI ht,abQ,ab0]
   ·rename_i n nm cs cc;cases h;refine xv (u:=goInt n) ?_ (.flat 1 _ rfl);obtain⟨_,_,⟨b,off,cap,c',e',f',_,_,rfl,_⟩|⟨_,rfl,a,c,rfl⟩⟩:=hv.fzInv<;>simp only[Builtin.len_,h0,List.getElem?_toArray,List.getElem?_cons_zero,abU,aI ht,abQ,ab0]
   cases h
  ·rename_i kt el ht;unfold jD at h;split at h
   ·cases h;have:=hv.of_flat 1 rfl;subst this;refine xv (u:=goInt 0) ?_ (.flat 1 _ rfl);simp only[Builtin.len_,h0,List.getElem?_toArray,List.getElem?_cons_zero,abU,aI ht,abQ,ab0]
   ·rename_i n;obtain⟨i,hr,rfl⟩:=hv.mapInv;split at h
    ·rename_i es c hg;cases h;obtain⟨ob,h1,h2⟩:=hH.obj n i _ hr hg;cases h2 with
     |map _ es' _ hes=>
      refine xv (u:=goInt es'.length) ?_ ?_
      ·simp only[Builtin.len_,h0,List.getElem?_toArray,List.getElem?_cons_zero,abU,aI ht,abQ];simp only[getObj,Sem.run,h1,abQ];rfl
      rw[hes.length];exact .flat 1 _ rfl
    cases h
   cases h
  ·rename_i ht;split at h
   ·cases h;have:=hv.str;subst this;refine xv (u:=goInt _) ?_ (.flat 1 _ rfl);simp only[Builtin.len_,h0,List.getElem?_toArray,List.getElem?_cons_zero,abU,aI ht,abQ,ab0]
   cases h
  ·rename_i n el ht;cases h;refine xv (u:=goInt n) ?_ (.flat 1 _ rfl);simp only[Builtin.len_,h0,List.getElem?_toArray,List.getElem?_cons_zero,abU,aI ht,abQ,ab0]
  cases h
end
section
variable {P:Program} {ρ:Ren} {W:XW} {w:World} {fr:XF} {e:Operand->Value}
theorem j8{α β:Type}:∀(S:Sem α) (f:α->Sem β),ay P (S.bind f)=(ay P S).bind fun a=>ay P (f a)
 |.pure a,f=>rfl
 |.program k,f=>by simp only[Sem.bind,ay];exact j8 (k P) f
 |.mark _ k,f=>by simp only[Sem.bind,ay];exact j8 k f
 |.choose q k,f=>by
  simp only[Sem.bind,ay];cases q.forced with
  |true=>simp only[cond_true];exact j8 (k 0) f
  |false=>rfl
 |.load _ _ _,_=>rfl
 |.store _ _ _ _,_=>rfl
 |.new _ _,_=>rfl
 |.shape _ _,_=>rfl
 |.freeze _ _ _,_=>rfl
 |.frozen _ _,_=>rfl
 |.getObj _ _,_=>rfl
 |.setObj _ _ _,_=>rfl
 |.sys _ _,_=>rfl
 |.halt _,_=>rfl
theorem aH{α β:Type}(S:Sem α)(f:α->Sem β):ay P (S >>= f)=(ay P S).bind fun a=>ay P (f a):=j8 S f
inductive FK(ρ:Ren):Option (Nat×Value)->Option (Nat×Value)->Prop
 |none:FK ρ none none
 |some (i:Nat) (v v':Value) (h:VR ρ v v'):FK ρ (some (i,v)) (some (i,v'))
theorem vT{d:TypeDesc}{k:Value}:∀{es es':List MapEntry},eK ρ es es'->es.all (fun e=>cy e.key)=true->∀i,
 (Instr.findNow d k es i=none/\Instr.findNow d k es' i=none)\/∃r r',Instr.findNow d k es i=some r/\Instr.findNow d k es' i=some r'/\FK ρ r r'
 |_,_,.nil,_,i=>.inr ⟨none,none,rfl,rfl,.none⟩
 |_,_,.cons e e' l l' hk hv hb hs,h,i=>by
  simp only[List.all_cons,abZ]at h;have hkk:=hk.flatEq h.1;unfold Instr.findNow;rw[hkk];cases Instr.sameNow d k e.key with
  |none=>exact .inl ⟨rfl,rfl⟩
  |some b=>
   cases b with
   |true=>exact .inr ⟨_,_,rfl,rfl,.some i _ _ hv⟩
   |false=>exact vT hs h.2 (i+1)
theorem rz{kt:TypeId}{k:Value}(w:World):∀{es es':List MapEntry},eK ρ es es'->es.all (fun e=>cy e.key)=true->∀i r,ay P (Instr.findAsking kt k es i)=some r ->
 ∃r',(Instr.findAsking kt k es' i).run P w=.ok r' w/\FK ρ r r'
 |_,_,.nil,_,i,r,h=>by
  unfold Instr.findAsking at h;cases h;exact⟨none,rfl,.none⟩
 |_,_,.cons e e' l l' hk hv hb hs,hf,i,r,h=>by
  simp only[List.all_cons,abZ]at hf;have hkk:=hk.flatEq hf.1;unfold Instr.findAsking at h ⊢;rw[aH]at h;rw[hkk,abU];cases hq:ay P (Op.equal kt k e.key)with
  |none=>rw[hq]at h;cases h
  |some b=>
   rw[hq]at h;rw[jW hq,abQ];cases b with
   |true=>
    cases h;exact⟨_,rfl,.some i _ _ hv⟩
   |false=>exact rz w hs hf.2 (i+1) r h
theorem pV{kt:TypeId}{k:Value}{es es':List MapEntry}{r:Option (Nat×Value)}(hes:eK ρ es es')(h:gb P kt k es=some r):∃r',(Instr.findKey kt k es').run P w=.ok r' w/\FK ρ r r':=by
 unfold gb at h;cases hf:es.all (fun e=>cy e.key)with
 |false=>rw[hf]at h;cases h
 |true=>
  rw[hf]at h;simp only[cond_true]at h;unfold Instr.findKey at h ⊢;rw[aH]at h;rw[abU];cases hu:ay P (underlying kt)with
  |none=>rw[hu]at h;cases h
  |some d=>
   rw[hu]at h;rw[jW hu,abQ];simp only[Option.bind_some]at h;rcases vT (d:=d) (k:=k) hes hf 0 with⟨q1,q2⟩|⟨r1,r2,q1,q2,q3⟩
   ·rw[q1]at h;rw[q2];exact rz w hes hf 0 r h
   rw[q1]at h;rw[q2];cases h;exact⟨r2,rfl,q3⟩
theorem qe{kt:TypeId}{k:Value}{b:Bool}(h:gD P kt k b=true):cy k=true/\(Instr.checkKey b 10000 kt k).run P w=.ok () w:=by
 unfold gD at h;simp only[abZ]at h;refine⟨h.1,?_⟩;cases hq:ay P (Instr.checkKey b 10000 kt k)with
 |none=>rw[hq]at h;cases h.2
 |some u=>exact jW hq w
theorem sG{es es':List MapEntry}(h:eK ρ es es'):es'.toArray.isEmpty=es.isEmpty:=by
 cases h with
 |nil=>rfl
 |cons=>rfl
theorem oK(hH:HR P ρ W.get w){n c:Nat}{i:RI}{es:List MapEntry}(hr:ρ n=some i)(hg:W.get n=some (.map es c)):∃es':List MapEntry,w.heap[i.b]?=some (.map es'.toArray c)/\eK ρ es es':=by
 obtain⟨ob,h1,h2⟩:=hH.obj n i _ hr hg;cases h2 with
 |map _ es' _ h=>exact⟨es',h1,h⟩
theorem dF{b:Nat}{es:Array MapEntry}{c:Nat}(h:w.heap[b]?=some (.map es c)):(getObj b).run P w=.ok (.map es c) w:=by
 simp only[getObj,Sem.run,h]
def lkV(ok:Bool)(z:Value):Option (Nat×Value)->Value
 |some (_,v)=>om ok v true
 |none=>om ok z false
theorem Ib{t kt el:TypeId}{x k z:Value}{ok:Bool}{es:List MapEntry}{q:Option (Nat×Value)}(ht:P.underlying t=some (.map kt el))(hz:az P el=some z)
 (hx:(x=.map none/\es=[])\/∃b c,x=.map (some b)/\w.heap[b]?=some (.map es.toArray c)) (hc:(Instr.checkKey es.toArray.isEmpty 10000 kt k).run P w=.ok () w) (hf:(Instr.findKey kt k es).run P w=.ok q w) :
 (Instr.lookup t x k ok).run P w=.ok (lkV ok z q) w:=by
 unfold Instr.lookup;rw[abU,aI ht,abQ];rcases hx with⟨rfl,rfl⟩|⟨b,c,rfl,hb⟩
 ·simp only[abU,ab0,abQ];rw[hc,abQ,hf,abQ];cases q with
  |none=>
   simp only[abU,gZ hz,ab0,abQ];cases ok<;>rfl
  |some q=>
   simp only[abU,ab0,abQ];cases ok<;>rfl
 simp only[abU,ab0,abQ,dF hb];rw[hc,abQ,hf,abQ];cases q with
 |none=>
  simp only[abU,gZ hz,ab0,abQ];cases ok<;>rfl
 |some q=>
  simp only[abU,ab0,abQ];cases ok<;>rfl
theorem zr{ok b:Bool}{v v':Value}(hv:VR ρ v v'):VR ρ (om ok v b) (om ok v' b):=by
 cases ok with
 |false=>exact hv
 |true=>exact .tuple [_,_] [_,_] (.cons _ _ _ _ hv (.cons _ _ _ _ (.flat 1 _ rfl) .nil))
theorem Jl{t:TypeId}{m k:Operand}{ok:Bool}{r:XR}(hH:HR P ρ W.get w)(hE:Ev ρ fr e)(h:zc P W ok (P.underlying t) (ev fr m) (ev fr k)=some r):cV P ρ W w (do pure (.value (<-Instr.lookup t (e m) (e k) ok))) r:=by
 unfold zc at h;split at h
 ·rename_i kt el mv kv ht hm hk;unfold mY at h;split at h
  ·rename_i es c z hmg hz;cases hko:gD P kt kv es.isEmpty with
   |false=>rw[hko]at h;cases h
   |true=>
    rw[hko]at h;simp only[cond_true]at h;obtain⟨hkf,hck⟩:=qe (w:=w) hko;have hke:=(hE k _ hk).flatEq hkf;obtain⟨_,_,_,hzf⟩:=gd hz;have main:∀es':List MapEntry,eK ρ es es'->((e m=.map none/\es'=[])\/∃b c,e m=.map (some b)/\w.heap[b]?=some (.map es'.toArray c))->cV P ρ W w (do pure (.value (<-Instr.lookup t (e m) (e k) ok))) r:=fun es' hes hx=>by
     cases hfx:gb P kt kv es with
     |none=>rw[hfx]at h;cases h
     |some q=>
      rw[hfx]at h;obtain⟨r',f1,f2⟩:=pV (w:=w) hes hfx;have hrun:=Ib (ok:=ok) (k:=e k) ht hz hx (by rw[hke,sG hes];exact hck) (by rw[hke];exact f1);cases f2 with
      |none=>cases h;exact xv hrun (zr (.flat 8 _ hzf))
      |some i v v' hv=>cases h;exact xv hrun (zr hv)
    unfold jD at hmg;split at hmg
    ·cases hmg;exact main [] .nil (.inl ⟨(hE m _ hm).of_flat 1 rfl,rfl⟩)
    ·rename_i n;obtain⟨i,hr,hme⟩:=(hE m _ hm).mapInv;split at hmg
     ·rename_i es2 c2 hg;cases hmg;obtain⟨es',g1,g2⟩:=oK hH hr hg;exact main es' g2 (.inr ⟨_,_,hme,g1⟩)
     cases hmg
    cases hmg
  cases h
 cases h
def gH(w:World)(b:Nat)(o:Obj):World:={ w with heap:=w.heap.setIfInBounds b o }
theorem gO(w:World)(b:Nat)(o:Obj):ak (fun k=>k=b) w (gH w b o):=
 ⟨rfl,rfl,rfl,by simp[gH],fun k hk hn=>by
  show(w.heap.setIfInBounds b o)[k]?=_;rw[acB (fun e=>hn e.symm)]⟩
theorem ka{b:Nat}{o o':Obj}(h:w.heap[b]?=some o'):(gH w b o).heap[b]?=some o:=by
 have:=fy h;show(w.heap.setIfInBounds b o)[b]?=_;rw[ac6,if_pos this]
theorem iT{b:Nat}{es:Array MapEntry}{c:Nat}{o:Obj}(h:w.heap[b]?=some (.map es c)):(setObj b o).run P w=.ok () (gH w b o):=by
 simp only[setObj,Sem.run,h,gH]
theorem eK.get{ρ:Ren}:∀{l l':List MapEntry},eK ρ l l'->∀(i:Nat) (e:MapEntry),l[i]?=some e->∃e':MapEntry,l'[i]?=some e'/\VR ρ e.key e'.key/\VR ρ e.val e'.val/\e'.born=e.born
 |_,_,.nil,i,e,h=>by simp at h
 |_,_,.cons a a' l l' hk hv hb hs,0,e,h=>by simp at h;subst h;exact⟨a',rfl,hk,hv,hb⟩
 |_,_,.cons a a' l l' hk hv hb hs,i+1,e,h=>by simpa using hs.get i e (by simpa using h)
theorem eK.set{ρ:Ren}:∀{l l':List MapEntry},eK ρ l l'->∀i {e e':MapEntry},VR ρ e.key e'.key->VR ρ e.val e'.val->e'.born=e.born->eK ρ (l.set i e) (l'.set i e')
 |_,_,.nil,i,e,e',_,_,_=>.nil
 |_,_,.cons a a' l l' hk hv hb hs,0,e,e',h1,h2,h3=>.cons _ _ _ _ h1 h2 h3 hs
 |_,_,.cons a a' l l' hk hv hb hs,i+1,e,e',h1,h2,h3=>.cons _ _ _ _ hk hv hb (hs.set i h1 h2 h3)
theorem eK.append{ρ:Ren}:∀{l l' m m':List MapEntry},eK ρ l l'->eK ρ m m'->eK ρ (l++m) (l'++m')
 |_,_,_,_,.nil,k=>k
 |_,_,_,_,.cons a a' l l' hk hv hb hs,k=>.cons _ _ _ _ hk hv hb (hs.append k)
theorem eK.erase{ρ:Ren}:∀{l l':List MapEntry},eK ρ l l'->∀i,eK ρ (l.eraseIdx i) (l'.eraseIdx i)
 |_,_,.nil,i=>.nil
 |_,_,.cons a a' l l' hk hv hb hs,0=>hs
 |_,_,.cons a a' l l' hk hv hb hs,i+1=>.cons _ _ _ _ hk hv hb (hs.erase i)
theorem t8{l:List MapEntry}{i:Nat}{e:MapEntry}(f:MapEntry->MapEntry)(h:l[i]?=some e):l.toArray.modify i f=(l.set i (f e)).toArray:=by
 apply Array.ext';apply acN;intro j;rw[acr,acK];show _=(l.set i (f e))[j]?;rw[List.getElem?_set];by_cases hj:i=j
 ·subst hj;obtain⟨h1,h2⟩:=List.getElem?_eq_some_iff.1 h;simp[h1,h2]
 simp[hj]
theorem AL{old new:Value}(h:fU old new=true):(Instr.keyThatStays old new).run P w=.ok new w:=by
 unfold fU at h;simp only[abZ]at h;unfold Instr.keyThatStays;rw[if_pos h.2];rfl
theorem EC{S:Sem Unit}{n c c2:Nat}{i:RI}{es es2 es' es2':List MapEntry}{v:Value}(hv:v=undef)(hH:HR P ρ W.get w)(hr:ρ n=some i)(hg:W.get n=some (.map es c))(hb:w.heap[i.b]?=some (.map es'.toArray c))(h2:eK ρ es2 es2')
 (hS:S.run P w=.ok () (gH w i.b (.map es2'.toArray c2))):cV P ρ W w (do S;pure .skip) (.mod v (W.put n (some (.map es2 c2)))):=fun _=>by
 subst hv;obtain⟨q1,q2⟩:=hH.put hr (by rw[hg];simp) (.map es2 c2) (gO w i.b _) (ka hb) (.map es2 es2' c2 h2);exact⟨undef,ρ,_,gu hS,q2,q1,pg⟩
theorem zw{S:Sem Value}{n c c2:Nat}{i:RI}{es es2 es' es2':List MapEntry}{v v':Value}(hv:VR ρ v v')(hH:HR P ρ W.get w)(hr:ρ n=some i)(hg:W.get n=some (.map es c))(hb:w.heap[i.b]?=some (.map es'.toArray c))(h2:eK ρ es2 es2')
 (hS:S.run P w=.ok v' (gH w i.b (.map es2'.toArray c2))):cV P ρ W w (do pure (.value (<-S))) (.mod v (W.put n (some (.map es2 c2)))):=fun _=>by
 obtain⟨q1,q2⟩:=hH.put hr (by rw[hg];simp) (.map es2 c2) (gO w i.b _) (ka hb) (.map es2 es2' c2 h2);exact⟨v',ρ,_,gv hS,q2,q1,hv⟩
theorem yC{t:TypeId}{m k x:Operand}{r:XR}(hH:HR P ρ W.get w)(hE:Ev ρ fr e)(h:wX P W (P.underlying t) (ev fr m) (ev fr k) (ev fr x)=some r):cV P ρ W w (do Instr.mapUpdate t (e m) (e k) (e x);pure .skip) r:=by
 unfold wX at h;split at h
 ·rename_i kt el n kv v ht hm hk hx;unfold m5 at h;split at h
  ·rename_i es c hg;cases hko:gD P kt kv false with
   |false=>rw[hko]at h;cases h
   |true=>
    rw[hko]at h;simp only[cond_true]at h;obtain⟨hkf,hck⟩:=qe (w:=w) hko;have hke:=(hE k _ hk).flatEq hkf;have hxe:=hE x _ hx;obtain⟨i,hr,hme⟩:=(hE m _ hm).mapInv;obtain⟨es',g1,g2⟩:=oK hH hr hg;cases hfx:gb P kt kv es with
    |none=>rw[hfx]at h;cases h
    |some q=>
     rw[hfx]at h;obtain⟨r',f1,f2⟩:=pV (w:=w) g2 hfx;cases f2 with
     |none=>
      cases h;refine EC rfl hH hr hg g1 (g2.append (.cons ⟨kv,v,c⟩ ⟨kv,e x,c⟩ _ _ (.flat 8 _ hkf) hxe rfl .nil)) ?_;unfold Instr.mapUpdate;rw[hme,hke];simp only[abU,aI ht,abQ,dF g1,hck,f1,ab0];rw[iT g1];simp
     |some j u u' hu=>
      simp only[sj]at h;cases hj:es[j]? with
      |none=>rw[hj]at h;cases h
      |some en=>
       rw[hj]at h;simp only[wT]at h;cases hks:fU en.key kv with
       |false=>rw[hks]at h;cases h
       |true=>
        rw[hks]at h;cases h;obtain⟨en',e1,e2,e3,e4⟩:=g2.get j en hj;have hkeq:en'.key=en.key:=e2.flatEq (by unfold fU at hks;simp only[abZ]at hks;exact hks.1);refine EC rfl hH hr hg g1 (g2.set j (e:=⟨kv,v,en.born⟩) (e':=⟨kv,e x,en'.born⟩) (.flat 8 _ hkf) hxe e4) ?_;unfold Instr.mapUpdate;rw[hme,hke];have hst:(Instr.keyThatStays (((es'.toArray[j]?).map (·.key)).getD kv) kv).run P w=.ok kv w:=by rw[List.getElem?_toArray,e1];simp only[ach,acP,hkeq];exact AL hks
        simp only[abU,aI ht,abQ,dF g1,hck,f1,hst,ab0];rw[iT g1,t8 _ e1]
  cases h
 cases h
theorem Ek{t:TypeId}{m k:Operand}{r:XR}(hH:HR P ρ W.get w)(hE:Ev ρ fr e)(h:CO P W (P.underlying t) (ev fr m) (ev fr k)=some r):cV P ρ W w (do pure (.value (<-Instr.mapEntry t (e m) (e k)))) r:=by
 unfold CO at h;split at h
 ·rename_i kt el n kv ht hm hk;unfold M2 at h;split at h
  ·rename_i es c z hg hz;cases hko:gD P kt kv false with
   |false=>rw[hko]at h;cases h
   |true=>
    rw[hko]at h;simp only[cond_true]at h;obtain⟨hkf,hck⟩:=qe (w:=w) hko;have hke:=(hE k _ hk).flatEq hkf;obtain⟨i,hr,hme⟩:=(hE m _ hm).mapInv;obtain⟨es',g1,g2⟩:=oK hH hr hg;obtain⟨_,_,_,hzf⟩:=gd hz;cases hfx:gb P kt kv es with
    |none=>rw[hfx]at h;cases h
    |some q=>
     rw[hfx]at h;obtain⟨r',f1,f2⟩:=pV (w:=w) g2 hfx;cases f2 with
     |none=>
      cases h;refine zw (v':=.tuple #[z,goInt c]) (.tuple [_,_] [_,_] (.cons _ _ _ _ (.flat 8 _ hzf) (.cons _ _ _ _ (.flat 1 _ rfl) .nil))) hH hr hg g1 (g2.append (.cons ⟨kv,z,c⟩ ⟨kv,z,c⟩ _ _ (.flat 8 _ hkf) (.flat 8 _ hzf) rfl .nil)) ?_;unfold Instr.mapEntry;rw[hme,hke];simp only[abU,aI ht,abQ,dF g1,hck,f1,ab0,gZ hz];rw[iT g1];simp
     |some j u u' hu=>
      simp only[NI]at h;cases hj:es[j]? with
      |none=>rw[hj]at h;cases h
      |some en=>
       rw[hj]at h;simp only[M8]at h;cases hks:fU en.key kv with
       |false=>rw[hks]at h;cases h
       |true=>
        rw[hks]at h;cases h;obtain⟨en',e1,e2,e3,e4⟩:=g2.get j en hj;have hkeq:en'.key=en.key:=e2.flatEq (by unfold fU at hks;simp only[abZ]at hks;exact hks.1);refine zw (v':=.tuple #[u',goInt en'.born]) (.tuple [_,_] [_,_] (.cons _ _ _ _ hu (.cons _ _ _ _ (by rw[e4];exact .flat 1 _ rfl) .nil))) hH hr hg g1 (g2.set j (e:=⟨kv,en.val,en.born⟩) (e':=⟨kv,en'.val,en'.born⟩) (.flat 8 _ hkf) e3 e4) ?_;unfold Instr.mapEntry;rw[hme,hke];have hst:(Instr.keyThatStays (((es'.toArray[j]?).map (·.key)).getD kv) kv).run P w=.ok kv w:=by rw[List.getElem?_toArray,e1];simp only[ach,acP,hkeq];exact AL hks
        simp only[abU,aI ht,abQ,dF g1,hck,f1,hst,ab0];rw[iT g1,t8 _ e1,List.getElem?_toArray,e1];rfl
  cases h
 cases h
end
section
variable {P:Program} {ρ:Ren} {W:XW} {w:World} {fr:XF} {e:Operand->Value}
theorem Ie{ats:Array TypeId}{ty:TypeId}{m k m' k':Value}{r:XR}(hH:HR P ρ W.get w)(hm:VR ρ m m')(hk:VR ρ k k')(h:HW P W m k (gB P ats[0]?)=some r):cV P ρ W w (do pure (.value (<-Builtin.delete_ ats ty #[m',k']))) r:=by
 cases h0:ats[0]? with
 |none=>rw[h0]at h;cases h
 |some t=>
  rw[h0]at h;simp only[gB]at h;unfold HW at h;split at h
  ·rename_i kt el ht;split at h
   ·rename_i n;unfold ON at h;split at h
    ·rename_i es c hg;cases hko:gD P kt k es.isEmpty with
     |false=>rw[hko]at h;cases h
     |true=>
      rw[hko]at h;simp only[cond_true]at h;obtain⟨hkf,hck⟩:=qe (w:=w) hko;have hke:=hk.flatEq hkf;obtain⟨i,hr,rfl⟩:=hm.mapInv;obtain⟨es',g1,g2⟩:=oK hH hr hg;cases hfx:gb P kt k es with
      |none=>rw[hfx]at h;cases h
      |some q=>
       rw[hfx]at h;obtain⟨r',f1,f2⟩:=pV (w:=w) g2 hfx;have hck':(Instr.checkKey es'.toArray.isEmpty 10000 kt k').run P w=.ok () w:=by rw[hke,sG g2];exact hck
       rw[<-hke]at f1;cases f2 with
       |none=>
        cases h;refine⟨.tuple #[],.inl ?_,fun x hx=>by cases hx;exact .flat 1 _ rfl⟩;have hid:gH w i.b (.map es'.toArray c)=w:=by
         have hlt:=fy g1;have hx:w.heap.setIfInBounds i.b (.map es'.toArray c)=w.heap:=by
          apply Array.ext_getElem?;intro j;by_cases hj:i.b=j
          ·subst hj;rw[ac6,if_pos hlt,g1]
          rw[acB hj]
         unfold gH;rw[hx]
        rw[abU];simp only[Builtin.delete_,h0,List.getElem?_toArray,List.getElem?_cons_zero,List.getElem?_cons_succ,abU,aI ht,abQ,dF g1,hck',f1,iT g1,hid,ab0]
       |some j u u' hu=>
        cases h;refine zw (v':=.tuple #[]) (.flat 1 _ rfl) hH hr hg g1 (g2.erase j) ?_;simp only[Builtin.delete_,h0,List.getElem?_toArray,List.getElem?_cons_zero,List.getElem?_cons_succ,abU,aI ht,abQ,dF g1,hck',f1,iT g1,ab0];rw[List.eraseIdxIfInBounds_toArray]
    cases h
   cases h
  cases h
theorem eK.findIdx{ρ:Ren}{born:Int}:∀{l l':List MapEntry},eK ρ l l'->l'.findIdx? (fun e=>(e.born:Int)==born)=l.findIdx? (fun e=>(e.born:Int)==born)
 |_,_,.nil=>rfl
 |_,_,.cons a a' l l' hk hv hb hs=>by rw[List.findIdx?_cons,List.findIdx?_cons,hb,hs.findIdx]
theorem Ab{t:TypeId}{m s x:Operand}{r:XR}(hH:HR P ρ W.get w)(hE:Ev ρ fr e)(h:CL W (ev fr m) (ev fr s) (ev fr x)=some r):cV P ρ W w (do Instr.entryStore t (e m) (e s) (e x);pure .skip) r:=by
 unfold CL at h;split at h
 ·rename_i n k born v hm hs hx;unfold NB at h;split at h
  ·rename_i es c hg;have hse:=(hE s _ hs).int;have hxe:=hE x _ hx;obtain⟨i,hr,hme⟩:=(hE m _ hm).mapInv;obtain⟨es',g1,g2⟩:=oK hH hr hg;cases hf:es.findIdx? (fun e=>(e.born:Int)==born)with
   |none=>rw[hf]at h;cases h
   |some j=>
    rw[hf]at h;simp only[OB]at h;cases hj:es[j]? with
    |none=>rw[hj]at h;cases h
    |some en=>
     rw[hj]at h;cases h;obtain⟨en',e1,e2,e3,e4⟩:=g2.get j en hj;refine EC rfl hH hr hg g1 (g2.set j (e:=⟨en.key,v,en.born⟩) (e':=⟨en'.key,e x,en'.born⟩) e2 hxe e4) ?_;unfold Instr.entryStore;rw[hme,hse];have hfi:es'.toArray.findIdx? (fun e=>(e.born:Int)==born)=some j:=by rw[List.findIdx?_toArray,g2.findIdx,hf]
     simp only[abU,abQ,dF g1,asInt,asIntOf,ab0,hfi];rw[iT g1,t8 _ e1]
  cases h
 cases h
theorem je{b:Nat}{q:Option Nat}{since stepped:Nat}{seen:Array Nat}(h:w.heap[b]?=some (.mapIter q since seen stepped)):(getObj b).run P w=.ok (.mapIter q since seen stepped) w:=by
 simp only[getObj,Sem.run,h]
theorem CU(hH:HR P ρ W.get w){n m since stepped:Nat}{seen:List Nat}{i:RI}(hr:ρ n=some i)(hg:W.get n=some (.iter m since seen stepped)):∃q,ρ m=some q/\w.heap[i.b]?=some (.mapIter (some q.b) since seen.toArray stepped)/\i.s=0:=by
 obtain⟨ob,h1,h2⟩:=hH.obj n i _ hr hg;cases h2 with
 |iter _ _ _ _ q h hs=>exact⟨q,h,h1,hs⟩
theorem Ky{t:TypeId}{x:Operand}{r:XR}(hH:HR P ρ W.get w)(hE:Ev ρ fr e)(h:wv W (P.underlying t) (ev fr x)=some r):cV P ρ W w (do pure (.value (<-Instr.range t (e x)))) r:=by
 unfold wv at h;split at h
 ·rename_i kt el n ht hx;unfold z8 at h;split at h
  ·rename_i es c hg;cases h;obtain⟨i,hr,hxe⟩:=(hE x _ hx).mapInv;obtain⟨es',g1,g2⟩:=oK hH hr hg;refine zh (i:=⟨w.heap.size,0,0,0,0⟩) hH rfl (u:=.pointer (some ⟨w.heap.size,0,none⟩)) ?_ (fun hn=>.iter n c [] c i (gj _ hn _ _ hr) rfl) Ad;unfold Instr.range;rw[hxe];simp only[abU,aI ht,abQ,dF g1,ab0];rfl
  cases h
 cases h
theorem eK.filter{ρ:Ren}{p:Nat->Bool}:∀{l l':List MapEntry},eK ρ l l'->eK ρ (l.filter fun e=>p e.born) (l'.filter fun e=>p e.born)
 |_,_,.nil=>.nil
 |_,_,.cons a a' l l' hk hv hb hs=>by
  rw[ac8,ac8,hb];cases p a.born with
  |true=>exact .cons _ _ _ _ hk hv hb hs.filter
  |false=>exact hs.filter
theorem eK.all{ρ:Ren}{p:Nat->Bool}:∀{l l':List MapEntry},eK ρ l l'->(l'.all fun e=>p e.born)=(l.all fun e=>p e.born)
 |_,_,.nil=>rfl
 |_,_,.cons a a' l l' hk hv hb hs=>by rw[List.all_cons,List.all_cons,hb,hs.all]
theorem EE{seen:List Nat}:(fun e:MapEntry=>!seen.toArray.contains e.born)=gC seen:=by
 funext e;unfold gC;congr 1;rw[List.contains_toArray]
 induction seen with
 |nil=>rfl
 |cons a l ih=>
  rw[List.contains_cons,List.any_cons,ih];congr 1;cases q:Nat.beq a e.born with
  |true=>have:=abY q;subst this;simp
  |false=>
   have:a≠e.born:=fun h=>by subst h;rw[acb]at q;cases q
   simp;exact fun h=>this h.symm
theorem N5{x:Operand}{s:Bool}{ty:TypeId}{r:XR}(hH:HR P ρ W.get w)(hE:Ev ρ fr e)(h:Dx W s (ev fr x)=some r):cV P ρ W w (do pure (.value (<-Instr.next (e x) s ty))) r:=by
 unfold Dx at h;split at h
 ·rename_i n hx;unfold OL at h;split at h
  ·rename_i m since seen last hg;unfold M7 at h;split at h
   ·rename_i es c hgm;obtain⟨i,hr,hxe⟩:=(hE x _ hx).ptrInv;obtain⟨q,hq,hit,hs0⟩:=CU hH hr hg;obtain⟨es',g1,g2⟩:=oK hH hq hgm;cases hc:(!seen.isEmpty&&!es.isEmpty&&es.all (fun e=>Nat.ble last e.born))with
    |true=>rw[hc]at h;cases h
    |false=>
     rw[hc]at h;simp only[cond_false]at h;have hc':(!seen.toArray.isEmpty&&!es'.toArray.isEmpty&&es'.toArray.all (fun e=>decide (e.born>=last)))=false:=by
      rw[<-hc,sG g2,List.isEmpty_toArray,List.all_toArray];congr 1;have:(fun e:MapEntry=>decide (e.born>=last))=fun e=>Nat.ble last e.born:=by
       funext e;cases h1:Nat.ble last e.born with
       |true=>exact decide_eq_true (Nat.le_of_ble_eq_true h1)
       |false=>exact decide_eq_false fun h2=>by rw[acX h2]at h1;cases h1
      rw[this];exact g2.all (p:=fun b=>Nat.ble last b)
     have hleft:es'.toArray.filter (fun e=>!seen.toArray.contains e.born)=(es'.filter (gC seen)).toArray:=by rw[EE,List.filter_toArray]
     have hfil:=g2.filter (p:=fun b=>!(seen.any fun n=>Nat.beq n b));have hfe:(es.filter fun e=>!(seen.any fun n=>Nat.beq n e.born))=es.filter (gC seen):=rfl;have hfe':(es'.filter fun e=>!(seen.any fun n=>Nat.beq n e.born))=es'.filter (gC seen):=rfl;rw[hfe,hfe']at hfil;rw[Nat.zero_add,hs0]at hxe;unfold NN at h;split at h
     ·rename_i hnil;rw[hnil]at hfil;generalize he':es'.filter (gC seen)=L at hfil hleft;cases hfil;cases h;refine xv (u:=.tuple #[.bool false]) ?_ (.flat 8 _ rfl);unfold Instr.next;rw[hxe];simp only[abU,abQ,je hit,dF g1];rw[if_neg (by rw[hc'];exact acf)];simp only[abU,ab0,abQ,hleft];simp[choose,Sem.run,Question.forced]
     ·rename_i en hone;rw[hone]at hfil;generalize he':es'.filter (gC seen)=L at hfil hleft;cases hfil with
      |cons _ en' _ _ hk hv hb hs'=>
       cases hs';cases hlt:Nat.blt en.born since with
       |false=>rw[hlt]at h;cases h
       |true=>
        rw[hlt]at h;cases h;have hlt':en'.born<since:=by rw[hb];exact Nat.le_of_ble_eq_true hlt
        intro _;obtain⟨r1,r2⟩:=hH.put hr (by rw[hg];simp) (.iter m since (seen++[en.born]) c) (gO w i.b (.mapIter (some q.b) since (seen++[en.born]).toArray c)) (ka hit) (.iter _ _ _ _ q hq hs0);refine⟨.tuple #[.bool true,en'.key,en'.val],ρ,_,gv ?_,r2,r1,.tuple [_,_,_] [_,_,_] (.cons _ _ _ _ (.flat 1 _ rfl) (.cons _ _ _ _ hk (.cons _ _ _ _ hv .nil)))⟩;unfold Instr.next;rw[hxe];simp only[abU,abQ,je hit,dF g1];rw[if_neg (by rw[hc'];exact acf)];have hold:(#[en'].filter fun e=>decide (e.born<since))=#[en']:=by simp[hlt']
        have hnew:(#[en'].filter fun e=>decide (e.born>=since))=#[]:=by simp;omega
        have hl2:es'.toArray.filter (fun e=>!seen.toArray.contains e.born)=#[en']:=hleft;simp only[abU,ab0,abQ,hl2,hold,hnew];have hch:(choose (.mapNext ((if(#[en']:Array MapEntry).isEmpty=true then #[none]else #[])++(#[en']++#[]:Array MapEntry).map some).size)).run P w=.ok 0 w:=by simp[choose,Sem.run,Question.forced]
        rw[hch,abQ];have hst:∀o,(setObj i.b o).run P w=.ok () (gH w i.b o):=fun o=>by simp only[setObj,Sem.run,hit,gH]
        have hcand:((if(#[en']:Array MapEntry).isEmpty=true then #[none]else #[])++(#[en']++#[]:Array MapEntry).map some)[0]?=some (some en'):=by simp
        rw[hcand];simp only[];rw[abU,hst,abQ,hb];rw[show seen.toArray.push en.born=(seen++[en.born]).toArray by simp];rfl
     cases h
   cases h
  cases h
 cases h
theorem Me{x:Operand}{r:XR}(hH:HR P ρ W.get w)(hE:Ev ρ fr e)(h:we W (ev fr x)=some r):cV P ρ W w (do pure (.value (<-Instr.entry (e x)))) r:=by
 unfold we at h;split at h
 ·rename_i n hx;unfold yL at h;split at h
  ·rename_i m since seen stepped hg;unfold yY at h;split at h
   ·rename_i es c st hgm hlast;obtain⟨i,hr,hxe⟩:=(hE x _ hx).ptrInv;obtain⟨q,hq,hit,hs0⟩:=CU hH hr hg;obtain⟨es',g1,g2⟩:=oK hH hq hgm;rw[Nat.zero_add,hs0]at hxe;cases hc:Nat.beq c stepped with
    |false=>rw[hc]at h;cases h
    |true=>
     rw[hc]at h;simp only[cond_true]at h;have hcs:=abY hc;subst hcs;have hfind:∀{l l':List MapEntry},eK ρ l l'->(l.find? (fun e=>Nat.beq e.born st)=none/\l'.find? (fun e=>e.born==st)=none)\/∃a a',l.find? (fun e=>Nat.beq e.born st)=some a/\l'.find? (fun e=>e.born==st)=some a'/\VR ρ a.key a'.key/\VR ρ a.val a'.val:=by
      intro l l' hl
      induction hl with
      |nil=>exact .inl ⟨rfl,rfl⟩
      |cons a a' l l' hk hv hb hs ih=>
       rw[List.find?_cons,List.find?_cons,hb];cases hq:Nat.beq a.born st with
       |true=>
        have:(a.born==st)=true:=by rw[abY hq];simp
        rw[this];exact .inr ⟨a,a',rfl,rfl,hk,hv⟩
       |false=>
        have:(a.born==st)=false:=by
         cases hz:(a.born==st)with
         |false=>rfl
         |true=>rw[eq_of_beq hz,acb]at hq;cases hq
        rw[this];exact ih
     rcases hfind g2 with⟨q1,q2⟩|⟨a,a',q1,q2,hk,hv⟩
     ·rw[q1]at h;cases h
     rw[q1]at h;cases h;refine xv (u:=.tuple #[a'.key,a'.val]) ?_ (.tuple [_,_] [_,_] (.cons _ _ _ _ hk (.cons _ _ _ _ hv .nil)));unfold Instr.entry;rw[hxe];have hback:seen.toArray.back?=some st:=by rw[List.back?_toArray];exact hlast
     have hfa:es'.toArray.find? (fun e=>e.born==st)=some a':=by rw[List.find?_toArray];exact q2
     simp only[abU,abQ,je hit,dF g1,hback];rw[if_neg (by simp)];simp only[abU,ab0,abQ,hfa]
   cases h
  cases h
 cases h
theorem Id{x:Operand}{xt t:TypeId}{ok:Bool}{r:XR}(hE:Ev ρ fr e)(h:yI P t ok (ev fr x) (P.underlying t)=some r):cV P ρ W w (do pure (.value (<-Instr.typeAssert (e x) xt t ok))) r:=by
 unfold yI at h;split at h
 ·cases h
 ·rename_i u v d hni hx hud;obtain⟨v',hxe,hv⟩:=(hE x _ hx).ifaceInv;have notI:∀ms,d≠.interface ms:=fun ms e=>hni ms e
  cases hq:Nat.beq u t with
  |true=>
   rw[hq]at h;cases h;have:=abY hq;subst this;refine xv (u:=om ok v' true) ?_ (zr hv);unfold Instr.typeAssert;rw[hxe,abU,aI hud,abQ];cases d<;>first|exact absurd rfl (notI _)|skip
   all_goals
    simp only[];rw[if_pos trivial];cases ok<;>rfl
  |false=>
   rw[hq]at h;simp only[cond_false]at h;have hne:u≠t:=fun e=>by subst e;rw[acb]at hq;cases hq
   unfold Et at h;split at h
   ·rename_i z hz;cases h;obtain⟨_,_,_,hzf⟩:=gd hz;refine xv (u:=.tuple #[z,.bool false]) ?_ (.tuple [_,_] [_,_] (.cons _ _ _ _ (.flat 8 _ hzf) (.cons _ _ _ _ (.flat 1 _ rfl) .nil)));unfold Instr.typeAssert;rw[hxe,abU,aI hud,abQ];cases d<;>first|exact absurd rfl (notI _)|skip
    all_goals
     simp only[];rw[if_neg hne];simp only[if_true,abU,gZ hz,abQ,ab0]
   cases h
 cases h
theorem RS{t:TypeId}{x:Operand}{r:XR}(hE:Ev ρ fr e)(h:Dp (P.underlying t) (ev fr x)=some r):cV P ρ W w (do pure (.value (<-Instr.arrayAt t (e x)))) r:=by
 unfold Dp at h;split at h
 ·rename_i n el a len cap hu hx;cases hq:(Nat.ble n len&&Nat.blt 0 n)with
  |false=>rw[hq]at h;cases h
  |true=>
   rw[hq]at h;cases h;simp only[abZ]at hq;have h1:=Nat.le_of_ble_eq_true hq.1;have h2:0<n:=Nat.le_of_ble_eq_true hq.2;obtain⟨b,o,rfl⟩:=(hE x _ hx).sliceAddr;obtain⟨i,hr,hcase⟩:=(hE x _ hx).sliceInv (kj (by omega));have key:∃cap',e x=.slice (some ⟨i.b,o+i.s,none⟩) len cap':=by
    rcases hcase with⟨_,q⟩|⟨_,c,q,_⟩|⟨_,q,_⟩|⟨_,q,_⟩
    ·exact⟨_,q⟩
    ·exact⟨_,q⟩
    ·omega
    omega
   obtain⟨cap',hxe⟩:=key;refine xv (u:=.pointer (some ⟨i.b,o+i.s,none⟩)) ?_ (.ptr _ _ _ hr);unfold Instr.arrayAt;rw[hxe,abU,aI hu,abQ];simp only[];rw[if_neg (by omega)];rfl
 cases h
theorem Bp{el:TypeId}(hc:P.cellsOf el=1)(count off n:Nat)(hn:off+n<=count):liesAt P P.depth el count off el n=true:=by
 have hd:P.depth=(2*(P.types.size+Made.depth)+1)+1:=rfl;rw[hd];simp only[liesAt,acs];left;rw[hd];simp[rowAt,hc,hn,sameLayout,Nat.mod_one]
theorem Bo{ats:Array TypeId}{pt ty el:TypeId}{k:IntKind}{g o cells:Nat}(h0:ats[0]?=some pt)(hp:P.underlying pt=some (.pointer el))(hc:P.cellsOf el=1)(hsh:w.shape? g=some (el,cells))(l:List UInt8)(hl:l.length≠0)(hn:o+l.length<=cells)(h63:l.length<=9223372036854775807)
 (hcell:∀j x,l[j]?=some x->w.cell? ((⟨g,o,none⟩:Addr).add j)=some (.int .u8 x.toNat)) :
 (Builtin.unsafeString_ ats ty #[.pointer (some ⟨g,o,none⟩),.int k l.length]).run P w=.ok (.string ⟨l.toArray⟩) (w.freeze ⟨g,o,none⟩ l.length):=by
 have hlb:=Lib.run_loadBytes (P:=P) w l ⟨g,o,none⟩ .empty hcell;have hlies:=Bp (P:=P) hc (cells/P.cellsOf el) o l.length (by rw[hc];simpa using hn);have h63':¬(9223372036854775807:Int)<(l.length:Int):=by omega
 have hdef:Builtin.unsafeString_ ats ty #[.pointer (some ⟨g,o,none⟩),.int k l.length] =
  (do
   let n <-asInt (.int k l.length)
   let some pt:=ats[0]?|stuck "unsafe.String: no argument types"
   if n<0 then runtimePanic (.error "unsafe.String: len out of range")
   if n>IntKind.i64.max then unsupported (.unsafePointer "String: a length above the largest int")
   if n=0 then pure (.string .empty)
   else if <-variablesAt ⟨g,o,none⟩ (<-elemOf pt) n.toNat then do
    let s <-loadBytes ⟨g,o,none⟩ .empty n.toNat
    freeze ⟨g,o,none⟩ n.toNat
    pure (.string s)
   else unsupported (.unsafePointer "String: not so many bytes at ptr")):=rfl
 rw[hdef];have hmax:IntKind.i64.max=9223372036854775807:=rfl;have hneg:¬(l.length:Int)<0:=by omega
 simp[asInt,asIntOf,hmax,h63',hneg,hl,variablesAt,hsh,elemOf,aI hp,hlies,hlb,h0]
theorem J2{b o n:Nat}{c:Array Value}{t:TypeId}{lo hi:Nat}(hn:n≠0)(h:w.heap[b]?=some (.cells c t (lo,hi))) :
 (w.freeze ⟨b,o,none⟩ n).heap[b]?=some (.cells c t (if lo==hi then(o,o+n)else(min lo o,max hi (o+n)))):=by
 unfold World.freeze;rw[if_neg hn];simp only[acK,h];simp
theorem Fe(b o n:Nat):ak (fun k=>k=b) w (w.freeze ⟨b,o,none⟩ n):=by
 unfold World.freeze;split
 ·exact ak.refl _ _
 exact⟨rfl,rfl,rfl,by simp,fun k hk hne=>by
  simp only[acK];rw[if_neg (fun e=>hne e.symm)]⟩
theorem wN{ats:Array TypeId}{ty:TypeId}{p n p' n':Value}{r:XR}(hH:HR P ρ W.get w)(hp:VR ρ p p')(hn:VR ρ n n')(h:wt P W p n (gB P ats[0]?)=some r) :
 cV P ρ W w (do pure (.value (<-Builtin.unsafeString_ ats ty #[p',n']))) r:=by
 cases h0:ats[0]? with
 |none=>rw[h0]at h;cases h
 |some t=>
  rw[h0]at h;simp only[gB]at h;unfold wt at h;split at h
  ·rename_i pe ht;split at h
   ·rename_i k;cases h;have h1:=hp.of_flat 1 rfl;have h2:=hn.int;subst h1;subst h2;refine xv (u:=.string .empty) ?_ (.flat 1 _ rfl);have hmax:IntKind.i64.max=9223372036854775807:=rfl;have hdef:Builtin.unsafeString_ ats ty #[.pointer none,.int k (Int.ofNat 0)] =
     (do
      let n <-asInt (.int k (Int.ofNat 0))
      let some pt:=ats[0]?|stuck "unsafe.String: no argument types"
      if n<0 then runtimePanic (.error "unsafe.String: len out of range")
      if n>IntKind.i64.max then unsupported (.unsafePointer "String: a length above the largest int")
      if n=0 then pure (.string .empty)
      else runtimePanic (.error "unsafe.String: ptr is nil and len is not zero")):=rfl
    rw[hdef];simp[asInt,asIntOf,hmax,h0]
   ·rename_i b k m;have h2:=hn.int;subst h2;obtain⟨i,hr,rfl⟩:=hp.ptrInv;unfold zQ at h;split at h
    ·rename_i c el f hg;cases q:(Nat.ble (m+1) c.length&&Nat.beq el pe&&Nat.beq f.1 0&&Nat.beq (P.cellsOf pe) 1&&Nat.ble (m+1) 1099511627776)with
     |false=>rw[q]at h;cases h
     |true=>
      rw[q]at h;simp only[cond_true]at h;simp only[abZ]at q;obtain⟨⟨⟨⟨q1,q2⟩,q3⟩,q4⟩,q5⟩:=q;have q1:=Nat.le_of_ble_eq_true q1;have q2:=abY q2;have q3:=abY q3;have q4:=abY q4;have q5:=Nat.le_of_ble_eq_true q5;subst q2;cases hb:eJ (c.take (m+1))with
      |none=>rw[hb]at h;cases h
      |some bs=>
       rw[hb]at h;cases h;intro _;have hbs:=sM hb;have hbl:bs.length=m+1:=by have:=congrArg List.length hbs;rw[abR,bE]at this;omega
       obtain⟨ob,hb1,hb2⟩:=hH.obj b i _ hr hg;cases hb2 with
       |cells _ _ _ c' f' hz hrr hk hl hv hf hq hm=>
        obtain⟨lo,hi⟩:=f';have hcell:∀(j:Nat) (x:UInt8),bs[j]?=some x->w.cell? ((⟨i.b,0+i.s,none⟩:Addr).add j)=some (.int .u8 x.toNat):=fun j x hj=>by
         have hj':j<m+1:=by rw[<-hbl];exact(List.getElem?_eq_some_iff.1 hj).1
         have e1:(c.take (m+1))[j]?=some (bv x):=by rw[hbs];simp[an,hj]
         rw[acw,if_pos hj']at e1;obtain⟨v',y1,y2⟩:=hv j _ e1;have y3:=y2.int;subst y3;rw[bX,bm hb1,Nat.zero_add];exact y1
        have hsh:w.shape? i.b=some (el,c'.size):=by simp[World.shape?,hb1]
        have hrun:=Bo (w:=w) (ty:=ty) (k:=k) h0 ht q4 hsh bs (by omega) (by omega) (by omega) hcell;rw[hbl]at hrun;obtain⟨r1,r2⟩:=hH.put hr (by rw[hg];simp) (.cells c el (0,Nat.max f.2 (m+1))) (Fe i.b (0+i.s) (m+1)) (J2 (o:=0+i.s) (n:=m+1) (by omega) hb1) (by
         refine .cells _ _ _ _ _ hz hrr hk hl hv (fun j hj g1 g2=>⟨abW _,?_⟩) ⟨?_,fun _=>?_⟩ hm
         ·show j<max f.2 (m+1);by_cases hlh:lo=hi
          ·subst hlh;simp at g1 g2;omega
          rw[if_neg (by simpa using hlh)]at g1 g2;simp only at g1 g2;rcases ab8 j (m+1)with g|g
          ·omega
          ·
           have hhi:i.s+j<hi:=by omega
           have hqz:hi<=i.z:=hq.2 q3;have hlohi:lo<=hi:=hq.1;rcases ab8 (i.s+j) lo with g3|g3
           ·have:=hf (hi-1-i.s) (by omega) (show lo<=i.s+(hi-1-i.s) by omega) (show i.s+(hi-1-i.s)<hi by omega);omega
           have:=hf j (by omega) g3 hhi;omega
         ·split
          ·exact ac9 _ _
          show min lo (0+i.s)<=max hi (0+i.s+(m+1));omega
         have h3:=hq.2 q3;simp only at h3;split
         ·show 0+i.s+(m+1)<=i.z;omega
         show max hi (0+i.s+(m+1))<=i.z;omega)
        refine⟨_,ρ,_,gv ?_,r2,r1,.flat 1 (.string ⟨bs.toArray⟩) rfl⟩;exact hrun
    cases h
   cases h
  cases h
theorem Qb{ats:Array TypeId}{ty:TypeId}{x x':Value}{r:XR}(hx:VR ρ x x')(h:Gw x=some r):cV P ρ W w (do pure (.value (<-Builtin.unsafeSliceData_ ats ty #[x']))) r:=by
 unfold Gw at h;split at h
 ·rename_i a n c;cases q:(Nat.beq n 0||Nat.beq c 0)with
  |true=>rw[q]at h;cases h
  |false=>
   rw[q]at h;cases h;simp only[Bool.or_eq_false_iff]at q;have hn:n≠0:=fun e=>by rw[e]at q;cases q.1
   have hc:c≠0:=fun e=>by rw[e]at q;cases q.2
   obtain⟨b,o,rfl⟩:=hx.sliceAddr;obtain⟨i,hr,hcase⟩:=hx.sliceInv (kj hn);rcases hcase with⟨_,rfl⟩|⟨_,c',rfl,q2,_⟩|⟨_,q2,_⟩|⟨_,q2,_⟩
   ·exact xv (Lib.run_unsafeSliceData_row w ats ty _ n c hc) (.ptr _ _ _ hr)
   ·exact xv (Lib.run_unsafeSliceData_row w ats ty _ n c' (by omega)) (.ptr _ _ _ hr)
   ·omega
   omega
 ·have:=hx.of_flat 1 rfl;subst this;cases h;exact xv (Lib.run_unsafeSliceData_nil w ats ty _ _) (.flat 1 _ rfl)
 cases h
theorem DH{l m:List Value}(h:aU ρ l m)(hf:l.all cy=true):m=l:=h.of_flat 8 fun u hu=>by
 rw[ada]at hf;exact hf u hu
theorem E7{b:Builtin}{ats:Array TypeId}{ty:TypeId}{cs:Array Bool}{args args':List Value}{r:XR}(hH:HR P ρ W.get w)(ha:aU ρ args args')(h:eD P W b ats ty args=some r):cV P ρ W w (builtin b ats ty cs args'.toArray) r:=by
 unfold eD at h;split at h
 ·cases ha with
  |cons _ x' _ _ hx hs=>
   cases hs;exact Ty hH hx h
 ·cases ha with
  |cons _ v' _ _ hv hs=>
   cases hs with
   |cons _ x' _ _ hx hs=>
    cases hs;rename_i v x;cases hn:me (gB P ats[1]?)with
    |false=>rw[hn]at h;cases h
    |true=>rw[hn]at h;exact IV hH hv hx hn h
 ·cases ha with
  |cons _ v' _ _ hv hs=>
   cases hs with
   |cons _ x' _ _ hx hs=>
    cases hs;exact OJ hH hv hx h
 ·cases ha with
  |cons _ v' _ _ hv hs=>
   cases hs with
   |cons _ x' _ _ hx hs=>
    cases hs;exact Ie hH hv hx h
 ·cases ha with
  |cons _ x' _ _ hx hs=>
   cases hs;exact Mr hH hx h
 ·cases hf:args.all cy with
  |false=>rw[hf]at h;cases h
  |true=>rw[hf]at h;rw[DH ha hf];exact JO h
 ·cases hf:args.all cy with
  |false=>rw[hf]at h;cases h
  |true=>rw[hf]at h;rw[DH ha hf];exact JO h
 ·cases ha with
  |cons _ x' _ _ hx hs=>
   cases hs;exact Qb hx h
 ·cases ha with
  |cons _ v' _ _ hv hs=>
   cases hs with
   |cons _ x' _ _ hx hs=>
    cases hs;exact wN hH hv hx h
 cases h
theorem OK{c:Call}{ty:TypeId}{r:XR}(hH:HR P ρ W.get w)(hE:Ev ρ fr e)(h:tT P fr W ty c.args.toList c.argTypes c.callee=some r):cV P ρ W w (do let d <-resolve e c ty;invoke d.target d.args) r:=by
 obtain⟨cl,args,ats⟩:=c;unfold tT at h;split at h
 ·rename_i b hb;simp only at hb;subst hb;cases ha:evs fr args.toList with
  |none=>simp only[ha]at h;cases h
  |some vs=>
   simp only[ha]at h;have hvs:=oT hE ha;have:=E7 (cs:=args.map fun|.const _=>true|_=>false) hH hvs h;rw[acR]at this;exact this
 ·rename_i f hf;simp only at hf;subst hf;unfold x5 at h;split at h
  ·rename_i g a cap vs hfe ha;cases h;obtain⟨xs',cs',hx,h1,h2⟩:=(hE f _ hfe).funcInv;have hvs:=oT hE ha;refine⟨xs'++(args.map e).toList++cs',?_,(h1.append hvs).append h2⟩;show((Deferred.ofValue (e f) (args.map e)) >>= fun d=>invoke d.target d.args).run P w=_;rw[hx];show(callFunc g ((xs'.toArray++args.map e)++cs'.toArray)).run P w=_;congr 2;apply Array.ext';simp
  ·rename_i l a cap vs hfe ha;obtain⟨i,hr,hx⟩:=(hE f _ hfe).yieldInv;cases q:(a.isEmpty&&cap.isEmpty)with
   |false=>rw[q]at h;cases h
   |true=>
    rw[q]at h;cases h;have hvs:=oT hE ha;refine⟨i,(args.map e).toList,hr,?_,hvs⟩;show((Deferred.ofValue (e f) (args.map e)) >>= fun d=>invoke d.target d.args).run P w=_;rw[hx];show(Instr.yield i.b (#[]++args.map e)).run P w=_;congr 2;apply Array.ext';simp
  cases h
 cases h
theorem Kd{c:Call}{ty:TypeId}{r:XR}(hE:Ev ρ fr e)(h:wV fr c.args.toList c.callee=some r):cV P ρ W w (do pure (.defer (<-resolve e c ty))) r:=by
 obtain⟨cl,args,ats⟩:=c;unfold wV at h;split at h
 ·rename_i f hf;simp only at hf;subst hf;unfold Di at h;split at h
  ·rename_i g a cap vs hfe ha;cases h;obtain⟨xs',cs',hx,h1,h2⟩:=(hE f _ hfe).funcInv;have hvs:=oT hE ha;refine⟨xs'++(args.map e).toList,cs',?_,h1.append hvs,h2⟩;show((Deferred.ofValue (e f) (args.map e)) >>= fun d=>pure (Next.defer d)).run P w=_;rw[hx];show Result.ok (Next.defer ⟨.fn (.func g) cs'.toArray,xs'.toArray++args.map e⟩) w=_;congr 3;apply Array.ext';simp
  cases h
 cases h
theorem MQ{x:Operand}{r:XR}(hE:Ev ρ fr e)(h:Eo (ev fr x)=some r):cV P ρ W w (do pure (.value (<-Instr.panic (e x)))) r:=by
 unfold Eo at h;split at h
 ·rename_i t v hx;cases h;have hv:=hE x _ hx;obtain⟨v',hxe,_⟩:=hv.ifaceInv;refine⟨e x,?_,hv⟩;rw[hxe];rfl
 cases h
theorem rj{o:Oper}{r:XR}(hH:HR P ρ W.get w)(hE:Ev ρ fr e)(h:cj P fr W o.type o.op=some r):cV P ρ W w (execOp e o) r:=by
 obtain⟨dst,op,type,pos,after,guard⟩:=o;simp only at h;cases op<;>simp only[cj]at h<;>first|cases h|skip
 case move x=>exact⟨e x,.inl rfl,fun v hv=>hE x v hv⟩
 case assign x=>exact⟨e x,.inl rfl,fun v hv=>hE x v hv⟩
 case pick c a b=>exact Nu hE h
 case alloc t=>exact KT hH h
 case box t x=>
  cases hx:ev fr x with
  |none=>rw[hx]at h;cases h
  |some v=>rw[hx]at h;exact QO hH (hE x v hx) h
 case build t ps=>
  cases hp:evP fr ps.toList with
  |none=>rw[hp]at h;cases h
  |some l=>
   rw[hp]at h;have:=Ki (w:=w) (W:=W) (hE.evP hp) h;have e1:(ps.toList.map fun(i,x)=>(i,e x)).toArray=ps.map fun(i,x)=>(i,e x):=by apply Array.ext';simp
   rw[e1]at this;exact this
 case buildSlice t n ps=>
  have:=Ah hH hE h;have e1:(ps.toList.map fun(i,x)=>(i,e x)).toArray=ps.map fun(i,x)=>(i,e x):=by apply Array.ext';simp
  rw[e1]at this;exact this
 case insert t m k v=>exact yC hH hE h
 case load t a=>exact MX hH hE h
 case store t a x=>exact J8 hH hE h
 case nilCheck x=>refine Dm (x:=x) (fun a ha=>?_) hE h;simp only[execOp,ha]
 case binOp op t x y yt=>exact R0 hE h
 case unOp op t x=>exact UY hE h
 case convert s d x=>exact Fs hH hE h
 case sliceToArrayPointer t x=>exact RS hE h
 case makeInterface t x=>exact LX hE h
 case makeFunc f a c=>exact D3 hE h
 case makeMap t r=>exact EW hH hE h
 case makeSlice t l c=>exact BC hH hE h
 case slice t x lo hi mx=>exact LL hH hE h
 case fieldAddr s x f=>exact Bl hE h
 case field t x f=>exact J6 hE h
 case indexAddr t x i=>exact Bw hE h
 case index t x i=>exact Jp hE h
 case lookup t m k ok=>exact Jl hH hE h
 case mapUpdate t m k v=>exact yC hH hE h
 case mapEntry t m k=>exact Ek hH hE h
 case entryStore t m s x=>exact Ab hH hE h
 case range t x=>exact Ky hH hE h
 case next it s=>exact N5 hH hE h
 case entry it=>exact Me hH hE h
 case typeAssert x xt t ok=>exact Id hE h
 case extract t i=>exact Fy hE h
 case call c=>exact OK hH hE h
 case defer c=>exact Kd hE h
 case panic x=>exact MQ hE h
end
end Go.Proofs.YthlkgmdkabelpaaGreat.X
