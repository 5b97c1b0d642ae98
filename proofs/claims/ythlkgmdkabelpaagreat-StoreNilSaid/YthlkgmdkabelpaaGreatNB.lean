/-
  Packed by program (tools/pack.py) out of the texts F1 F2 F3 F4 F5 F6 F7 F8 F9 F10 F11. No condition.
-/
import Derived.Test.YthlkgmdkabelpaaGreatNA
import Derived.Still
import Derived.OrdersIn
import Derived.RangeFuncIn
import Derived.Lib.ConvBytes
import Derived.Lib.UnsafeStr
set_option linter.all false
namespace Go.Proofs.YthlkgmdkabelpaaGreat.X
open Go Go.RowKit
inductive PT(α:Type) where
 |lf
 |nd (l:PT α) (v:Option α) (r:PT α)
def PT.get{α:Type}:PT α->Nat->Option α
 |.lf,_=>none
 |.nd l v r,n=>bif Nat.beq n 0 then v else bif Nat.beq (n%2) 1 then l.get (n/2)else r.get (n/2-1)
def PT.set{α:Type}:PT α->Nat->Option α->PT α
 |.lf,_,_=>.lf
 |.nd l v r,n,x=>bif Nat.beq n 0 then .nd l x r else bif Nat.beq (n%2) 1 then .nd (l.set (n/2) x) v r else .nd l v (r.set (n/2-1) x)
def PT.full{α:Type}:Nat->PT α
 |0=>.lf
 |k+1=>.nd (PT.full k) none (PT.full k)
def cb:Nat->Value->Bool
 |0,_=>false
 |_+1,.bool _=>true
 |_+1,.int _ _=>true
 |_+1,.string _=>true
 |_+1,.pointer none=>true
 |_+1,.slice none _ _=>true
 |_+1,.map none=>true
 |_+1,.nilFunc=>true
 |_+1,.nilIface=>true
 |_+1,.func (.func _) f c=>f.isEmpty&&c.isEmpty
 |n+1,.iface _ v=>cb n v
 |n+1,.agg cs=>cs.toList.all (cb n)
 |n+1,.tuple cs=>cs.toList.all (cb n)
 |_+1,_=>false
def FZ(cs:List Value)(len:Nat):Value:=.func (.methodOf len "") cs.toArray #[]
def FP(cs:List Value):Value:=.func (.method "") cs.toArray #[]
abbrev dw(v:Value):Bool:=cb 8 v
abbrev XF:=PT Value
inductive bb where
 |cells (c:List Value) (e:TypeId) (fr:Nat×Nat)
 |map (es:List MapEntry) (clock:Nat)
 |iter (m:Nat) (since:Nat) (seen:List Nat) (stepped:Nat)
 |loop (st:LoopState) (pend:Option Code) (tm:XF) (N:Nat) (ps:List Tmp) (asg body:Code) (defers:Nat)
 |defd (taken:Bool)
structure XW where
 heap:PT bb
 next:Nat
 log:List Nat
 nlog:Nat
def XW.get(W:XW)(n:Nat):Option bb:=bif Nat.blt n W.next then W.heap.get n else none
def XW.put(W:XW)(n:Nat)(o:Option bb):XW:=⟨W.heap.set n o,W.next,n::W.log,W.nlog+1⟩
def XW.push(W:XW)(o:bb):XW:=⟨W.heap.set W.next (some o),W.next+1,W.log,W.nlog⟩
def XW.empty:XW:=⟨PT.full 14,0,[],0⟩
def aM:Nat:=4611686018427387904
def bm(c:Nat):Bool:=Nat.ble 2305843009213693952 c
inductive XR where
 |val (v:Option Value)
 |new (o:bb) (k:Nat->Value)
 |mod (v:Value) (W:XW)
 |enter (f:FuncId) (args:List Value)
 |pan (v:Value)
 |defer (f:FuncId) (args:List Value) (cap:List Value)
 |round (l:Nat) (args:List Value)
def ev(fr:XF):Operand->Option Value
 |.tmp t=>fr.get t
 |.const v=>bif dw v then some v else none
 |.global _=>none
 |.func f=>some (.func (.func f) #[] #[])
def evs(fr:XF):List Operand->Option (List Value)
 |[]=>some []
 |x::l=>match ev fr x,evs fr l with
  |some v,some vs=>some (v::vs)
  |_,_=>none
def bQ{α:Type}(P:Program):Sem α->Option α
 |.pure a=>some a
 |.program k=>bQ P (k P)
 |.mark _ k=>bQ P k
 |.choose q k=>bif q.forced then bQ P (k 0)else none
 |_=>none
def sz(P:Program)(t:TypeId):Option Nat:=(P.info? t).map (·.size)
def bE(P:Program)(t:TypeId):Option Value:=
 match P.info? t with
 |some i=>match i.zero with
  |some z=>bif dw z then some z else none
  |none=>none
 |none=>none
def cS(P:Program)(t:TypeId):Option Bool:=
 match P.underlying t with
 |some (.struct _)=>some true
 |some (.array _ _)=>some true
 |some _=>some false
 |none=>none
def bk:Value->Bool
 |.agg _=>false
 |.tuple _=>false
 |_=>true
def mw(P:Program)(t:TypeId)(c:List Value)(o:Nat):Option Value:=
 match cS P t,sz P t with
 |some true,some s=>let l:=(c.drop o).take s;bif Nat.beq l.length s then some (.agg l.toArray)else none
 |some false,_=>c[o]?
 |_,_=>none
def fo(P:Program)(W:XW)(t:TypeId):Value->Option Value
 |.pointer (some ⟨n,o,none⟩)=>match W.get n with
  |some (.cells c _ _)=>mw P t c o
  |_=>none
 |.func (.method _) cs _=>mw P t cs.toList 0
 |_=>none
def tV(fr:Nat×Nat)(o s:Nat):Bool:=!(Nat.ble fr.2 fr.1||Nat.ble fr.2 o||Nat.ble (o+s) fr.1)
def wr(c:List Value)(o:Nat)(vs:List Value):List Value:=c.take o++(vs++c.drop (o+vs.length))
def ir(W:XW)(n o:Nat)(vs:List Value):Option XW:=
 match W.get n with
 |some (.cells c e fr)=>bif Nat.ble (o+vs.length) c.length&&!tV fr o vs.length&&vs.all bk then some (W.put n (some (.cells (wr c o vs) e fr)))else none
 |_=>none
def kO(place:Nat->Option (Nat×Nat))(cells:List Value):List (Nat×Value)->Option (List Value)
 |[]=>some cells
 |(i,v)::rest=>match place i with
  |none=>none
  |some (off,size)=>bif Nat.beq v.cells.size size&&Nat.ble (off+size) cells.length then kO place (wr cells off v.cells.toList) rest else none
def evP(fr:XF):List (Nat×Operand)->Option (List (Nat×Value))
 |[]=>some []
 |(i,x)::l=>match ev fr x,evP fr l with
  |some v,some vs=>some ((i,v)::vs)
  |_,_=>none
def rep(z:List Value):Nat->List Value
 |0=>[]
 |n+1=>z++rep z n
def lG(P:Program):List Field->Option (List (Nat×Nat))
 |[]=>some []
 |f::l=>match sz P f.type,lG P l with
  |some s,some r=>some ((f.offset,s)::r)
  |_,_=>none
def Gi:Option (List Value)->Option Value
 |some cs=>some (.agg cs.toArray)
 |none=>none
def Gs(z:Value)(ps:List (Nat×Value)):Option (List (Nat×Nat))->Option Value
 |some pl=>Gi (kO (fun i=>pl[i]?) z.cells.toList ps)
 |none=>none
def F0(z:Value)(ps:List (Nat×Value)):Option Nat->Option Value
 |some s=>Gi (kO (fun i=>some (i*s,s)) z.cells.toList ps)
 |none=>none
def tI(P:Program)(ps:List (Nat×Value)):Option Value->Option TypeDesc->Option Value
 |some z,some (.struct fs)=>Gs z ps (lG P fs.toList)
 |some z,some (.array _ e)=>F0 z ps (sz P e)
 |_,_=>none
def val(v:Value):Option XR:=some (.val (some v))
def F6(o:bb):Option XR:=some (.new o fun n=>.pointer (some ⟨n,0,none⟩))
def y6(o:bb)(len cap:Nat):Option XR:=some (.new o fun n=>.slice (some ⟨n,0,none⟩) len cap)
def xf(W:XW)(o:bb)(len cap:Nat):Option XR:=some (.mod (.slice (some ⟨W.next,0,none⟩) len cap) (W.push o))
def cG(fr:XF)(d:Nat):Option Operand->Option Nat
 |none=>some d
 |some x=>match ev fr x with
  |some (.int _ (.ofNat n))=>some n
  |_=>none
def fg(W:XW)(s n:Nat):Value->Option (List Value)
 |.slice none _ _=>bif Nat.beq n 0 then some []else none
 |.slice (some ⟨b,o,none⟩) _ _=>bif Nat.beq n 0 then some []else match W.get b with
  |some (.cells c _ _)=>let l:=(c.drop o).take (n*s);bif Nat.beq l.length (n*s)then some l else none
  |_=>none
 |.string t=>let l:=t.data.toList.map fun b=>Value.int .u8 b.toNat;some (l.take n)
 |.func (.methodOf _ _) cs _=>let l:=cs.toList.take (n*s);bif Nat.beq l.length (n*s)then some l else none
 |_=>none
def lm:Value->Option Nat
 |.slice _ n _=>some n
 |.string s=>some s.size
 |.func (.methodOf n _) _ _=>some n
 |_=>none
def wg(v:Value):Option XW->Option XR
 |some W=>some (.mod v W)
 |none=>none
def xR(fr:Nat×Nat)(o:Nat):Nat×Nat:=bif Nat.beq fr.1 0 then(0,fr.2-o)else(1,1)
def jM(W:XW)(cap:Nat)(e:TypeId):Option Addr->Bool
 |none=>!bm cap
 |some a=>!bm cap||(match W.get a.block with
  |some (.cells _ e' _)=>Nat.beq e e'
  |_=>false)
def mr(by_ need:Nat):Bool:=Nat.ble (need*by_) 1099511627776&&Nat.ble need 1099511627776
def GP(W:XW)(b o len n cap s by_:Nat)(e:TypeId)(src:List Value):Option bb->Option XR
 |some (.cells c e' fr)=>bif bm cap&&Nat.beq e e'&&Nat.ble (o+len*s) c.length&&mr by_ (len+n)&&!tV fr (o+len*s) (n*s)&&(Nat.beq fr.1 0||Nat.ble fr.2 fr.1)&&Nat.beq (o%s) 0 then xf (W.put b none) (.cells ((c.drop o).take (len*s)++src) e (xR fr o)) (len+n) aM else none
 |_=>none
def xG:Option bb->Nat
 |some (.cells c _ _)=>c.length
 |_=>0
def BM(W:XW)(e:TypeId)(src:List Value)(need by_:Nat):Option (List Value)->Option XR
 |some old=>bif mr by_ need then xf W (.cells (old++src) e (0,0)) need aM else none
 |none=>none
def DF(W:XW)(len n cap s by_:Nat)(e:TypeId)(src:List Value):Option Addr->Option XR
 |none=>bif Nat.beq cap 0&&Nat.beq len 0&&mr by_ n then xf W (.cells src e (0,0)) n aM else none
 |some ⟨b,o,none⟩=>bif bm cap||Nat.ble (len+n) cap then
  bif Nat.ble (o+(len+n)*s) (xG (W.get b))&&jM W cap e (some ⟨b,o,none⟩)then wg (.slice (some ⟨b,o,none⟩) (len+n) cap) (ir W b (o+len*s) src)
  else GP W b o len n cap s by_ e src (W.get b)
  else BM W e src (len+n) by_ (fg W s len (.slice (some ⟨b,o,none⟩) len cap))
 |_=>none
def FY(W:XW)(e:TypeId)(s n by_:Nat)(src:List Value):Value->Option XR
 |.slice base len cap=>bif Nat.beq n 0 then(bif Nat.ble len cap then val (.slice base len cap)else none)else bif Nat.blt 0 s then DF W len n cap s by_ e src base else none
 |_=>none
def BL(W:XW)(e:TypeId)(s n by_:Nat)(v:Value):Option (List Value)->Option XR
 |some src=>bif Nat.beq src.length (n*s)&&src.all bk then FY W e s n by_ src v else none
 |none=>none
def FT(W:XW)(e:TypeId)(v x:Value):Option TypeInfo->Option Value->Option Nat->Option XR
 |some i,some z,some n=>bif Nat.beq i.size z.cells.size then BL W e i.size n i.bytes v (fg W i.size n x)else none
 |_,_,_=>none
def ov(P:Program)(W:XW)(v x:Value):Option TypeDesc->Option XR
 |some (.slice e)=>FT W e v x (P.info? e) (bE P e) (lm x)
 |_=>none
def xQ(a:Option Addr)(d:Nat):Option Addr:=a.map fun a=>⟨a.block,a.off+d,a.spot⟩
def NL(t:ByteArray):Option Nat->Option Nat->Option Operand->Option XR
 |some l,some h,none=>bif Nat.ble l h&&Nat.ble h t.size then val (.string (t.extract l h))else none
 |_,_,_=>none
def E2(ok:Bool)(a:Option Addr)(len cap:Nat):Option Nat->Option Nat->Option Nat->Option XR
 |some s,some l,some h=>bif ok&&Nat.ble l h&&Nat.ble h len&&(bm cap||Nat.ble len cap)&&(Nat.beq (len) 0||Nat.blt 0 s)then val (.slice (bif !bm cap&&Nat.beq cap l then a else xQ a (l*s)) (h-l) (bif bm cap then cap else cap-l))else none
 |_,_,_=>none
def JH(cs:List Value)(len:Nat):Option Nat->Option Nat->Option Nat->Option Operand->Option XR
 |some s,some l,some h,none=>bif Nat.ble l h&&Nat.ble h len then val (FZ ((cs.drop (l*s)).take ((h-l)*s)) (h-l))else none
 |_,_,_,_=>none
def NI(a:Option Addr)(len:Nat):Option Nat->Option Nat->Option Nat->Option Nat->Option XR
 |some s,some l,some h,some m=>bif Nat.ble l h&&Nat.ble h m&&Nat.ble m len&&Nat.ble m 16777216 then val (.slice (bif Nat.beq m l then a else xQ a (l*s)) (h-l) (m-l))else none
 |_,_,_,_=>none
def NO(b o n:Nat):Option Nat->Option Nat->Option Nat->Option Operand->Option XR
 |some s,some l,some h,none=>bif Nat.ble l h&&Nat.ble h n&&Nat.ble n 16777216 then val (.slice (some (bif Nat.beq n l then⟨b,o,none⟩else⟨b,o+l*s,none⟩)) (h-l) (n-l))else none
 |_,_,_,_=>none
def fy(P:Program)(fr:XF)(W:XW)(v:Value)(lo hi mx:Option Operand):Option TypeDesc->Option XR
 |some .string=>match v with
  |.string t=>NL t (cG fr 0 lo) (cG fr t.size hi) mx
  |_=>none
 |some (.slice e)=>match v with
  |.slice a len cap=>match mx with
   |none=>E2 (jM W cap e a) a len cap (sz P e) (cG fr 0 lo) (cG fr len hi)
   |some m=>bif hi.isSome&&(bm cap||Nat.ble len cap)then NI a len (sz P e) (cG fr 0 lo) (cG fr len hi) (cG fr 0 (some m))else none
  |.func (.methodOf len _) cs _=>JH cs.toList len (sz P e) (cG fr 0 lo) (cG fr len hi) mx
  |_=>none
 |some (.array n e)=>match v with
  |.pointer (some ⟨b,o,none⟩)=>NO b o n (sz P e) (cG fr 0 lo) (cG fr n hi) mx
  |_=>none
 |_=>none
def kl(W:XW):Value->Option (List MapEntry×Nat)
 |.map none=>some ([],0)
 |.map (some r)=>match W.get r with
  |some (.map es c)=>some (es,c)
  |_=>none
 |_=>none
def ia(P:Program)(kt:TypeId)(k:Value)(emp:Bool):Bool:=dw k&&(bQ P (Instr.checkKey emp 10000 kt k)).isSome
def gH(P:Program)(kt:TypeId)(k:Value)(es:List MapEntry):Option (Option (Nat×Value)):=bif es.all (fun e=>dw e.key)then bQ P (Instr.findKey kt k es)else none
def sU(P:Program)(t:TypeId)(x y:Value):Option Bool:=
 match P.underlying t,x,y with
 |some (.pointer _),.pointer none,.pointer (some _)=>some false
 |some (.pointer _),.pointer (some _),.pointer none=>some false
 |some (.interface _),.nilIface,.iface _ _=>some false
 |some (.interface _),.iface _ _,.nilIface=>some false
 |some (.slice _),.slice none _ _,.slice (some _) _ _=>some false
 |some (.slice _),.slice (some _) _ _,.slice none _ _=>some false
 |some (.map _ _),.map none,.map (some _)=>some false
 |some (.map _ _),.map (some _),.map none=>some false
 |some (.func _ _ _),.nilFunc,.func (.func _) _ _=>some false
 |some (.func _ _ _),.func (.func _) _ _,.nilFunc=>some false
 |some (.slice _),.slice none _ _,.func (.methodOf _ _) _ _=>some false
 |some (.slice _),.func (.methodOf _ _) _ _,.slice none _ _=>some false
 |some (.pointer _),.pointer none,.func (.method _) _ _=>some false
 |some (.pointer _),.func (.method _) _ _,.pointer none=>some false
 |_,_,_=>none
def qu(n:Nat):Option (List UInt8)->Option (List UInt8)
 |some r=>bif Nat.blt n 256 then some (UInt8.ofNat n::r)else none
 |none=>none
def dE:List Value->Option (List UInt8)
 |[]=>some []
 |v::l=>match v with
  |.int .u8 (.ofNat n)=>qu n (dE l)
  |_=>none
def xU:Option (List MapEntry×Nat)->Option XR
 |some (es,_)=>val (goInt es.length)
 |none=>none
def fm(W:XW)(x:Value):Option TypeDesc->Option XR
 |some (.slice _)=>match x with
  |.slice _ n _=>val (goInt n)
  |.func (.methodOf n _) _ _=>val (goInt n)
  |_=>none
 |some (.map _ _)=>xU (kl W x)
 |some .string=>match x with
  |.string s=>val (goInt s.size)
  |_=>none
 |some (.array n _)=>val (goInt n)
 |_=>none
def Hu(W:XW)(k:Nat)(src:List Value):Option Addr->Option XR
 |some ⟨b,o,none⟩=>wg (goInt k) (ir W b o src)
 |_=>none
def A7(W:XW)(k:Nat)(base:Option Addr):Option (List Value)->Option XR
 |some src=>bif Nat.beq k 0 then val (goInt 0)else Hu W k src base
 |none=>none
def FV(W:XW)(base:Option Addr)(n:Nat)(x:Value):Option Nat->Option Nat->Option XR
 |some s,some m=>A7 W (Nat.min m n) base (fg W s (Nat.min m n) x)
 |_,_=>none
def Cl(P:Program)(W:XW)(d x:Value):Option TypeDesc->Option XR
 |some (.slice e)=>match d with
  |.slice base n _=>FV W base n x (sz P e) (lm x)
  |_=>none
 |_=>none
def Ta(W:XW)(r:Nat)(es:List MapEntry)(c:Nat):Option (Option (Nat×Value))->Option XR
 |some (some (i,_))=>some (.mod (.tuple #[]) (W.put r (some (.map (es.eraseIdx i) c))))
 |some none=>val (.tuple #[])
 |none=>none
def M1(P:Program)(W:XW)(r:Nat)(kt:TypeId)(k:Value):Option bb->Option XR
 |some (.map es c)=>bif ia P kt k es.isEmpty then Ta W r es c (gH P kt k es)else none
 |_=>none
def GM(P:Program)(W:XW)(m k:Value):Option TypeDesc->Option XR
 |some (.map kt _)=>match m with
  |.map (some r)=>M1 P W r kt k (W.get r)
  |_=>none
 |_=>none
def My(W:XW)(n:Nat):Option Addr->Option Value->Option XR
 |some ⟨b,o,none⟩,some z=>wg (.tuple #[]) (ir W b o (rep z.cells.toList n))
 |_,_=>none
def GI(P:Program)(W:XW)(x:Value):Option TypeDesc->Option XR
 |some (.slice e)=>match x with
  |.slice base n _=>bif Nat.beq n 0 then val (.tuple #[])else My W n base (bE P e)
  |_=>none
 |_=>none
def EC:Value->Option XR
 |.slice (some a) n c=>bif Nat.beq n 0||Nat.beq c 0 then none else val (.pointer (some a))
 |.slice none _ _=>val (.pointer none)
 |_=>none
def yQ(W:XW)(b n:Nat)(c:List Value)(e:TypeId)(fr:Nat×Nat):Option (List UInt8)->Option XR
 |some bs=>some (.mod (.string ⟨bs.toArray⟩) (W.put b (some (.cells c e (0,Nat.max fr.2 n)))))
 |none=>none
def za(P:Program)(W:XW)(b n:Nat)(pe:TypeId):Option bb->Option XR
 |some (.cells c e fr)=>bif Nat.ble n c.length&&Nat.beq e pe&&Nat.beq fr.1 0&&Nat.beq (P.cellsOf pe) 1&&Nat.ble n 1099511627776 then yQ W b n c e fr (dE (c.take n))else none
 |_=>none
def vN(P:Program)(W:XW)(p:Value)(n:Value):Option TypeDesc->Option XR
 |some (.pointer pe)=>match p,n with
  |.pointer none,.int _ (.ofNat 0)=>val (.string .empty)
  |.pointer (some ⟨b,0,none⟩),.int _ (.ofNat (n+1))=>za P W b (n+1) pe (W.get b)
  |_,_=>none
 |_=>none
def mt:Option TypeDesc->Bool
 |some (.int _)=>false
 |some _=>true
 |none=>false
def gU(P:Program):Option TypeId->Option TypeDesc
 |some t=>P.underlying t
 |none=>none
def rE:Option Value->Option XR
 |some v=>some (.val (some v))
 |none=>none
def l8:Option Value->Option XR
 |some v=>bif dw v then some (.val (some v))else none
 |none=>none
def fv(P:Program)(W:XW)(b:Builtin)(ats:Array TypeId)(type:TypeId)(args:List Value):Option XR:=
 match b,args with
 |.len,[x]=>fm W x (gU P ats[0]?)
 |.append,[v,x]=>bif mt (gU P ats[1]?)then ov P W v x (gU P ats[0]?)else none
 |.copy,[d,x]=>Cl P W d x (gU P ats[0]?)
 |.delete,[m,k]=>GM P W m k (gU P ats[0]?)
 |.clear,[x]=>GI P W x (gU P ats[0]?)
 |.min,l=>bif l.all dw then l8 (bQ P (Builtin.min_ ats type l.toArray))else none
 |.max,l=>bif l.all dw then l8 (bQ P (Builtin.max_ ats type l.toArray))else none
 |.unsafeSliceData,[x]=>EC x
 |.unsafeString,[p,n]=>vN P W p n (gU P ats[0]?)
 |_,_=>none
def gC(old new:Value):Bool:=dw old&&Instr.sameBits 10000 old new
def DB(e:TypeId):Option Value->Option XR
 |some v=>F6 (.cells v.cells.toList e (0,0))
 |none=>none
def tR(e:TypeId):Option Value->Option XR
 |some z=>F6 (.cells z.cells.toList e (0,0))
 |none=>none
def xX(fr:XF)(a b:Operand):Option Value->Option XR
 |some (.bool t)=>some (.val (ev fr (bif t then a else b)))
 |_=>none
def DG(P:Program)(t:TypeId):Option (List (Nat×Value))->Option XR
 |some l=>rE (tI P l (bE P t) (P.underlying t))
 |none=>none
def Ba(e:TypeId)(n s zs:Nat):Option (List Value)->Option XR
 |some cs=>bif Nat.ble (n*s) 16777216&&Nat.beq (n*s) (n*zs)&&Nat.ble n 16777216 then y6 (.cells cs e (0,0)) n n else none
 |none=>none
def Gn(e:TypeId)(n:Nat):Option Nat->Option Value->Option (List (Nat×Value))->Option XR
 |some s,some z,some l=>Ba e n s z.cells.size (kO (fun i=>some (i*s,s)) (rep z.cells.toList n) l)
 |_,_,_=>none
def yn(P:Program)(fr:XF)(n:Nat)(ps:List (Nat×Operand)):Option TypeDesc->Option XR
 |some (.slice e)=>Gn e n (sz P e) (bE P e) (evP fr ps)
 |_=>none
def EO(P:Program)(W:XW)(t:TypeId):Option Value->Option XR
 |some p=>rE (fo P W t p)
 |none=>none
def EP(W:XW):Option Value->Option Value->Option Nat->Option XR
 |some (.pointer (some ⟨n,o,none⟩)),some v,some s=>bif Nat.beq v.cells.size s then wg undef (ir W n o v.cells.toList)else none
 |_,_,_=>none
def zl:Option Value->Option XR
 |some (.pointer (some a))=>val (.pointer (some a))
 |some (.func (.method m) cs cc)=>val (.func (.method m) cs cc)
 |_=>none
def Be:BinOp->Option Bool->Option XR
 |.eql,some r=>val (.bool r)
 |.neq,some r=>val (.bool (!r))
 |_,_=>none
def qf(op:BinOp)(t:TypeId)(x y:Operand)(a b:Value):Sem Value:=do Go.eqGuard op t x y a b;Go.binOp op t a b
def eJ(P:Program)(op:BinOp)(t:TypeId)(x y:Operand):Option Value->Option Value->Option XR
 |some a,some b=>bif dw a&&dw b then l8 (bQ P (qf op t x y a b))else Be op (sU P t a b)
 |_,_=>none
def Aj(P:Program)(op:UnOp):Option Value->Option XR
 |some a=>bif dw a then l8 (bQ P (Op.unary op a))else none
 |none=>none
def sG(e:TypeId):Option Value->Option TypeDesc->Option Nat->Option XR
 |some (.string t),some (.int .u8),some 1=>y6 (.cells (t.data.toList.map fun b=>Value.int .u8 b.toNat) e (1,1)) t.size aM
 |_,_,_=>none
def Hn:Option (List UInt8)->Option XR
 |some bs=>val (.string ⟨bs.toArray⟩)
 |none=>none
def xo:Option (List Value)->Option (List UInt8)
 |some l=>dE l
 |none=>none
def oG(W:XW):Option Value->Option TypeDesc->Option XR
 |some (.slice a n c),some (.int .u8)=>Hn (xo (fg W 1 n (.slice a n c)))
 |_,_=>none
def rY(P:Program)(s d:TypeId):Option Value->Option XR
 |some a=>bif dw a then l8 (bQ P (Go.convert s d a))else none
 |none=>none
def jT(P:Program)(W:XW)(s d:TypeId)(v:Option Value):Option TypeDesc->Option TypeDesc->Option XR
 |some .string,some (.slice e)=>sG e v (P.underlying e) (sz P e)
 |some (.slice e),some .string=>oG W v (P.underlying e)
 |some _,some _=>rY P s d v
 |_,_=>none
def Cx:Option TypeDesc->Option Value->Option XR
 |some (.array n _),some (.slice (some a) len _)=>bif Nat.ble n len&&Nat.blt 0 n then val (.pointer (some a))else none
 |_,_=>none
def wS(t:TypeId):Option Value->Option TypeDesc->Option XR
 |some _,some (.interface _)=>none
 |some v,some _=>val (.iface t v)
 |_,_=>none
def Ho:Fn->Option (List Value)->Option (List Value)->Option XR
 |.func g,some xs,some cs=>val (.func (.func g) xs.toArray cs.toArray)
 |_,_,_=>none
def Mt:Option XR:=some (.new (.map [] 0) fun n=>.map (some n))
def Bg:Option (Option Value)->Option TypeDesc->Option XR
 |none,_=>Mt
 |some (some (.int _ _)),some (.map _ _)=>Mt
 |_,_=>none
def Gx(e:TypeId)(l c:Nat):Option TypeInfo->Option Value->Option XR
 |some i,some z=>bif Nat.ble l c&&Nat.ble (i.bytes*c) 1048576&&Nat.ble c 1048576&&Nat.beq i.size z.cells.size then y6 (.cells (rep z.cells.toList c) e (0,0)) l c else none
 |_,_=>none
def BG(P:Program):Option TypeDesc->Option Value->Option Value->Option XR
 |some (.slice e),some (.int .i64 (.ofNat l)),some (.int .i64 (.ofNat c))=>Gx e l c (P.info? e) (bE P e)
 |_,_,_=>none
def tX(P:Program)(fr:XF)(W:XW)(t:TypeId)(lo hi mx:Option Operand):Option Value->Option XR
 |some v=>fy P fr W v lo hi mx (P.underlying t)
 |none=>none
def Lf(n o d:Nat):Option Nat->Option XR
 |some (_+1)=>val (.pointer (some ⟨n,o+d,none⟩))
 |_=>none
def CA(P:Program)(n o:Nat):Option Field->Option XR
 |some fd=>Lf n o fd.offset (sz P fd.type)
 |none=>none
def Li(cs:List Value)(d:Nat):Option Nat->Option XR
 |some (k+1)=>val (FP ((cs.drop d).take (k+1)))
 |_=>none
def yF(P:Program)(cs:List Value):Option Field->Option XR
 |some fd=>Li cs fd.offset (sz P fd.type)
 |none=>none
def uk(P:Program)(f:Nat):Option TypeDesc->Option Value->Option XR
 |some (.struct fs),some (.pointer (some ⟨n,o,none⟩))=>CA P n o fs[f]?
 |some (.struct fs),some (.func (.method _) cs _)=>yF P cs.toList fs[f]?
 |_,_=>none
def Hf(P:Program)(cs:List Value):Option Field->Option XR
 |some fd=>rE (mw P fd.type cs fd.offset)
 |none=>none
def Bi(P:Program)(f:Nat):Option TypeDesc->Option Value->Option XR
 |some (.struct fs),some (.agg cs)=>Hf P cs.toList fs[f]?
 |_,_=>none
def qT(b o i n:Nat):Option Nat->Option XR
 |some s=>bif Nat.blt i n then val (.pointer (some ⟨b,o+i*s,none⟩))else none
 |none=>none
def mD(cs:List Value)(i n:Nat):Option Nat->Option XR
 |some s=>bif Nat.blt i n then val (FP ((cs.drop (i*s)).take s))else none
 |none=>none
def dB(P:Program):Option TypeDesc->Option Value->Option Value->Option XR
 |some (.array n e),some (.func (.method _) cs _),some (.int _ (.ofNat i))=>mD cs.toList i n (sz P e)
 |some (.slice e),some (.func (.methodOf n _) cs _),some (.int _ (.ofNat i))=>mD cs.toList i n (sz P e)
 |some (.array n e),some (.pointer (some ⟨b,o,none⟩)),some (.int _ (.ofNat i))=>qT b o i n (sz P e)
 |some (.slice e),some (.slice (some ⟨b,o,none⟩) n _),some (.int _ (.ofNat i))=>qT b o i n (sz P e)
 |_,_,_=>none
def BS(P:Program)(e:TypeId)(cs:List Value)(i n:Nat):Option Nat->Option XR
 |some s=>bif Nat.blt i n then rE (mw P e cs (i*s))else none
 |none=>none
def wV:Option UInt8->Option XR
 |some b=>val (.int .u8 b.toNat)
 |none=>none
def vX(P:Program):Option TypeDesc->Option Value->Option Value->Option XR
 |some (.array n e),some (.agg cs),some (.int _ (.ofNat i))=>BS P e cs.toList i n (sz P e)
 |some .string,some (.string s),some (.int _ (.ofNat i))=>wV s.data.toList[i]?
 |_,_,_=>none
def pr(ok:Bool)(v:Value)(b:Bool):Value:=bif ok then .tuple #[v,.bool b]else v
def y5(ok:Bool)(z:Value):Option (Option (Nat×Value))->Option XR
 |some (some (_,v))=>val (pr ok v true)
 |some none=>val (pr ok z false)
 |none=>none
def jJ(P:Program)(kt:TypeId)(kv:Value)(ok:Bool):Option (List MapEntry×Nat)->Option Value->Option XR
 |some (es,_),some z=>bif ia P kt kv es.isEmpty then y5 ok z (gH P kt kv es)else none
 |_,_=>none
def zd(P:Program)(W:XW)(ok:Bool):Option TypeDesc->Option Value->Option Value->Option XR
 |some (.map kt e),some mv,some kv=>jJ P kt kv ok (kl W mv) (bE P e)
 |_,_,_=>none
def wn(W:XW)(r:Nat)(es:List MapEntry)(c i:Nat)(kv v:Value):Option MapEntry->Option XR
 |some en=>bif gC en.key kv then some (.mod undef (W.put r (some (.map (es.set i ⟨kv,v,en.born⟩) c))))else none
 |none=>none
def rD(W:XW)(r:Nat)(es:List MapEntry)(c:Nat)(kv v:Value):Option (Option (Nat×Value))->Option XR
 |some (some (i,_))=>wn W r es c i kv v es[i]?
 |some none=>some (.mod undef (W.put r (some (.map (es++[⟨kv,v,c⟩]) (c+1)))))
 |none=>none
def jh(P:Program)(W:XW)(r:Nat)(kt:TypeId)(kv v:Value):Option bb->Option XR
 |some (.map es c)=>bif ia P kt kv false then rD W r es c kv v (gH P kt kv es)else none
 |_=>none
def we(P:Program)(W:XW):Option TypeDesc->Option Value->Option Value->Option Value->Option XR
 |some (.map kt _),some (.map (some r)),some kv,some v=>jh P W r kt kv v (W.get r)
 |_,_,_,_=>none
def Lt(W:XW)(r:Nat)(es:List MapEntry)(c i:Nat)(kv v:Value):Option MapEntry->Option XR
 |some en=>bif gC en.key kv then some (.mod (.tuple #[v,goInt en.born]) (W.put r (some (.map (es.set i ⟨kv,en.val,en.born⟩) c))))else none
 |none=>none
def ME(W:XW)(r:Nat)(es:List MapEntry)(c:Nat)(kv z:Value):Option (Option (Nat×Value))->Option XR
 |some (some (i,v))=>Lt W r es c i kv v es[i]?
 |some none=>some (.mod (.tuple #[z,goInt c]) (W.put r (some (.map (es++[⟨kv,z,c⟩]) (c+1)))))
 |none=>none
def Lc(P:Program)(W:XW)(r:Nat)(kt:TypeId)(kv:Value):Option bb->Option Value->Option XR
 |some (.map es c),some z=>bif ia P kt kv false then ME W r es c kv z (gH P kt kv es)else none
 |_,_=>none
def BT(P:Program)(W:XW):Option TypeDesc->Option Value->Option Value->Option XR
 |some (.map kt e),some (.map (some r)),some kv=>Lc P W r kt kv (W.get r) (bE P e)
 |_,_,_=>none
def Si(W:XW)(r:Nat)(es:List MapEntry)(c i:Nat)(v:Value):Option MapEntry->Option XR
 |some en=>some (.mod undef (W.put r (some (.map (es.set i ⟨en.key,v,en.born⟩) c))))
 |none=>none
def Mw(W:XW)(r:Nat)(es:List MapEntry)(c:Nat)(v:Value):Option Nat->Option XR
 |some i=>Si W r es c i v es[i]?
 |none=>none
def MX(W:XW)(r:Nat)(born:Int)(v:Value):Option bb->Option XR
 |some (.map es c)=>Mw W r es c v (es.findIdx? (fun e=>(e.born:Int)==born))
 |_=>none
def Dl(W:XW):Option Value->Option Value->Option Value->Option XR
 |some (.map (some r)),some (.int _ born),some v=>MX W r born v (W.get r)
 |_,_,_=>none
def vZ(m:Nat):Option bb->Option XR
 |some (.map _ c)=>F6 (.iter m c [] c)
 |_=>none
def ua(W:XW):Option TypeDesc->Option Value->Option XR
 |some (.map _ _),some (.map (some m))=>vZ m (W.get m)
 |_,_=>none
def LA(W:XW)(r m since c:Nat)(seen:List Nat):List MapEntry->Option XR
 |[]=>val (.tuple #[.bool false])
 |[e]=>bif Nat.blt e.born since then some (.mod (.tuple #[.bool true,e.key,e.val]) (W.put r (some (.iter m since (seen++[e.born]) c))))else none
 |_=>none
def ib(seen:List Nat)(e:MapEntry):Bool:=!(seen.any fun n=>Nat.beq n e.born)
def Lm(W:XW)(r m since last:Nat)(seen:List Nat):Option bb->Option XR
 |some (.map es c)=>bif !seen.isEmpty&&!es.isEmpty&&es.all (fun e=>Nat.ble last e.born)then none else LA W r m since c seen (es.filter (ib seen))
 |_=>none
def Mq(W:XW)(r:Nat):Option bb->Option XR
 |some (.iter m since seen last)=>Lm W r m since last seen (W.get m)
 |_=>none
def C2(W:XW):Bool->Option Value->Option XR
 |false,some (.pointer (some ⟨r,0,none⟩))=>Mq W r (W.get r)
 |_,_=>none
def yb:Option MapEntry->Option XR
 |some e=>val (.tuple #[e.key,e.val])
 |none=>none
def v8(stepped:Nat):Option bb->Option Nat->Option XR
 |some (.map es c),some st=>bif Nat.beq c stepped then yb (es.find? (fun e=>Nat.beq e.born st))else none
 |_,_=>none
def wA(W:XW):Option bb->Option XR
 |some (.iter m _ seen stepped)=>v8 stepped (W.get m) seen.getLast?
 |_=>none
def t6(W:XW):Option Value->Option XR
 |some (.pointer (some ⟨r,0,none⟩))=>wA W (W.get r)
 |_=>none
def Ha:Bool->Option Value->Option XR
 |true,some z=>val (.tuple #[z,.bool false])
 |_,_=>none
def BY(P:Program)(t:TypeId)(ok:Bool):Option Value->Option TypeDesc->Option XR
 |some _,some (.interface _)=>none
 |some (.iface u v),some _=>bif Nat.beq u t then val (pr ok v true)else Ha ok (bE P t)
 |_,_=>none
def GE(i:Nat):Option Value->Option XR
 |some (.tuple vs)=>rE vs.toList[i]?
 |_=>none
def wL:Option Value->Option (List Value)->Option XR
 |some (.func (.func g) a cap),some args=>some (.enter g (a.toList++args++cap.toList))
 |some (.func (.yield l) a cap),some args=>bif a.isEmpty&&cap.isEmpty then some (.round l args)else none
 |_,_=>none
def Bp(P:Program)(W:XW)(b:Builtin)(ats:Array TypeId)(type:TypeId):Option (List Value)->Option XR
 |some args=>fv P W b ats type args
 |none=>none
def tj(P:Program)(fr:XF)(W:XW)(type:TypeId)(args:List Operand)(ats:Array TypeId):Callee->Option XR
 |.builtin b=>Bp P W b ats type (evs fr args)
 |.value f=>wL (ev fr f) (evs fr args)
 |_=>none
def Bu:Option Value->Option (List Value)->Option XR
 |some (.func (.func g) a cap),some args=>some (.defer g (a.toList++args) cap.toList)
 |_,_=>none
def vT(fr:XF)(args:List Operand):Callee->Option XR
 |.value f=>Bu (ev fr f) (evs fr args)
 |_=>none
def Ct:Option Value->Option XR
 |some (.iface t v)=>some (.pan (.iface t v))
 |_=>none
def ki(fr:XF):Option Operand->Option (Option Value)
 |none=>none
 |some x=>some (ev fr x)
def dq(P:Program)(fr:XF)(W:XW)(type:TypeId):Op->Option XR
 |.move x=>some (.val (ev fr x))
 |.assign x=>some (.val (ev fr x))
 |.pick c a b=>xX fr a b (ev fr c)
 |.alloc e=>tR e (bE P e)
 |.box e x=>DB e (ev fr x)
 |.build t ps=>DG P t (evP fr ps.toList)
 |.buildSlice t n ps=>yn P fr n ps.toList (P.underlying t)
 |.load t a=>EO P W t (ev fr a)
 |.store t a x=>EP W (ev fr a) (ev fr x) (sz P t)
 |.nilCheck x=>zl (ev fr x)
 |.binOp op t x y _=>eJ P op t x y (ev fr x) (ev fr y)
 |.unOp op _ x=>Aj P op (ev fr x)
 |.convert s d x=>jT P W s d (ev fr x) (P.underlying s) (P.underlying d)
 |.sliceToArrayPointer t x=>Cx (P.underlying t) (ev fr x)
 |.makeInterface t x=>wS t (ev fr x) (P.underlying t)
 |.makeFunc f a c=>Ho f (evs fr a.toList) (evs fr c.toList)
 |.makeMap t r=>Bg (ki fr r) (P.underlying t)
 |.makeSlice t l c=>BG P (P.underlying t) (ev fr l) (ev fr c)
 |.slice t x lo hi mx=>tX P fr W t lo hi mx (ev fr x)
 |.fieldAddr s x f=>uk P f (P.underlying s) (ev fr x)
 |.field t x f=>Bi P f (P.underlying t) (ev fr x)
 |.indexAddr t x i=>dB P (P.underlying t) (ev fr x) (ev fr i)
 |.index t x i=>vX P (P.underlying t) (ev fr x) (ev fr i)
 |.lookup t m k ok=>zd P W ok (P.underlying t) (ev fr m) (ev fr k)
 |.mapUpdate t m k x=>we P W (P.underlying t) (ev fr m) (ev fr k) (ev fr x)
 |.insert t m k x=>we P W (P.underlying t) (ev fr m) (ev fr k) (ev fr x)
 |.mapEntry t m k=>BT P W (P.underlying t) (ev fr m) (ev fr k)
 |.entryStore _ m s x=>Dl W (ev fr m) (ev fr s) (ev fr x)
 |.range t x=>ua W (P.underlying t) (ev fr x)
 |.next it s=>C2 W s (ev fr it)
 |.entry it=>t6 W (ev fr it)
 |.typeAssert x _ t ok=>BY P t ok (ev fr x) (P.underlying t)
 |.extract t i=>GE i (ev fr t)
 |.call c=>tj P fr W type c.args.toList c.argTypes c.callee
 |.defer c=>vT fr c.args.toList c.callee
 |.panic x=>Ct (ev fr x)
 |_=>none
inductive ji where
 |norm
 |exit (id:Nat)
 |ret
 |pan (v:Value)
inductive dz where
 |call (f:FuncId) (args cap:List Value)
 |mark (r:Nat)
structure XS where
 fr:XF
 W:XW
 ds:List dz
inductive cz where
 |ret (v:Value)
 |pan (v:Value)
structure dX where
 call:FuncId->Option (List Value->XW->Option (cz×XW))
 defd:FuncId->Option (List Value->Option Value->XW->Option (Option Value×XW))
def d8(N:Nat)(fr:XF)(d:Option Tmp)(v:Option Value):Option XF:=
 match d with
 |none=>some fr
 |some t=>bif Nat.blt t N then some (fr.set t v)else none
def uW(w:Bool):Option Value->Option Bool
 |some (.bool b)=>some (b==w)
 |some _=>some false
 |none=>none
def kH(ops:Array Oper)(fr:XF)(o:Oper):Option Bool:=
 match o.guard with
 |none=>some true
 |some (j,w)=>match(ops[j]?).bind (·.dst)with
  |some t=>uW w (fr.get t)
  |none=>none
def wN:XF->Nat->List Value->XF
 |fr,_,[]=>fr
 |fr,n,v::l=>wN (fr.set n (some v)) (n+1) l
def yg(l:List Value):XF:=wN (PT.full 9) 0 l
def BB(P:Program)(W:XW)(fr:XF):ResultVar->Option Value
 |.tmp t=>fr.get t
 |.cell a t=>match fr.get a with
  |some p=>fo P W t p
  |none=>none
def tF(P:Program)(W:XW)(fr:XF):List ResultVar->Option (List Value)
 |[]=>some []
 |r::l=>match BB P W fr r,tF P W fr l with
  |some v,some vs=>some (v::vs)
  |_,_=>none
def uI:List Value->Value
 |[v]=>v
 |l=>.tuple l.toArray
inductive XT where
 |code (N:Nat) (rd:Option Nat) (c:Code) (s:XS)
 |call (f:FuncId) (args:List Value) (W:XW)
inductive XO where
 |code (e:ji) (s:XS)
 |fin (e:cz) (W:XW)
def lM(N:Nat)(fr:XF):List Tmp->List Value->Option XF
 |[],[]=>some fr
 |t::ts,v::vs=>match d8 N fr (some t) (some v)with
  |some fr'=>lM N fr' ts vs
  |none=>none
 |_,_=>none
def fM(H:dX):List dz->Option Value->XW->Option (Option Value×XW)
 |[],p,W=>some (p,W)
 |.mark r::ds,p,W=>match W.get r with
  |some (.defd false)=>fM H ds p (W.put r (some (.defd true)))
  |_=>none
 |.call f args cap::ds,p,W=>match H.defd f with
  |some h=>match h (args++cap) p W with
   |some (p',W')=>fM H ds p' W'
   |none=>none
  |none=>none
def xr(W:XW):Option Nat->Option (Nat×List dz×XW)
 |none=>some (W.next,[dz.mark W.next],W.push (.defd false))
 |some l=>match W.get l with
  |some (.loop _ _ _ _ _ _ _ d)=>some (d,[],W)
  |_=>none
def nj:LoopState->Bool
 |.busy=>true
 |_=>false
abbrev XK:=XT->Option XO
def yU(k:XS->Option XO):Option XO->Option XO
 |some (.code .norm s)=>k s
 |r=>r
def GN(k:Bool->Option XO):Option Value->Option XO
 |some (.bool t)=>k t
 |_=>none
def oV(id:Nat):Option XO->Option XO
 |some (.code (.exit i) s)=>bif Nat.beq i id then some (.code .norm s)else some (.code (.exit i) s)
 |r=>r
def AQ(s:XS):Option Code->Option XO
 |none=>some (.code .norm s)
 |some .ret=>some (.code .ret s)
 |some (.exit id)=>some (.code (.exit id) s)
 |_=>none
def yP(l:Nat)(fr:XF)(ds:List dz)(W:XW):Option bb->Option XO
 |some (.loop st pend tm N ps asg body d)=>bif nj st then none else AQ ⟨fr,W.put l (some (.loop .exhausted pend tm N ps asg body d)),ds⟩ pend
 |_=>none
def MM(l:Nat)(fr:XF)(ds:List dz):Option XO->Option XO
 |some (.fin (.ret _) W)=>yP l fr ds W (W.get l)
 |_=>none
def La(R:XK)(g:FuncId)(a cap:List Value)(N:Nat)(ps:List Tmp)(asg body:Code)(fr:XF)(ds:List dz):Option (Nat×List dz×XW)->Option XO
 |some (d,mk,W)=>MM W.next fr (mk++ds) (R (.call g (a++[Value.func (.yield W.next) #[] #[]]++cap) (W.push (.loop .ready none fr N ps asg body d))))
 |none=>none
def TK(R:XK)(N:Nat)(rd:Option Nat)(ps:List Tmp)(asg body:Code)(s:XS):Option Value->Option XO
 |some (.func (.func g) a cap)=>La R g a.toList cap.toList N ps asg body s.fr s.ds (xr s.W rd)
 |_=>none
inductive O1 where
 |on (s:XS)
 |out (v:Value) (s:XS)
def kQ(W:XW)(ds:List dz):Option XF->Option O1
 |some fr=>some (.on ⟨fr,W,ds⟩)
 |none=>none
def og(N:Nat)(fr:XF)(d:Option Tmp)(ds:List dz):Option XO->Option O1
 |some (.fin (.ret v) W)=>kQ W ds (d8 N fr d (some v))
 |some (.fin (.pan v) W)=>some (.out v ⟨fr,W,ds⟩)
 |_=>none
def um:ji->Option (LoopState×Option Code×Bool)
 |.norm=>some (.ready,none,true)
 |.ret=>some (.done,some .ret,false)
 |.exit id=>some (.done,some (.exit id),false)
 |.pan _=>none
def oQ(N:Nat)(fr:XF)(d:Option Tmp)(ds:List dz)(lp:Nat)(W:XW):Option (LoopState×Option Code×Bool)->Option bb->Option O1
 |some (st,pd,r),some (.loop _ _ tm N' ps asg body df)=>kQ (W.put lp (some (.loop st pd tm N' ps asg body df))) ds (d8 N fr d (some (.bool r)))
 |_,_=>none
def pQ(N:Nat)(fr:XF)(d:Option Tmp)(ds:List dz)(lp:Nat):Option XO->Option O1
 |some (.code e s)=>oQ N fr d ds lp s.W (um e) (s.W.get lp)
 |_=>none
def pP(R:XK)(N:Nat)(fr:XF)(d:Option Tmp)(ds:List dz)(lp:Nat)(N':Nat)(body:Code)(s:XS):Option bb->Option O1
 |some (.loop .ready pend tm N2 ps asg body2 df)=>pQ N fr d ds lp (R (.code N' (some lp) body ⟨s.fr,s.W.put lp (some (.loop .busy pend tm N2 ps asg body2 df)),s.ds⟩))
 |_=>none
def p9(R:XK)(N:Nat)(fr:XF)(d:Option Tmp)(ds:List dz)(lp:Nat)(N':Nat)(body:Code):Option XO->Option O1
 |some (.code .norm s)=>pP R N fr d ds lp N' body s (s.W.get lp)
 |_=>none
def pX(R:XK)(N:Nat)(fr:XF)(d:Option Tmp)(ds:List dz)(lp:Nat)(W:XW)(N':Nat)(asg body:Code):Option XF->Option O1
 |some fr1=>p9 R N fr d ds lp N' body (R (.code N' (some lp) asg ⟨fr1,W,[]⟩))
 |none=>none
def qj(R:XK)(N:Nat)(fr:XF)(d:Option Tmp)(ds:List dz)(lp:Nat)(args:List Value)(W:XW):Option bb->Option O1
 |some (.loop .ready _ tm N' ps asg body _)=>pX R N fr d ds lp W N' asg body (lM N' tm ps args)
 |_=>none
def Fk(N:Nat)(fr:XF)(d:Option Tmp)(W:XW)(ds:List dz):Option Nat->Option O1
 |none=>kQ W ds (d8 N fr d (some undef))
 |some _=>none
def lT(R:XK)(N:Nat)(rd:Option Nat)(s:XS)(d:Option Tmp):Option XR->Option O1
 |some (.val v)=>kQ s.W s.ds (d8 N s.fr d v)
 |some (.new o k)=>kQ (s.W.push o) s.ds (d8 N s.fr d (some (k s.W.next)))
 |some (.mod v W)=>kQ W s.ds (d8 N s.fr d (some v))
 |some (.pan v)=>some (.out v s)
 |some (.defer f args cap)=>Fk N s.fr d s.W (.call f args cap::s.ds) rd
 |some (.enter f args)=>og N s.fr d s.ds (R (.call f args s.W))
 |some (.round lp args)=>qj R N s.fr d s.ds lp args s.W (s.W.get lp)
 |none=>none
def py(P:Program)(R:XK)(N:Nat)(rd:Option Nat)(s:XS)(o:Oper):Option Bool->Option O1
 |some true=>lT R N rd s o.dst (dq P s.fr s.W o.type o.op)
 |some false=>kQ s.W s.ds (d8 N s.fr o.dst (some undef))
 |none=>none
def pw(P:Program)(R:XK)(N:Nat)(rd:Option Nat)(all:Array Oper)(s:XS)(o:Oper):Option O1:=py P R N rd s o (kH all s.fr o)
def xZ(k:XS->Option XO):Option O1->Option XO
 |some (.on s)=>k s
 |some (.out v s)=>some (.code (.pan v) s)
 |none=>none
def lV(P:Program)(R:XK)(N:Nat)(rd:Option Nat)(all:Array Oper):List Oper->XS->Option XO
 |[],s=>some (.code .norm s)
 |o::l,s=>xZ (lV P R N rd all l) (pw P R N rd all s o)
structure dI where
 o:Oper
 s:XS
 s':XS
def bd(o:Oper)(s s':XS):Option (List dI×XS)->Option (List dI×XS)
 |some (l,t)=>some (⟨o,s,s'⟩::l,t)
 |none=>none
def cm(k:XS->Option (List dI×XS))(o:Oper)(s:XS):Option O1->Option (List dI×XS)
 |some (.on s')=>bd o s s' (k s')
 |_=>none
def aE(P:Program)(R:XK)(N:Nat)(rd:Option Nat)(all:Array Oper):List Oper->XS->Option (List dI×XS)
 |[],s=>some ([],s)
 |o::l,s=>cm (aE P R N rd all l) o s (pw P R N rd all s o)
def fR(o:Oper):List Nat:=(o.after.toList.filter (fun e=>Region.binds .any e)).map (·.on)
def qJ(acc:List Nat):List Nat->Nat
 |[]=>0
 |e::l=>(2^e ||| acc.getD e 0) ||| qJ acc l
def tt:List Oper->List Nat->List Nat
 |[],acc=>acc
 |o::l,acc=>tt l (acc++[qJ acc (fR o)])
def dN(ops:Array Oper):List Nat:=tt ops.toList []
def jm(r:dI):List Nat:=(r.s'.W.log.take (r.s'.W.nlog-r.s.W.nlog)).filter fun n=>Nat.blt n r.s.W.next
def gb(ms:List Nat)(i j:Nat):Bool:=(ms.getD j 0).testBit i||(ms.getD i 0).testBit j
def eZ(ms:List Nat)(i:Nat):List dI->Nat->List Nat
 |[],_=>[]
 |r::l,j=>bif Nat.beq i j||gb ms i j then eZ ms i l (j+1)else jm r++eZ ms i l (j+1)
def eM(W:XW):List Nat->XW
 |[]=>W
 |n::l=>eM (W.put n none) l
def Wn:Callee->Bool
 |.builtin .len=>true
 |_=>false
def Cr:Op->Bool
 |.move _=>true
 |.assign _=>true
 |.pick _ _ _=>true
 |.alloc _=>true
 |.box _ _=>true
 |.build _ _=>true
 |.buildSlice _ _ _=>true
 |.load _ _=>true
 |.nilCheck _=>true
 |.binOp _ _ _ _ _=>true
 |.unOp _ _ _=>true
 |.convert _ _ _=>true
 |.sliceToArrayPointer _ _=>true
 |.makeInterface _ _=>true
 |.makeFunc _ _ _=>true
 |.makeMap _ _=>true
 |.makeSlice _ _ _=>true
 |.slice _ _ _ _ _=>true
 |.fieldAddr _ _ _=>true
 |.field _ _ _=>true
 |.indexAddr _ _ _=>true
 |.index _ _ _=>true
 |.lookup _ _ _ _=>true
 |.typeAssert _ _ _ _=>true
 |.extract _ _=>true
 |.call c=>Wn c.callee
 |_=>false
def ij:Option XR->Bool
 |some (.val _)=>true
 |some (.new _ _)=>true
 |_=>false
def la(ms:List Nat)(i:Nat):List dI->Nat->List (Nat×dI)
 |[],_=>[]
 |r::l,j=>bif Nat.beq i j||gb ms i j||(jm r).isEmpty then la ms i l (j+1)else(j,r)::la ms i l (j+1)
def zh(W V:XW):List Nat->XW
 |[]=>W
 |n::l=>zh (W.put n (V.get n)) V l
def zk:Option XR->Option XR->Bool
 |some (.val (some (.int k a))),some (.val (some (.int k' b)))=>decide (k=k')&&decide (a=b)
 |_,_=>false
def UX(q r:dI):List Nat:=r.s.W.log.take (r.s.W.nlog-q.s'.W.nlog)
def Oa(P:Program)(r:dI)(i:Nat):List (Nat×dI)->Bool
 |[(j,q)]=>zk (dq P r.s.fr r.s.W r.o.type r.o.op) (dq P r.s.fr (zh r.s.W (bif Nat.blt i j then q.s'.W else q.s.W) (jm q)) r.o.type r.o.op)&&(Nat.blt i j||(UX q r).all fun n=>(jm q).all fun m=>!(Nat.beq n m))
 |_=>false
def px(P:Program)(r:dI)(i:Nat)(u:List Nat)(us:List (Nat×dI)):Option Bool->Bool
 |some true=>u.isEmpty||(u.all fun n=>Nat.blt n r.s.W.next||Nat.ble r.s'.W.next n)&&(Cr r.o.op&&ij (dq P r.s.fr (eM r.s.W u) r.o.type r.o.op)||Oa P r i us)
 |some false=>true
 |none=>false
def kj(P:Program)(all:Array Oper)(ms:List Nat)(rs:List dI):List dI->Nat->Bool
 |[],_=>true
 |r::l,i=>px P r i (eZ ms i rs 0) (la ms i rs 0) (kH all r.s.fr r.o)&&kj P all ms rs l (i+1)
def kA:List dI->Nat->Bool
 |[],_=>true
 |r::l,n=>Nat.beq r.s'.ds.length n&&kA l n
def CG(rs:List dI):Bool:=rs.all fun r=>(jm r).isEmpty
def o7(P:Program)(all:Array Oper)(n:Nat)(rs:List dI):Bool:=
 Region.lexB .any all&&kA rs n&&(CG rs||kj P all (dN all) rs rs 0)
def AS(P:Program)(all:Array Oper)(n:Nat):Option (List dI×XS)->Option XO
 |some (rs,s)=>bif o7 P all n rs then some (.code .norm s)else none
 |none=>none
def mn(P:Program)(R:XK)(N:Nat)(rd:Option Nat)(s:XS):Code->Option XO
 |.skip=>some (.code .norm s)
 |.ret=>some (.code .ret s)
 |.exit id=>some (.code (.exit id) s)
 |.seq a b=>yU (fun s=>R (.code N rd b s)) (R (.code N rd a s))
 |.cond c a b=>GN (fun t=>R (.code N rd (bif t then a else b) s)) (ev s.fr c)
 |.block id b=>oV id (R (.code N rd b s))
 |.loop b=>yU (fun s=>R (.code N rd (.loop b) s)) (R (.code N rd b s))
 |.region _ ops false=>lV P R N rd ops ops.toList s
 |.region _ ops true=>AS P ops s.ds.length (aE P R N rd ops ops.toList s)
 |.rangeFunc f ps asg body=>TK R N rd ps.toList asg body s (ev s.fr f)
 |_=>none
def sK:ji->Option (Option Value)
 |.norm=>some none
 |.ret=>some none
 |.pan v=>some (some v)
 |.exit _=>none
def yr(W:XW):Option (List Value)->Option XO
 |some vs=>some (.fin (.ret (uI vs)) W)
 |none=>none
def qX(P:Program)(fn:Func)(fr:XF):Option (Option Value×XW)->Option XO
 |some (some v,W)=>some (.fin (.pan v) W)
 |some (none,W)=>yr W (tF P W fr fn.results.toList)
 |none=>none
def K0(P:Program)(H:dX)(fn:Func)(s:XS):Option (Option Value)->Option XO
 |some p=>qX P fn s.fr (fM H s.ds p s.W)
 |none=>none
def AV(P:Program)(H:dX)(fn:Func):Option XO->Option XO
 |some (.code e s)=>K0 P H fn s (sK e)
 |_=>none
def H8(P:Program)(H:dX)(R:XK)(fn:Func)(args:List Value)(W:XW):Option Code->Option XO
 |some c=>bif Nat.ble args.length fn.ntmps then AV P H fn (R (.code fn.ntmps none c ⟨yg args,W,[]⟩))else none
 |none=>none
def m5(fn:Func):Bool:=!(fn.name== "runtime.NumGoroutine")
def Lu(P:Program)(H:dX)(R:XK)(args:List Value)(W:XW):Option Func->Option XO
 |some fn=>bif m5 fn then H8 P H R fn args W fn.body else none
 |none=>none
def xz:Option (cz×XW)->Option XO
 |some (e,W)=>some (.fin e W)
 |none=>none
def ry(P:Program)(H:dX)(R:XK)(f:FuncId)(args:List Value)(W:XW):Option (List Value->XW->Option (cz×XW))->Option XO
 |some h=>xz (h args W)
 |none=>Lu P H R args W P.funcs[f]?
def VI(P:Program)(H:dX)(R:XK):XT->Option XO
 |.code N rd c s=>mn P R N rd s c
 |.call f args W=>ry P H R f args W (H.call f)
def eP(P:Program)(H:dX):Nat->XT->Option XO
 |0=>fun _=>none
 |n+1=>VI P H (eP P H n)
structure RI where
 b:Nat
 s:Nat
 z:Nat
 k:Nat
 r:Nat
structure Ren where
 nm:Nat->Option RI
 fz:Nat->Option Obj
instance:CoeFun Ren (fun _=>Nat->Option RI):=⟨Ren.nm⟩
structure Ren.le(ρ ρ':Ren):Prop where
 nm:∀n i,ρ n=some i->ρ' n=some i
 fz:∀b o,ρ.fz b=some o->ρ'.fz b=some o
instance {ρ ρ':Ren}:CoeFun (Ren.le ρ ρ') (fun _=>∀n i,ρ n=some i->ρ' n=some i):=⟨Ren.le.nm⟩
theorem Ren.le.refl(ρ:Ren):ρ.le ρ:=⟨fun _ _ h=>h,fun _ _ h=>h⟩
theorem Ren.le.trans{a b c:Ren}(h:a.le b)(k:b.le c):a.le c:=⟨fun n i e=>k n i (h n i e),fun n i e=>k.fz n i (h.fz n i e)⟩
mutual
inductive VR(ρ:Ren):Value->Value->Prop
 |flat (k:Nat) (v:Value) (h:cb k v=true):VR ρ v v
 |ptr (n o:Nat) (i:RI) (h:ρ n=some i):VR ρ (.pointer (some ⟨n,o,none⟩)) (.pointer (some ⟨i.b,o+i.s,none⟩))
 |slice (n o len cap:Nat) (i:RI) (h:ρ n=some i) (hc:bm cap=false):VR ρ (.slice (some ⟨n,o,none⟩) len cap) (.slice (some ⟨i.b,o+i.s,none⟩) len cap)
 |sliceO (n o len cap cap':Nat) (i:RI) (h:ρ n=some i) (hc:bm cap=true) (hl:len<=cap') (hr:i.r<=o+cap'*i.k) (hz:o+i.s+cap'*i.k<=i.z) :
  VR ρ (.slice (some ⟨n,o,none⟩) len cap) (.slice (some ⟨i.b,o+i.s,none⟩) len cap')
 |sliceE (n o cap:Nat) (a:Addr) (i:RI) (h:ρ n=some i) (hc:bm cap=true) (hr:i.r<=o):VR ρ (.slice (some ⟨n,o,none⟩) 0 cap) (.slice (some a) 0 0)
 |sliceZ (n o:Nat) (a:Addr) (i:RI) (h:ρ n=some i):VR ρ (.slice (some ⟨n,o,none⟩) 0 0) (.slice (some a) 0 0)
 |map (n:Nat) (i:RI) (h:ρ n=some i):VR ρ (.map (some n)) (.map (some i.b))
 |func (f:FuncId) (xs cs xs' cs':List Value) (h1:cd ρ xs xs') (h2:cd ρ cs cs'):VR ρ (.func (.func f) xs.toArray cs.toArray) (.func (.func f) xs'.toArray cs'.toArray)
 |yield (n:Nat) (i:RI) (h:ρ n=some i):VR ρ (.func (.yield n) #[] #[]) (.func (.yield i.b) #[] #[])
 |iface (t:TypeId) (v v':Value) (h:VR ρ v v'):VR ρ (.iface t v) (.iface t v')
 |agg (cs cs':List Value) (h:cd ρ cs cs'):VR ρ (.agg cs.toArray) (.agg cs'.toArray)
 |tuple (cs cs':List Value) (h:cd ρ cs cs'):VR ρ (.tuple cs.toArray) (.tuple cs'.toArray)
 |frz (cs cs':List Value) (len b off cap:Nat) (c':Array Value) (e:TypeId) (fr:Nat×Nat) (hB:ρ.fz b=some (.cells c' e fr)) (hl:len<=cap) (hc:(c'.toList.drop off).take cs.length=cs') (h:cd ρ cs cs'):VR ρ (FZ cs len) (.slice (some ⟨b,off,none⟩) len cap)
 |frzE (a:Addr) (cap:Nat):VR ρ (FZ [] 0) (.slice (some a) 0 cap)
 |frp (cs cs':List Value) (b off:Nat) (c':Array Value) (e:TypeId) (fr:Nat×Nat) (hB:ρ.fz b=some (.cells c' e fr)) (hc:(c'.toList.drop off).take cs.length=cs') (h:cd ρ cs cs'):VR ρ (FP cs) (.pointer (some ⟨b,off,none⟩))
inductive cd(ρ:Ren):List Value->List Value->Prop
 |nil:cd ρ [] []
 |cons (v v':Value) (l l':List Value) (h:VR ρ v v') (hs:cd ρ l l'):cd ρ (v::l) (v'::l')
end
mutual
theorem VR.mono{ρ ρ':Ren}(hr:ρ.le ρ'):∀{v x:Value},VR ρ v x->VR ρ' v x
 |_,_,.flat k v h=>.flat k v h
 |_,_,.ptr n o i h=>.ptr n o i (hr _ _ h)
 |_,_,.slice n o l c i h hc=>.slice n o l c i (hr _ _ h) hc
 |_,_,.sliceO n o l c c' i h hc hl h1 h2=>.sliceO n o l c c' i (hr _ _ h) hc hl h1 h2
 |_,_,.sliceE n o c a i h hc h1=>.sliceE n o c a i (hr _ _ h) hc h1
 |_,_,.sliceZ n o a i h=>.sliceZ n o a i (hr _ _ h)
 |_,_,.map n i h=>.map n i (hr _ _ h)
 |_,_,.func f xs cs xs' cs' h1 h2=>.func f xs cs xs' cs' (cd.mono hr h1) (cd.mono hr h2)
 |_,_,.yield n i h=>.yield n i (hr _ _ h)
 |_,_,.iface t v v' h=>.iface t v v' (VR.mono hr h)
 |_,_,.agg cs cs' h=>.agg cs cs' (cd.mono hr h)
 |_,_,.tuple cs cs' h=>.tuple cs cs' (cd.mono hr h)
 |_,_,.frz cs cs' len b off cap c' e fr hB hl hc h=>.frz cs cs' len b off cap c' e fr (hr.fz _ _ hB) hl hc (cd.mono hr h)
 |_,_,.frzE a cap=>.frzE a cap
 |_,_,.frp cs cs' b off c' e fr hB hc h=>.frp cs cs' b off c' e fr (hr.fz _ _ hB) hc (cd.mono hr h)
theorem cd.mono{ρ ρ':Ren}(hr:ρ.le ρ'):∀{v x:List Value},cd ρ v x->cd ρ' v x
 |_,_,.nil=>.nil
 |_,_,.cons v v' l l' h hs=>.cons v v' l l' (VR.mono hr h) (cd.mono hr hs)
end
theorem cd.length{ρ:Ren}:∀{v x:List Value},cd ρ v x->x.length=v.length
 |_,_,.nil=>rfl
 |_,_,.cons v v' l l' h hs=>by simp[hs.length]
theorem cd.get{ρ:Ren}:∀{v x:List Value},cd ρ v x->∀(j:Nat) (u:Value),v[j]?=some u->∃u',x[j]?=some u'/\VR ρ u u'
 |_,_,.nil,j,u,h=>by simp at h
 |_,_,.cons v v' l l' h hs,0,u,e=>by simp at e;subst e;exact⟨v',rfl,h⟩
 |_,_,.cons v v' l l' h hs,j+1,u,e=>by simpa using hs.get j u (by simpa using e)
theorem cd.append{ρ:Ren}:∀{v x u y:List Value},cd ρ v x->cd ρ u y->cd ρ (v++u) (x++y)
 |_,_,_,_,.nil,k=>k
 |_,_,_,_,.cons v v' l l' h hs,k=>.cons _ _ _ _ h (hs.append k)
theorem cd.drop{ρ:Ren}:∀{v x:List Value},cd ρ v x->∀n,cd ρ (v.drop n) (x.drop n)
 |_,_,h,0=>h
 |_,_,.nil,n+1=>.nil
 |_,_,.cons v v' l l' h hs,n+1=>hs.drop n
theorem cd.take{ρ:Ren}:∀{v x:List Value},cd ρ v x->∀n,cd ρ (v.take n) (x.take n)
 |_,_,h,0=>.nil
 |_,_,.nil,n+1=>.nil
 |_,_,.cons v v' l l' h hs,n+1=>.cons _ _ _ _ h (hs.take n)
theorem cd.of_get{ρ:Ren}:∀{v x:List Value},x.length=v.length->(∀(j:Nat) (u:Value),v[j]?=some u->∃u',x[j]?=some u'/\VR ρ u u')->cd ρ v x
 |[],[],_,_=>.nil
 |[],_::_,h,_=>by simp at h
 |_::_,[],h,_=>by simp at h
 |v::l,x::m,h,k=>by
  obtain⟨u',e,r⟩:=k 0 v rfl;simp at e;subst e;exact .cons _ _ _ _ r (cd.of_get (by simpa using h) fun j u hu=>by simpa using k (j+1) u (by simpa using hu))
theorem rv{n:Nat}{l:List Value}{ρ:Ren}(h:l.all (cb n)=true):cd ρ l l:=by
 induction l with
 |nil=>exact .nil
 |cons v l ih=>simp at h;exact .cons _ _ _ _ (.flat n v h.1) (ih (by simpa using h.2))
mutual
theorem VR.of_flat{ρ:Ren}:∀{v x:Value},VR ρ v x->∀k,cb k v=true->x=v
 |_,_,.flat _ v _,_,_=>rfl
 |_,_,.ptr n o i h,k,e=>by cases k<;>simp[cb]at e
 |_,_,.slice n o l c i h hc,k,e=>by cases k<;>simp[cb]at e
 |_,_,.sliceO n o l c c' i h hc hl h1 h2,k,e=>by cases k<;>simp[cb]at e
 |_,_,.sliceE n o c a i h hc h1,k,e=>by cases k<;>simp[cb]at e
 |_,_,.sliceZ n o a i h,k,e=>by cases k<;>simp[cb]at e
 |_,_,.map n i h,k,e=>by cases k<;>simp[cb]at e
 |_,_,.func f xs cs xs' cs' h1 h2,k,e=>by
  cases k with
  |zero=>simp[cb]at e
  |succ k=>
   simp[cb]at e;obtain⟨rfl,rfl⟩:=e;cases h1;cases h2;rfl
 |_,_,.yield n i h,k,e=>by cases k<;>simp[cb]at e
 |_,_,.iface t v v' h,k,e=>by
  cases k with
  |zero=>simp[cb]at e
  |succ k=>rw[VR.of_flat h k (by simpa[cb]using e)]
 |_,_,.agg cs cs' h,k,e=>by
  cases k with
  |zero=>simp[cb]at e
  |succ k=>rw[cd.of_flat h k (by simpa[cb]using e)]
 |_,_,.tuple cs cs' h,k,e=>by
  cases k with
  |zero=>simp[cb]at e
  |succ k=>rw[cd.of_flat h k (by simpa[cb]using e)]
 |_,_,.frz cs cs' len b off cap c' e2 fr hB hl hc h,k,e=>by cases k<;>simp[FZ,cb]at e
 |_,_,.frzE a cap,k,e=>by cases k<;>simp[FZ,cb]at e
 |_,_,.frp cs cs' b off c' e2 fr hB hc h,k,e=>by cases k<;>simp[FP,cb]at e
theorem cd.of_flat{ρ:Ren}:∀{v x:List Value},cd ρ v x->∀k,(∀u∈v,cb k u=true)->x=v
 |_,_,.nil,_,_=>rfl
 |_,_,.cons v v' l l' h hs,k,e=>by rw[VR.of_flat h k (e v (by simp)),cd.of_flat hs k (fun u hu=>e u (by simp[hu]))]
end
theorem VR.flatEq{ρ:Ren}{v x:Value}(h:VR ρ v x)(e:dw v=true):x=v:=h.of_flat 8 e
theorem VR.int{ρ:Ren}{k:IntKind}{n:Int}{x:Value}(h:VR ρ (.int k n) x):x=.int k n:=h.of_flat 1 rfl
theorem VR.bool{ρ:Ren}{b:Bool}{x:Value}(h:VR ρ (.bool b) x):x=.bool b:=h.of_flat 1 rfl
theorem VR.str{ρ:Ren}{b:ByteArray}{x:Value}(h:VR ρ (.string b) x):x=.string b:=h.of_flat 1 rfl
theorem VR.ptrInv{ρ:Ren}{n o:Nat}{x:Value}(h:VR ρ (.pointer (some ⟨n,o,none⟩)) x):∃i,ρ n=some i/\x=.pointer (some ⟨i.b,o+i.s,none⟩):=by
 cases h with
 |flat k v h=>cases k<;>simp[cb]at h
 |ptr n o i h=>exact⟨i,h,rfl⟩
theorem VR.ptrSome{ρ:Ren}{a:Addr}{x:Value}(h:VR ρ (.pointer (some a)) x):∃n o i,a=⟨n,o,none⟩/\ρ n=some i/\x=.pointer (some ⟨i.b,o+i.s,none⟩):=by
 cases h with
 |flat k v h=>cases k<;>simp[cb]at h
 |ptr n o i h=>exact⟨n,o,i,rfl,h,rfl⟩
theorem VR.mapInv{ρ:Ren}{n:Nat}{x:Value}(h:VR ρ (.map (some n)) x):∃i,ρ n=some i/\x=.map (some i.b):=by
 cases h with
 |flat k v h=>cases k<;>simp[cb]at h
 |map n i h=>exact⟨i,h,rfl⟩
theorem VR.ifaceInv{ρ:Ren}{t:TypeId}{v x:Value}(h:VR ρ (.iface t v) x):∃v',x=.iface t v'/\VR ρ v v':=by
 cases h with
 |flat k v h=>
  cases k with
  |zero=>simp[cb]at h
  |succ k=>exact⟨_,rfl,.flat k _ (by simpa[cb]using h)⟩
 |iface t v v' h=>exact⟨v',rfl,h⟩
theorem VR.aggInv{ρ:Ren}{cs:Array Value}{x:Value}(h:VR ρ (.agg cs) x):∃cs':List Value,x=.agg cs'.toArray/\cd ρ cs.toList cs':=by
 cases h with
 |flat k v h=>
  cases k with
  |zero=>simp[cb]at h
  |succ k=>exact⟨cs.toList,by simp,rv (n:=k) (by simpa only[cb]using h)⟩
 |agg cs cs' h=>exact⟨cs',rfl,by simpa using h⟩
theorem VR.tupleInv{ρ:Ren}{cs:Array Value}{x:Value}(h:VR ρ (.tuple cs) x):∃cs':List Value,x=.tuple cs'.toArray/\cd ρ cs.toList cs':=by
 cases h with
 |flat k v h=>
  cases k with
  |zero=>simp[cb]at h
  |succ k=>exact⟨cs.toList,by simp,rv (n:=k) (by simpa only[cb]using h)⟩
 |tuple cs cs' h=>exact⟨cs',rfl,by simpa using h⟩
theorem VR.funcInv{ρ:Ren}{f:FuncId}{xs cs:Array Value}{x:Value}(h:VR ρ (.func (.func f) xs cs) x):∃xs' cs':List Value,x=.func (.func f) xs'.toArray cs'.toArray/\cd ρ xs.toList xs'/\cd ρ cs.toList cs':=by
 cases h with
 |flat k v h=>
  cases k with
  |zero=>simp[cb]at h
  |succ k=>
   simp[cb]at h;obtain⟨rfl,rfl⟩:=h;exact⟨[],[],rfl,.nil,.nil⟩
 |func f xs cs xs' cs' h1 h2=>exact⟨xs',cs',rfl,by simpa using h1,by simpa using h2⟩
theorem VR.yieldInv{ρ:Ren}{n:Nat}{xs cs:Array Value}{x:Value}(h:VR ρ (.func (.yield n) xs cs) x):∃i,ρ n=some i/\x=.func (.yield i.b) #[] #[]:=by
 cases h with
 |flat k v h=>cases k<;>simp[cb]at h
 |yield n i h=>exact⟨i,h,rfl⟩
theorem VR.fzInv{ρ:Ren}{n:Nat}{nm:String}{cs cc:Array Value}{x:Value}(h:VR ρ (.func (.methodOf n nm) cs cc) x):nm= "" /\ cc=#[] /\
 ((∃b off cap c' e fr,ρ.fz b=some (.cells c' e fr)/\n<=cap/\x=.slice (some ⟨b,off,none⟩) n cap/\cd ρ cs.toList ((c'.toList.drop off).take cs.toList.length))\/(cs=#[]/\n=0/\∃a cap,x=.slice (some a) 0 cap)):=by
 generalize hv:Value.func (.methodOf n nm) cs cc=v at h;cases h with
 |flat k v h=>subst hv;cases k<;>simp[cb]at h
 |frz cs cs' len b off cap c' e fr hB hl hc h=>
  unfold FZ at hv;cases hv;subst hc;exact⟨rfl,rfl,.inl ⟨b,off,cap,c',e,fr,hB,hl,rfl,by simpa using h⟩⟩
 |frzE a cap=>
  unfold FZ at hv;cases hv;exact⟨rfl,rfl,.inr ⟨rfl,rfl,a,cap,rfl⟩⟩
 |frp=>unfold FP at hv;cases hv
 |_=>cases hv
theorem VR.fpInv{ρ:Ren}{nm:String}{cs cc:Array Value}{x:Value}(h:VR ρ (.func (.method nm) cs cc) x):nm= "" /\ cc=#[] /\
 ∃b off c' e fr,ρ.fz b=some (.cells c' e fr)/\x=.pointer (some ⟨b,off,none⟩)/\cd ρ cs.toList ((c'.toList.drop off).take cs.toList.length):=by
 generalize hv:Value.func (.method nm) cs cc=v at h;cases h with
 |flat k v h=>subst hv;cases k<;>simp[cb]at h
 |frp cs cs' b off c' e fr hB hc h=>
  unfold FP at hv;cases hv;subst hc;exact⟨rfl,rfl,b,off,c',e,fr,hB,rfl,by simpa using h⟩
 |frz=>unfold FZ at hv;cases hv
 |frzE=>unfold FZ at hv;cases hv
 |_=>cases hv
theorem VR.sliceInv{ρ:Ren}{n o len cap:Nat}{x:Value}(h:VR ρ (.slice (some ⟨n,o,none⟩) len cap) x):∃i,ρ n=some i /\
 ((bm cap=false/\x=.slice (some ⟨i.b,o+i.s,none⟩) len cap) \/
  (bm cap=true/\∃cap',x=.slice (some ⟨i.b,o+i.s,none⟩) len cap'/\len<=cap'/\i.r<=o+cap'*i.k/\o+i.s+cap'*i.k<=i.z) \/
  (bm cap=true/\len=0/\i.r<=o/\∃a,x=.slice (some a) 0 0) \/
  (cap=0/\len=0/\∃a,x=.slice (some a) 0 0)):=by
 cases h with
 |flat k v h=>cases k<;>simp[cb]at h
 |slice n o len cap i h hc=>exact⟨i,h,.inl ⟨hc,rfl⟩⟩
 |sliceO n o len cap cap' i h hc hl hr hz=>exact⟨i,h,.inr (.inl ⟨hc,cap',rfl,hl,hr,hz⟩)⟩
 |sliceE n o cap a i h hc hr=>exact⟨i,h,.inr (.inr (.inl ⟨hc,rfl,hr,a,rfl⟩))⟩
 |sliceZ n o a i h=>exact⟨i,h,.inr (.inr (.inr ⟨rfl,rfl,a,rfl⟩))⟩
theorem VR.sliceAddr{ρ:Ren}{a:Addr}{len cap:Nat}{x:Value}(h:VR ρ (.slice (some a) len cap) x):∃n o,a=⟨n,o,none⟩:=by
 cases h with
 |flat k v h=>cases k<;>simp[cb]at h
 |slice n o len cap i h hc=>exact⟨n,o,rfl⟩
 |sliceO n o len cap cap' i h hc hl hr hz=>exact⟨n,o,rfl⟩
 |sliceE n o cap a i h hc hr=>exact⟨n,o,rfl⟩
 |sliceZ n o a i h=>exact⟨n,o,rfl⟩
theorem VR.sliceLen{ρ:Ren}{a:Option Addr}{len cap:Nat}{x:Value}(h:VR ρ (.slice a len cap) x):∃a' cap',x=.slice a' len cap':=by
 cases a with
 |none=>exact⟨none,cap,h.of_flat 1 rfl⟩
 |some a=>
  obtain⟨n,o,rfl⟩:=h.sliceAddr;obtain⟨i,_,h|h|h|h⟩:=h.sliceInv
  ·exact⟨_,_,h.2⟩
  ·obtain⟨_,c,e,_⟩:=h;exact⟨_,_,e⟩
  ·obtain⟨_,rfl,_,a,e⟩:=h;exact⟨_,_,e⟩
  obtain⟨_,rfl,a,e⟩:=h;exact⟨_,_,e⟩
theorem VR.one{ρ:Ren}{v x:Value}(h:VR ρ v x)(ho:bk v=true):x.oneCell'=true:=by
 cases h with
 |flat k v h=>cases v<;>first|rfl|(simp[bk]at ho)
 |agg=>simp[bk]at ho
 |tuple=>simp[bk]at ho
 |_=>rfl
theorem cd.one{ρ:Ren}:∀{v x:List Value},cd ρ v x->v.all bk=true->∀u∈x,u.oneCell'=true
 |_,_,.nil,_=>fun u hu=>by simp at hu
 |_,_,.cons v v' l l' h hs,e=>fun u hu=>by
  simp at e;rcases List.mem_cons.1 hu with rfl|hu
  ·exact h.one e.1
  exact hs.one (by simpa using e.2) u hu
theorem VR.cells{ρ:Ren}{v x:Value}(h:VR ρ v x):cd ρ v.cells.toList x.cells.toList:=by
 by_cases ha:∃cs,v=.agg cs
 ·obtain⟨cs,rfl⟩:=ha;obtain⟨cs',rfl,r⟩:=h.aggInv;simpa[Value.cells]using r
 have hx:¬∃cs,x=.agg cs:=by
  intro ⟨cs,e⟩;cases h<;>first|exact ha ⟨_,e⟩|cases e
  exact ha ⟨_,rfl⟩
 have e1:v.cells=#[v]:=by cases v<;>first|rfl|exact absurd ⟨_,rfl⟩ ha
 have e2:x.cells=#[x]:=by cases x<;>first|rfl|exact absurd ⟨_,rfl⟩ hx
 rw[e1,e2];exact .cons _ _ _ _ h .nil
theorem gk{a b:Nat}(h:a≠b):Nat.beq a b=false:=by
 cases e:Nat.beq a b with
 |true=>exact absurd (ZT e) h
 |false=>rfl
theorem PT.get_set_ne{α:Type}:∀(t:PT α) (n m:Nat) (x:Option α),m≠n->(t.set n x).get m=t.get m
 |.lf,_,_,_,_=>rfl
 |.nd l v r,n,m,x,h=>by
  unfold PT.set;by_cases h0:n=0
  ·subst h0;have:=gk h;simp[PT.get,this]
  rw[gk h0,cond_false];by_cases h1:n%2=1
  ·rw[show Nat.beq (n%2) 1=true by rw[h1];rfl,cond_true];unfold PT.get;by_cases hm:m=0
   ·subst hm;rfl
   rw[gk hm,cond_false,cond_false];by_cases hm1:m%2=1
   ·rw[show Nat.beq (m%2) 1=true by rw[hm1];rfl,cond_true,cond_true];exact PT.get_set_ne l (n/2) (m/2) x (by omega)
   rw[gk hm1,cond_false,cond_false]
  rw[gk h1,cond_false];unfold PT.get;by_cases hm:m=0
  ·subst hm;rfl
  rw[gk hm,cond_false,cond_false];by_cases hm1:m%2=1
  ·rw[show Nat.beq (m%2) 1=true by rw[hm1];rfl,cond_true,cond_true]
  rw[gk hm1,cond_false,cond_false];exact PT.get_set_ne r (n/2-1) (m/2-1) x (by omega)
theorem PT.get_set_same{α:Type}:∀(t:PT α) (n:Nat) (x:Option α),(t.set n x).get n=x\/(t.set n x).get n=none
 |.lf,_,_=>.inr rfl
 |.nd l v r,n,x=>by
  unfold PT.set;by_cases h0:n=0
  ·subst h0;exact .inl rfl
  rw[gk h0,cond_false];by_cases h1:n%2=1
  ·rw[show Nat.beq (n%2) 1=true by rw[h1];rfl,cond_true];unfold PT.get;rw[gk h0,cond_false,show Nat.beq (n%2) 1=true by rw[h1];rfl,cond_true];exact PT.get_set_same l (n/2) x
  rw[gk h1,cond_false];unfold PT.get;rw[gk h0,cond_false,gk h1,cond_false];exact PT.get_set_same r (n/2-1) x
theorem PT.set_some{α:Type}{t:PT α}{n m:Nat}{x:Option α}{v:α}(h:(t.set n x).get m=some v):(m=n/\x=some v)\/(m≠n/\t.get m=some v):=by
 by_cases e:m=n
 ·subst e;rcases PT.get_set_same t m x with q|q
  ·exact .inl ⟨rfl,by rw[<-q,h]⟩
  rw[q]at h;cases h
 exact .inr ⟨e,by rwa [PT.get_set_ne t n m x e]at h⟩
theorem PT.get_full{α:Type}:∀(k n:Nat),(PT.full k:PT α).get n=none
 |0,_=>rfl
 |k+1,n=>by
  unfold PT.full PT.get;cases Nat.beq n 0<;>cases Nat.beq (n%2) 1<;>simp[PT.get_full k]
structure FR(ρ:Ren)(N:Nat)(fr:XF)(tmps:Array Value):Prop where
 size:tmps.size=N
 rep:∀t v,fr.get t=some v->VR ρ v (tmps.getD t undef)
theorem FR.mono{ρ ρ':Ren}(hr:ρ.le ρ'){N:Nat}{fr:XF}{tmps:Array Value}(h:FR ρ N fr tmps):FR ρ' N fr tmps:=⟨h.size,fun t v e=>(h.rep t v e).mono hr⟩
inductive fx(ρ:Ren):List MapEntry->List MapEntry->Prop
 |nil:fx ρ [] []
 |cons (e e':MapEntry) (l l':List MapEntry) (hk:VR ρ e.key e'.key) (hv:VR ρ e.val e'.val) (hb:e'.born=e.born) (hs:fx ρ l l'):fx ρ (e::l) (e'::l')
theorem fx.mono{ρ ρ':Ren}(hr:ρ.le ρ'):∀{l l':List MapEntry},fx ρ l l'->fx ρ' l l'
 |_,_,.nil=>.nil
 |_,_,.cons e e' l l' hk hv hb hs=>.cons e e' l l' (hk.mono hr) (hv.mono hr) hb (hs.mono hr)
theorem fx.length{ρ:Ren}:∀{l l':List MapEntry},fx ρ l l'->l'.length=l.length
 |_,_,.nil=>rfl
 |_,_,.cons e e' l l' hk hv hb hs=>by simp[hs.length]
inductive OR(P:Program)(ρ:Ren)(i:RI):bb->Obj->Prop
 |cells (c:List Value) (e:TypeId) (fr:Nat×Nat) (c':Array Value) (fr':Nat×Nat) (hz:c'.size=i.z) (hr:c.length=i.r) (hk:∀t,P.info? e=some t->t.size=i.k) (hl:i.s+i.r<=i.z)
  (hv:∀(j:Nat) (v:Value),c[j]?=some v->∃v',c'[i.s+j]?=some v'/\VR ρ v v') (hf:∀j,i.s+j<i.z->fr'.1<=i.s+j->i.s+j<fr'.2->fr.1<=j/\j<fr.2) (hq:fr'.1<=fr'.2/\(fr.1=0->fr'.2<=i.z)) (hm:i.s%i.k=0):OR P ρ i (.cells c e fr) (.cells c' e fr')
 |map (es es':List MapEntry) (clock:Nat) (h:fx ρ es es'):OR P ρ i (.map es clock) (.map es'.toArray clock)
 |iter (m since:Nat) (seen:List Nat) (stepped:Nat) (q:RI) (h:ρ m=some q) (hs:i.s=0):OR P ρ i (.iter m since seen stepped) (.mapIter (some q.b) since seen.toArray stepped)
 |loop (st:LoopState) (pend:Option Code) (tm:XF) (N:Nat) (ps:List Tmp) (asg body:Code) (d:Nat) (q:RI) (fn:FuncId) (tmps:Array Value) (hd:ρ d=some q) (hF:FR ρ N tm tmps) :
  OR P ρ i (.loop st pend tm N ps asg body d) (.loop { state:=st,pending:=pend,fn,tmps,params:=ps.toArray,assign:=asg,body,defers:=q.b })
 |defd0:OR P ρ i (.defd false) (.deferred (some []))
 |defd1:OR P ρ i (.defd true) (.deferred none)
theorem OR.mono{P:Program}{ρ ρ':Ren}(hr:ρ.le ρ'){i:RI}{o:bb}{ob:Obj}(h:OR P ρ i o ob):OR P ρ' i o ob:=by
 cases h with
 |cells c e fr c' fr' hz hr' hk hl hv hf hq hm=>exact .cells c e fr c' fr' hz hr' hk hl (fun j v e=>let⟨v',a,b⟩:=hv j v e;⟨v',a,b.mono hr⟩) hf hq hm
 |map es es' clock h=>exact .map es es' clock (h.mono hr)
 |iter m since seen stepped q h hs=>exact .iter m since seen stepped q (hr _ _ h) hs
 |loop st pend tm N ps asg body d q fn tmps hd hF=>exact .loop st pend tm N ps asg body d q fn tmps (hr _ _ hd) (hF.mono hr)
 |defd0=>exact .defd0
 |defd1=>exact .defd1
abbrev GH:=Nat->Option bb
def gX(ρ:Ren)(G:GH):Nat->Prop:=fun b=>∃n i,ρ n=some i/\G n≠none/\i.b=b
structure HR(P:Program)(ρ:Ren)(G:GH)(w:World):Prop where
 obj:∀n i o,ρ n=some i->G n=some o->∃ob,w.heap[i.b]?=some ob/\OR P ρ i o ob
 inj:∀n m i j,ρ n=some i->ρ m=some j->G n≠none->G m≠none->i.b=j.b->n=m
 frz:∀b o,ρ.fz b=some o->w.heap[b]?=some o/\¬gX ρ G b
structure dy(ρ:Ren)(G:GH)(nx:Nat)(w:World)(ρ':Ren)(G':GH)(nx':Nat)(w':World):Prop where
 le:ρ.le ρ'
 keeps:aK (gX ρ G) w w'
 img:∀b,gX ρ' G' b->gX ρ G b\/w.heap.size<=b
 dom:∀n,ρ' n≠none->ρ n≠none\/(nx<=n/\n<nx')
 next:nx<=nx'
 fzn:∀b o,ρ'.fz b=some o->ρ.fz b=some o\/gX ρ G b\/w.heap.size<=b
theorem dy.refl(ρ:Ren)(G:GH)(nx:Nat)(w:World):dy ρ G nx w ρ G nx w:=⟨.refl _,.refl _ _,fun _ h=>.inl h,fun _ h=>.inl h,Nat.le_refl _,fun _ _ h=>.inl h⟩
theorem dy.trans{ρ ρ' ρ'':Ren}{G G' G'':GH}{nx nx' nx'':Nat}{w w' w'':World}(h:dy ρ G nx w ρ' G' nx' w')(k:dy ρ' G' nx' w' ρ'' G'' nx'' w''):dy ρ G nx w ρ'' G'' nx'' w'':=
 ⟨h.le.trans k.le,h.keeps.trans' k.keeps (fun b hb e=>(h.img b e).elim id (fun g=>by omega)),
  fun b e=>(k.img b e).elim (h.img b) (fun g=>.inr (Nat.le_trans h.keeps.size g)),
  fun n e=>(k.dom n e).elim (fun g=>(h.dom n g).imp id (fun⟨a,b⟩=>⟨a,aaY b k.next⟩)) (fun⟨a,b⟩=>.inr ⟨Nat.le_trans h.next a,b⟩),Nat.le_trans h.next k.next,
  fun b o e=>(k.fzn b o e).elim (h.fzn b o) fun q=>.inr (q.elim (h.img b) fun g=>.inr (Nat.le_trans h.keeps.size g))⟩
theorem wC{P:Program}{ρ ρ':Ren}{G G':GH}{nx nx':Nat}{w w':World}(h:HR P ρ G w)(s:dy ρ G nx w ρ' G' nx' w')(hf:ρ'.fz=ρ.fz):∀b o,ρ'.fz b=some o->w'.heap[b]?=some o/\¬gX ρ' G' b:=fun b o e=>by
 rw[hf]at e;obtain⟨h1,h2⟩:=h.frz b o e;refine⟨s.keeps.heap h1 h2,fun hi=>?_⟩;rcases s.img b hi with q|q
 ·exact h2 q
 have:=gg h1;omega
def dL(ρ:Ren)(nx nx':Nat):Prop:=∀n,nx<=n->n<nx'->ρ n=none
theorem dL.left{ρ:Ren}{a b c:Nat}(h:dL ρ a c)(hbc:b<=c):dL ρ a b:=fun n h1 h2=>h n h1 (aaY h2 hbc)
theorem dL.right{ρ ρ':Ren}{G G':GH}{w w':World}{a b c:Nat}(h:dL ρ a c)(s:dy ρ G a w ρ' G' b w'):dL ρ' b c:=fun n h1 h2=>by
 cases e:ρ' n with
 |none=>rfl
 |some i=>
  rcases s.dom n (by rw[e];simp)with q|q
  ·exact absurd (h n (Nat.le_trans s.next h1) h2) q
  omega
theorem HR.live{P:Program}{ρ:Ren}{G:GH}{w:World}(h:HR P ρ G w){n:Nat}{i:RI}(hr:ρ n=some i)(hg:G n≠none):i.b<w.heap.size:=by
 cases e:G n with
 |none=>exact absurd e hg
 |some o=>obtain⟨ob,h1,_⟩:=h.obj n i o hr e;exact gg h1
theorem HR.sub{P:Program}{ρ:Ren}{G G':GH}{w:World}(h:HR P ρ G w)(hs:∀n o,G' n=some o->G n=some o):HR P ρ G' w:=
 have hn:∀n,G' n≠none->G n≠none:=fun n hn=>by
  cases e:G' n with
  |none=>exact absurd e hn
  |some o=>rw[hs n o e];simp
 ⟨fun n i o h1 h2=>h.obj n i o h1 (hs n o h2),fun n m i j h1 h2 h3 h4=>h.inj n m i j h1 h2 (hn n h3) (hn m h4),fun b o e=>⟨(h.frz b o e).1,fun⟨n,i,q1,q2,q3⟩=>(h.frz b o e).2 ⟨n,i,q1,hn n q2,q3⟩⟩⟩
theorem gX.sub{ρ:Ren}{G G':GH}(hs:∀n o,G' n=some o->G n=some o){b:Nat}(h:gX ρ G' b):gX ρ G b:=by
 obtain⟨n,i,h1,h2,h3⟩:=h;refine⟨n,i,h1,?_,h3⟩;cases e:G' n with
 |none=>exact absurd e h2
 |some o=>rw[hs n o e];simp
theorem HR.drew{P:Program}{ρ:Ren}{G:GH}{w:World}(h:HR P ρ G w):HR P ρ G w.drew:=⟨h.obj,h.inj,h.frz⟩
theorem dy.drew{ρ ρ':Ren}{G G':GH}{nx nx':Nat}{w w':World}(h:dy ρ G nx w.drew ρ' G' nx' w'):dy ρ G nx w ρ' G' nx' w':=
 ⟨h.le,(aK.drew (aK.refl _ w)).trans h.keeps,h.img,h.dom,h.next,h.fzn⟩
def gw(ρ:Ren)(n:Nat)(i:RI):Ren:=⟨fun m=>if m=n then some i else ρ m,ρ.fz⟩
theorem d9(ρ:Ren)(n:Nat)(i:RI):gw ρ n i n=some i:=if_pos rfl
theorem il{ρ:Ren}{n:Nat}(i:RI)(h:ρ n=none):ρ.le (gw ρ n i):=⟨fun m j e=>by
 show(if m=n then some i else ρ m)=some j;split
 ·rename_i q;subst q;rw[h]at e;cases e
 exact e,fun _ _ e=>e⟩
theorem yI{ρ:Ren}{n m:Nat}{i j:RI}(hm:m≠n)(h:gw ρ n i m=some j):ρ m=some j:=by
 have h:(if m=n then some i else ρ m)=some j:=h;rwa [if_neg hm]at h
theorem ou{a b:Nat}:Nat.blt a b=true↔a<b:=by
 unfold Nat.blt;exact⟨fun h=>Nat.le_of_ble_eq_true h,fun h=>Nat.ble_eq_true_of_le h⟩
theorem jQ{a b:Nat}(h:a<b):Nat.blt a b=true:=ou.2 h
theorem AX{a b:Nat}(h:b<=a):Nat.blt a b=false:=by
 cases e:Nat.blt a b with
 |false=>rfl
 |true=>have:=ou.1 e;omega
theorem XW.get_lt{W:XW}{n:Nat}(h:n<W.next):W.get n=W.heap.get n:=by unfold XW.get;rw[jQ h];rfl
theorem XW.get_ge{W:XW}{n:Nat}(h:W.next<=n):W.get n=none:=by unfold XW.get;rw[AX h];rfl
theorem XW.get_push{W:XW}{o o':bb}{n:Nat}(h:(W.push o).get n=some o'):(n=W.next/\o=o')\/(n≠W.next/\W.get n=some o'):=by
 rcases aaa n (W.push o).next with q|q
 ·rw[XW.get_lt q]at h;rcases PT.set_some h with⟨a,b⟩|⟨a,b⟩
  ·cases b;exact .inl ⟨a,rfl⟩
  have q:n<W.next+1:=q;exact .inr ⟨a,by rw[XW.get_lt (by omega)];exact b⟩
 rw[XW.get_ge q]at h;cases h
theorem XW.get_push_ne{W:XW}{o:bb}{n:Nat}(h:n≠W.next):(W.push o).get n=W.get n:=by
 rcases aaa n W.next with q|q
 ·rw[XW.get_lt q,XW.get_lt (W:=W.push o) (Nat.lt_succ_of_lt q)];exact PT.get_set_ne _ _ _ _ h
 rw[XW.get_ge q,XW.get_ge (W:=W.push o) (show W.next+1<=n by omega)]
theorem XW.get_put{W:XW}{x:Option bb}{o':bb}{n m:Nat}(h:(W.put n x).get m=some o'):(m=n/\x=some o')\/(m≠n/\W.get m=some o'):=by
 rcases aaa m W.next with q|q
 ·rw[XW.get_lt (W:=W.put n x) q]at h;rcases PT.set_some h with e|⟨a,b⟩
  ·exact .inl e
  exact .inr ⟨a,by rw[XW.get_lt q];exact b⟩
 rw[XW.get_ge (W:=W.put n x) q]at h;cases h
theorem XW.get_put_ne{W:XW}{x:Option bb}{n m:Nat}(h:m≠n):(W.put n x).get m=W.get m:=by
 rcases aaa m W.next with q|q
 ·rw[XW.get_lt q,XW.get_lt (W:=W.put n x) q];exact PT.get_set_ne _ _ _ _ h
 rw[XW.get_ge q,XW.get_ge (W:=W.put n x) q]
section
variable {P:Program} {ρ:Ren} {W:XW} {w:World}
theorem HR.pushK(h:HR P ρ W.get w)(hn:ρ W.next=none)(o:bb)(ob:Obj)(i:RI){w':World}(hkk:aK bY w w')(hnew:w'.heap[w.heap.size]?=some ob)(hb:i.b=w.heap.size)(ho:OR P (gw ρ W.next i) i o ob) :
 HR P (gw ρ W.next i) (W.push o).get w'/\dy ρ W.get W.next w (gw ρ W.next i) (W.push o).get (W.push o).next w':=by
 have hle:=il i hn;have hlive:∀m j,gw ρ W.next i m=some j->(W.push o).get m≠none->m≠W.next->ρ m=some j/\W.get m≠none:=fun m j h1 h2 h3=>⟨yI h3 h1,by rwa [XW.get_push_ne h3]at h2⟩
 have hst:dy ρ W.get W.next w (gw ρ W.next i) (W.push o).get (W.push o).next w':=⟨hle,hkk.mono (fun _ _ e=>e.elim),fun b hb'=>?_,fun m hm=>?_,aaX _,fun _ _ h=>.inl h⟩;refine⟨⟨fun m j o' h1 h2=>?_,fun m m' j j' h1 h2 h3 h4 hj=>?_,wC h hst rfl⟩,hst⟩
 ·rcases XW.get_push h2 with⟨rfl,rfl⟩|⟨h3,h4⟩
  ·rw[d9]at h1;cases h1;exact⟨ob,by rw[hb];exact hnew,ho⟩
  obtain⟨ob',q1,q2⟩:=h.obj m j o' (yI h3 h1) h4;exact⟨ob',hkk.heap q1 (fun e=>e),q2.mono hle⟩
 ·by_cases e1:m=W.next
  ·by_cases e2:m'=W.next
   ·rw[e1,e2]
   obtain⟨q1,q2⟩:=hlive m' j' h2 h4 e2;have:=h.live q1 q2;subst e1;rw[d9]at h1;cases h1;omega
  obtain⟨q1,q2⟩:=hlive m j h1 h3 e1;by_cases e2:m'=W.next
  ·have:=h.live q1 q2;subst e2;rw[d9]at h2;cases h2;omega
  obtain⟨q3,q4⟩:=hlive m' j' h2 h4 e2;exact h.inj m m' j j' q1 q3 q2 q4 hj
 ·obtain⟨m,j,h1,h2,h3⟩:=hb';by_cases e:m=W.next
  ·subst e;rw[d9]at h1;cases h1;exact .inr (by omega)
  obtain⟨q1,q2⟩:=hlive m j h1 h2 e;exact .inl ⟨m,j,q1,q2,h3⟩
 by_cases e:m=W.next
 ·subst e;exact .inr ⟨Nat.le_refl _,aan _⟩
 left;have hm:(if m=W.next then _ else ρ m)≠none:=hm;rwa [if_neg e]at hm
theorem HR.push(h:HR P ρ W.get w)(hn:ρ W.next=none)(o:bb)(ob:Obj)(i:RI)(hb:i.b=w.heap.size)(ho:OR P (gw ρ W.next i) i o ob) :
 HR P (gw ρ W.next i) (W.push o).get (w.alloc ob)/\dy ρ W.get W.next w (gw ρ W.next i) (W.push o).get (W.push o).next (w.alloc ob):=
 h.pushK hn o ob i ((aK.refl _ w).alloc ob) cC hb ho
theorem HR.put(h:HR P ρ W.get w){n:Nat}{i:RI}(hr:ρ n=some i)(hg:W.get n≠none)(o:bb){w':World}{ob:Obj}(hk:aK (fun b=>b=i.b) w w')(hb:w'.heap[i.b]?=some ob)(ho:OR P ρ i o ob) :
 HR P ρ (W.put n (some o)).get w'/\dy ρ W.get W.next w ρ (W.put n (some o)).get (W.put n (some o)).next w':=by
 have hlive:∀m,(W.put n (some o)).get m≠none->W.get m≠none:=fun m hm=>by
  by_cases e:m=n
  ·subst e;exact hg
  rwa [XW.get_put_ne e]at hm
 have hst:dy ρ W.get W.next w ρ (W.put n (some o)).get (W.put n (some o)).next w':=⟨.refl _,hk.mono (fun b _ e=>⟨n,i,hr,hg,e.symm⟩),fun b hb'=>?_,fun m hm=>.inl hm,Nat.le_refl _,fun _ _ h=>.inl h⟩;refine⟨⟨fun m j o' h1 h2=>?_,fun m m' j j' h1 h2 h3 h4=>h.inj m m' j j' h1 h2 (hlive m h3) (hlive m' h4),wC h hst rfl⟩,hst⟩
 ·rcases XW.get_put h2 with⟨rfl,q⟩|⟨h3,h4⟩
  ·cases q;rw[hr]at h1;cases h1;exact⟨ob,hb,ho⟩
  obtain⟨ob',q1,q2⟩:=h.obj m j o' h1 h4;exact⟨ob',hk.heap q1 (fun e=>h3 (h.inj m n j i h1 hr (by rw[h4];simp) hg e)),q2⟩
 obtain⟨m,j,h1,h2,h3⟩:=hb';exact .inl ⟨m,j,h1,hlive m h2,h3⟩
theorem HR.kill(h:HR P ρ W.get w)(n:Nat):HR P ρ (W.put n none).get w/\dy ρ W.get W.next w ρ (W.put n none).get (W.put n none).next w:=by
 have hs:∀m o,(W.put n none).get m=some o->W.get m=some o:=fun m o e=>by
  rcases XW.get_put e with⟨_,q⟩|⟨_,q⟩
  ·cases q
  exact q
 exact⟨h.sub hs,⟨.refl _,.refl _ _,fun b hb=>.inl (gX.sub hs hb),fun m hm=>.inl hm,Nat.le_refl _,fun _ _ h=>.inl h⟩⟩
theorem HR.regrow(h:HR P ρ W.get w){n:Nat}{i i':RI}(hr:ρ n=some i)(hg:W.get n≠none)(hn:ρ W.next=none)(hne:n≠W.next)(o:bb){w':World}{ob:Obj}(hk:aK (fun b=>b=i.b) w w')
 (hi:i'.b=i.b) (hb:w'.heap[i.b]?=some ob) (ho:OR P (gw ρ W.next i') i' o ob) :
 HR P (gw ρ W.next i') ((W.put n none).push o).get w'/\dy ρ W.get W.next w (gw ρ W.next i') ((W.put n none).push o).get ((W.put n none).push o).next w':=by
 have hle:=il i' hn;have hnx:(W.put n none).next=W.next:=rfl;have hlive:∀m j,gw ρ W.next i' m=some j->((W.put n none).push o).get m≠none->m≠W.next->m≠n/\ρ m=some j/\W.get m≠none:=fun m j h1 h2 h3=>by
  rw[XW.get_push_ne (by rw[hnx];exact h3)]at h2;have e:m≠n:=fun e=>by
   subst e;cases q:(W.put m none).get m with
   |none=>exact h2 q
   |some o=>rcases XW.get_put q with⟨_,q⟩|⟨q,_⟩;cases q;exact q rfl
  exact⟨e,yI h3 h1,by rwa [XW.get_put_ne e]at h2⟩
 have hst:dy ρ W.get W.next w (gw ρ W.next i') ((W.put n none).push o).get ((W.put n none).push o).next w':=⟨hle,hk.mono (fun b _ e=>⟨n,i,hr,hg,e.symm⟩),fun b hb'=>?_,fun m hm=>?_,aaX _,fun _ _ h=>.inl h⟩;refine⟨⟨fun m j o' h1 h2=>?_,fun m m' j j' h1 h2 h3 h4 hj=>?_,wC h hst rfl⟩,hst⟩
 ·by_cases e:m=W.next
  ·subst e;rw[d9]at h1;cases h1;rcases XW.get_push h2 with⟨_,rfl⟩|⟨q,_⟩
   ·exact⟨ob,by rw[hi];exact hb,ho⟩
   exact absurd rfl q
  obtain⟨q1,q2,q3⟩:=hlive m j h1 (by rw[h2];simp) e;rw[XW.get_push_ne (by rw[hnx];exact e),XW.get_put_ne q1]at h2;obtain⟨ob',r1,r2⟩:=h.obj m j o' q2 h2;exact⟨ob',hk.heap r1 (fun e=>q1 (h.inj m n j i q2 hr q3 hg e)),r2.mono hle⟩
 ·by_cases e1:m=W.next
  ·by_cases e2:m'=W.next
   ·rw[e1,e2]
   obtain⟨q1,q2,q3⟩:=hlive m' j' h2 h4 e2;subst e1;rw[d9]at h1;cases h1;exact absurd (h.inj m' n j' i q2 hr q3 hg (by rw[<-hj,hi])) q1
  obtain⟨q1,q2,q3⟩:=hlive m j h1 h3 e1;by_cases e2:m'=W.next
  ·subst e2;rw[d9]at h2;cases h2;exact absurd (h.inj m n j i q2 hr q3 hg (by rw[hj,hi])) q1
  obtain⟨q4,q5,q6⟩:=hlive m' j' h2 h4 e2;exact h.inj m m' j j' q2 q5 q3 q6 hj
 ·obtain⟨m,j,h1,h2,h3⟩:=hb';by_cases e:m=W.next
  ·subst e;rw[d9]at h1;cases h1;exact .inl ⟨n,i,hr,hg,by rw[<-hi];exact h3⟩
  obtain⟨_,q2,q3⟩:=hlive m j h1 h2 e;exact .inl ⟨m,j,q2,q3,h3⟩
 by_cases e:m=W.next
 ·subst e;exact .inr ⟨Nat.le_refl _,aan _⟩
 left;have hm:(if m=W.next then _ else ρ m)≠none:=hm;rwa [if_neg e]at hm
end
section
variable {P:Program} {ρ:Ren} {w:World}
theorem vY:(program).run P w=.ok P w:=rfl
theorem bM{t:TypeId}{d:TypeDesc}(h:P.underlying t=some d):(underlying t).run P w=.ok d w:=by
 unfold underlying;rw[ZO,vY,ZN,h];rfl
theorem ly{t:TypeId}{i:TypeInfo}(h:P.info? t=some i):(typeInfo t).run P w=.ok i w:=by
 unfold typeInfo;rw[ZO,vY,ZN,h];rfl
theorem yk{t:TypeId}{s:Nat}(h:sz P t=some s):∃i,P.info? t=some i/\i.size=s:=by
 unfold sz at h;cases e:P.info? t with
 |none=>rw[e]at h;cases h
 |some i=>rw[e]at h;exact⟨i,rfl,by simpa using h⟩
theorem eT{t:TypeId}{s:Nat}(h:sz P t=some s):(sizeOf t).run P w=.ok s w:=by
 obtain⟨i,h1,h2⟩:=yk h;unfold sizeOf;rw[ZO,ly h1,ZN,h2];rfl
theorem uN{t:TypeId}{b:Bool}(h:cS P t=some b):(isAgg t).run P w=.ok b w:=by
 unfold cS at h;cases e:P.underlying t with
 |none=>rw[e]at h;cases h
 |some d=>
  rw[e]at h;unfold isAgg;rw[ZO,bM e,ZN];cases d<;>(simp at h;subst h;rfl)
theorem gM{t:TypeId}{z:Value}(h:bE P t=some z):∃i,P.info? t=some i/\i.zero=some z/\dw z=true:=by
 unfold bE at h;cases e:P.info? t with
 |none=>rw[e]at h;cases h
 |some i=>
  simp only[e]at h;cases e2:i.zero with
  |none=>simp only[e2]at h;cases h
  |some y=>
   simp only[e2]at h;cases e3:dw y with
   |false=>rw[e3]at h;cases h
   |true=>rw[e3]at h;cases h;exact⟨i,rfl,e2,e3⟩
theorem iI{t:TypeId}{z:Value}(h:bE P t=some z):(zeroValue t).run P w=.ok z w:=by
 obtain⟨i,h1,h2,_⟩:=gM h;unfold zeroValue;rw[ZO,ly h1,ZN,h2];rfl
theorem jX{α:Type}:∀{S:Sem α} {x:α},bQ P S=some x->∀w:World,S.run P w=.ok x w
 |.pure a,x,h,w=>by simp only[bQ,Option.some.injEq]at h;subst h;rfl
 |.program k,x,h,w=>by rw[Sem.run];exact jX (S:=k P) h w
 |.mark _ k,x,h,w=>by rw[Sem.run];exact jX (S:=k) h w
 |.choose q k,x,h,w=>by
  rw[bQ]at h;cases e:q.forced with
  |false=>rw[e]at h;cases h
  |true=>rw[e]at h;rw[Sem.run,if_pos e];exact jX (S:=k 0) h w
 |.load _ _ _,_,h,_=>by simp[bQ]at h
 |.store _ _ _ _,_,h,_=>by simp[bQ]at h
 |.new _ _,_,h,_=>by simp[bQ]at h
 |.shape _ _,_,h,_=>by simp[bQ]at h
 |.freeze _ _ _,_,h,_=>by simp[bQ]at h
 |.frozen _ _,_,h,_=>by simp[bQ]at h
 |.getObj _ _,_,h,_=>by simp[bQ]at h
 |.setObj _ _ _,_,h,_=>by simp[bQ]at h
 |.sys _ _,_,h,_=>by simp[bQ]at h
 |.halt _,_,h,_=>by simp[bQ]at h
end
def Ev(ρ:Ren)(fr:XF)(e:Operand->Value):Prop:=∀x v,ev fr x=some v->VR ρ v (e x)
theorem FR.ev{ρ:Ren}{N:Nat}{fr:XF}{a:Act}(h:FR ρ N fr a.tmps):Ev ρ fr a.eval:=fun x v e=>by
 cases x with
 |tmp t=>exact h.rep t v e
 |const c=>
  simp only[X.ev]at e;cases q:dw c with
  |false=>rw[q]at e;cases e
  |true=>rw[q]at e;cases e;exact .flat 8 _ q
 |global g=>cases e
 |func f=>cases e;exact .flat 1 _ rfl
theorem Ev.evs{ρ:Ren}{fr:XF}{e:Operand->Value}(h:Ev ρ fr e):∀{l:List Operand} {vs:List Value},evs fr l=some vs->cd ρ vs (l.map e)
 |[],vs,q=>by cases q;exact .nil
 |x::l,vs,q=>by
  unfold X.evs at q;cases e1:ev fr x with
  |none=>rw[e1]at q;cases q
  |some v=>
   cases e2:X.evs fr l with
   |none=>rw[e1,e2]at q;cases q
   |some r=>rw[e1,e2]at q;cases q;exact .cons _ _ _ _ (h x v e1) (h.evs e2)
inductive EG(ρ:Ren):List (Nat×Value)->List (Nat×Value)->Prop
 |nil:EG ρ [] []
 |cons (i:Nat) (v v':Value) (l l':List (Nat×Value)) (h:VR ρ v v') (hs:EG ρ l l'):EG ρ ((i,v)::l) ((i,v')::l')
theorem Ev.evP{ρ:Ren}{fr:XF}{e:Operand->Value}(h:Ev ρ fr e):∀{l:List (Nat×Operand)} {vs:List (Nat×Value)},evP fr l=some vs->EG ρ vs (l.map fun(i,x)=>(i,e x))
 |[],vs,q=>by cases q;exact .nil
 |(i,x)::l,vs,q=>by
  unfold X.evP at q;cases e1:ev fr x with
  |none=>rw[e1]at q;cases q
  |some v=>
   cases e2:X.evP fr l with
   |none=>rw[e1,e2]at q;cases q
   |some r=>rw[e1,e2]at q;cases q;exact .cons _ _ _ _ _ (h x v e1) (h.evP e2)
def vA(ρ:Ren)(s:Nat)(c:List Value)(c':Array Value):Prop:=∀(j:Nat) (v:Value),c[j]?=some v->∃v',c'[s+j]?=some v'/\VR ρ v v'
theorem cd.row{ρ:Ren}{off:Nat}{cs:List Value}{c':Array Value}(h:cd ρ cs ((c'.toList.drop off).take cs.length)):vA ρ off cs c':=fun j v hj=>by
 obtain⟨v',h1,h2⟩:=h.get j v hj;refine⟨v',?_,h2⟩;have hj':j<cs.length:=(List.getElem?_eq_some_iff.1 hj).1;rw[aaj,if_pos hj',aas,aar]at h1;exact h1
theorem cd.piece{ρ:Ren}{off:Nat}{cs:List Value}{c':Array Value}(h:cd ρ cs ((c'.toList.drop off).take cs.length))(d n:Nat) :
 cd ρ ((cs.drop d).take n) ((c'.toList.drop (off+d)).take ((cs.drop d).take n).length):=by
 have:=(h.drop d).take n;rw[List.drop_take,List.drop_drop,List.take_take]at this;rw[ZR,ZV];exact this
theorem vA.part{ρ:Ren}{s:Nat}{c:List Value}{c':Array Value}(h:vA ρ s c c')(o n:Nat)(hl:((c.drop o).take n).length=n) :
 ∃cs:List Value,cs.length=n/\cd ρ ((c.drop o).take n) cs/\∀j u,cs[j]?=some u->c'[s+o+j]?=some u:=by
 have key:∀j,j<n->∃v v',((c.drop o).take n)[j]?=some v/\c'[s+o+j]?=some v'/\VR ρ v v':=fun j hj=>by
  have hj':j<((c.drop o).take n).length:=by omega
  have e:=ZP hj';have e2:c[o+j]?=some (((c.drop o).take n)[j]):=by rw[<-e,aaj,if_pos hj,aas]
  obtain⟨v',h1,h2⟩:=h _ _ e2;exact⟨_,v',e,by rw[aa5];exact h1,h2⟩
 have hget:∀j,j<n->(c'.toList.drop (s+o))[j]?=c'[s+o+j]?:=fun j hj=>by
  rw[aas,aar]
 have hlen:((c'.toList.drop (s+o)).take n).length=n:=by
  rw[ZR];rcases aaa ((c'.toList.drop (s+o)).length) n with q|q
  ·exfalso;obtain⟨v,v',_,h2,_⟩:=key _ q;rw[<-hget _ q]at h2;rw[aae (Nat.le_refl _)]at h2;cases h2
  omega
 refine⟨(c'.toList.drop (s+o)).take n,hlen,cd.of_get (by rw[hlen,hl]) fun j u hu=>?_,fun j u hu=>?_⟩
 ·have hj:j<n:=by
   have:=(List.getElem?_eq_some_iff.1 hu).1;omega
  obtain⟨v,v',h1,h2,h3⟩:=key j hj;rw[hu]at h1;cases h1;exact⟨v',by rw[aaj,if_pos hj,hget j hj];exact h2,h3⟩
 have hj:j<n:=by have:=(List.getElem?_eq_some_iff.1 hu).1;omega
 rw[aaj,if_pos hj,hget j hj]at hu;exact hu
theorem BF{P:Program}{ρ:Ren}{w:World}{b s o:Nat}{t e:TypeId}{c:List Value}{c':Array Value}{f:Nat×Nat}{v:Value}(hb:w.heap[b]?=some (.cells c' e f))(hr:vA ρ s c c')(h:mw P t c o=some v) :
 ∃u,(loadVar t ⟨b,o+s,none⟩).run P w=.ok u w/\VR ρ v u:=by
 unfold mw at h;cases ha:cS P t with
 |none=>rw[ha]at h;cases h
 |some q=>
  rw[ha]at h;cases q with
  |true=>
   cases hs:sz P t with
   |none=>rw[hs]at h;cases h
   |some n=>
    rw[hs]at h;simp only at h;cases hl:Nat.beq ((c.drop o).take n).length n with
    |false=>rw[hl]at h;cases h
    |true=>
     rw[hl]at h;cases h;obtain⟨cs,q1,q2,q3⟩:=hr.part o n (ZT hl);refine⟨.agg cs.toArray,?_,.agg _ _ q2⟩;have hll:=run_loadCells_list (P:=P) w ⟨b,o+s,none⟩ cs fun j u hu=>by
      rw[dc,cB hb,aau o s];exact q3 j u hu
     rw[q1]at hll;unfold loadVar;rw[ZO,uN ha,ZN,if_pos rfl,ZO,eT hs,ZN,ZO,hll];rfl
  |false=>
   simp only at h;obtain⟨v',q1,q2⟩:=hr o v h;refine⟨v',?_,q2⟩;unfold loadVar;rw[ZO,uN ha,ZN,if_neg aag];have:w.cell? ⟨b,o+s,none⟩=some v':=by rw[cB hb,aau o s];exact q1
   show(Sem.load _ _ _).run P w=_;rw[Sem.run,this];rfl
theorem Bd{P:Program}{ρ:Ren}{w:World}{o:Nat}{t:TypeId}{c cs:List Value}{v:Value}(hr:cd ρ c cs)(h:mw P t c o=some v):∃u,(part t cs.toArray o).run P w=.ok u w/\VR ρ v u:=by
 unfold mw at h;cases ha:cS P t with
 |none=>rw[ha]at h;cases h
 |some q=>
  rw[ha]at h;cases q with
  |true=>
   cases hs:sz P t with
   |none=>rw[hs]at h;cases h
   |some n=>
    rw[hs]at h;simp only at h;cases hl:Nat.beq ((c.drop o).take n).length n with
    |false=>rw[hl]at h;cases h
    |true=>
     rw[hl]at h;cases h;refine⟨.agg ((cs.drop o).take n).toArray,?_,.agg _ _ ((hr.drop o).take n)⟩;unfold part;rw[ZO,uN ha,ZN,if_pos rfl,ZO,eT hs,ZN];have:(cs.toArray.extract o (o+n))=((cs.drop o).take n).toArray:=by rw[List.extract_toArray,List.extract_eq_take_drop];simp
     rw[this];rfl
  |false=>
   simp only at h;obtain⟨v',q1,q2⟩:=hr.get o v h;refine⟨v',?_,q2⟩;unfold part;rw[ZO,uN ha,ZN,if_neg aag];rw[show cs.toArray[o]?=some v' by rw[List.getElem?_toArray];exact q1];rfl
def lU(c:Array Value):Nat->List Value->Array Value
 |_,[]=>c
 |o,v::l=>lU (c.setIfInBounds o v) (o+1) l
theorem t7:∀(l:List Value) (o:Nat) (c:Array Value),(lU c o l).size=c.size
 |[],_,_=>rfl
 |v::l,o,c=>by rw[lU,t7 l,Array.size_setIfInBounds]
theorem lr:∀(l:List Value) (o:Nat) (c:Array Value) (j:Nat),(j<o\/o+l.length<=j)->(lU c o l)[j]?=c[j]?
 |[],_,_,_,_=>rfl
 |v::l,o,c,j,h=>by
  rw[lU,lr l (o+1) _ j (by simp at h;omega),aaD (by simp at h;omega)]
theorem uQ:∀(l:List Value) (o:Nat) (c:Array Value) (j:Nat),o+l.length<=c.size->j<l.length->(lU c o l)[o+j]?=l[j]?
 |[],_,_,_,_,h=>by simp at h
 |v::l,o,c,0,hs,h=>by
  rw[lU,lr l (o+1) _ (o+0) (by omega)];simp at hs;rw[Nat.add_zero,aa1,if_pos (by omega)];rfl
 |v::l,o,c,j+1,hs,h=>by
  have:=uQ l (o+1) (c.setIfInBounds o v) j (by simp at hs ⊢;omega) (by simpa using h);rw[lU,show o+(j+1)=o+1+j by omega,this];rfl
theorem vM{w:World}{b o:Nat}{c:Array Value}{e:TypeId}{f:Nat×Nat}{v:Value}(h:w.heap[b]?=some (.cells c e f)):(w.setCell ⟨b,o,none⟩ v).heap[b]?=some (.cells (c.setIfInBounds o v) e f):=by
 have hb:=gg h;simp only[World.setCell,aaH,h];simp
theorem nF:∀(l:List Value) (w:World) (b o:Nat) (c:Array Value) (e:TypeId) (f:Nat×Nat),w.heap[b]?=some (.cells c e f)->(w.setCells b o l).heap[b]?=some (.cells (lU c o l) e f)
 |[],_,_,_,_,_,_,h=>h
 |v::l,w,b,o,c,e,f,h=>by
  rw[World.setCells];exact nF l _ b (o+1) _ e f (vM h)
theorem nv:∀(us:List Value) (w:World) (b off:Nat),aK (fun k=>k=b) w (w.setCells b off us)
 |[],w,b,off=>aK.refl _ _
 |u::us,w,b,off=>by
  rw[World.setCells];exact((aK.refl (fun k=>k=b) w).setCell (p:=⟨b,off,none⟩) (fun _=>rfl) u).trans (nv us _ b (off+1))
theorem Kn{c vs:List Value}{o:Nat}(h:o+vs.length<=c.length):(wr c o vs).length=c.length:=by
 unfold wr;simp;omega
theorem Te{c vs:List Value}{o j:Nat}{v:Value}(h:o+vs.length<=c.length)(hv:(wr c o vs)[j]?=some v):(j<o/\c[j]?=some v)\/(o<=j/\j<o+vs.length/\vs[j-o]?=some v)\/(o+vs.length<=j/\c[j]?=some v):=by
 unfold wr at hv;have ht:(c.take o).length=o:=by simp;omega
 rcases aaa j o with q|q
 ·left;rw[aaB (by omega),aaj,if_pos q]at hv;exact⟨q,hv⟩
 rw[aaz (by omega),ht]at hv;rcases aaa (j-o) vs.length with q2|q2
 ·rw[aaB q2]at hv;exact .inr (.inl ⟨q,by omega,hv⟩)
 rw[aaz q2,aas]at hv;rw[show o+vs.length+(j-o-vs.length)=j by omega]at hv;exact .inr (.inr ⟨by omega,hv⟩)
theorem nT{W W':XW}{n o:Nat}{vs:List Value}(h:ir W n o vs=some W'):∃c e fr,W.get n=some (.cells c e fr)/\o+vs.length<=c.length/\(∀j,o<=j->j<o+vs.length->¬(fr.1<=j/\j<fr.2)) /\
 vs.all bk=true/\W'=W.put n (some (.cells (wr c o vs) e fr)):=by
 unfold ir at h;cases e1:W.get n with
 |none=>rw[e1]at h;cases h
 |some ob=>
  rw[e1]at h;cases ob with
  |cells c e fr=>
   simp only at h;cases q:(Nat.ble (o+vs.length) c.length&&!tV fr o vs.length&&vs.all bk)with
   |false=>rw[q]at h;cases h
   |true=>
    rw[q]at h;cases h;simp only[ZX,aaE]at q;refine⟨c,e,fr,rfl,Nat.le_of_ble_eq_true q.1.1,fun j h1 h2 ⟨h3,h4⟩=>?_,q.2,rfl⟩;have:=q.1.2;unfold tV at this;simp only[Bool.not_eq_false',aat]at this;rcases this with(this|this)|this
    ·have:=Nat.le_of_ble_eq_true this;omega
    ·have:=Nat.le_of_ble_eq_true this;omega
    have:=Nat.le_of_ble_eq_true this;omega
  |_=>cases h
theorem mc{P:Program}{ρ:Ren}{W W':XW}{w:World}{n o:Nat}{i:RI}{vs us:List Value}(h:HR P ρ W.get w)(hr:ρ n=some i)(hs:ir W n o vs=some W')(hv:cd ρ vs us) :
 (storeCells ⟨i.b,o+i.s,none⟩ us).run P w=.ok () (w.setCells i.b (o+i.s) us)/\HR P ρ W'.get (w.setCells i.b (o+i.s) us)/\dy ρ W.get W.next w ρ W'.get W'.next (w.setCells i.b (o+i.s) us):=by
 obtain⟨c,e,fr,hg,hl,hfr,h1,rfl⟩:=nT hs;obtain⟨ob,hb,ho⟩:=h.obj n i _ hr hg;cases ho with
 |cells _ _ _ c' fr' hz hrr hk hll hrow hf hq hm=>
  have hlen:=hv.length;have hin:∀j,j<us.length->o+i.s+j<c'.size:=fun j hj=>by omega
  refine⟨?_,?_⟩
  ·have:=run_storeCells_cells (P:=P) i.b (o+i.s) us 0 w (fun j hj=>by
    rw[Nat.add_zero,cB hb,aav (hin j hj)];rfl)
    (fun j hj=>by
     rw[Nat.add_zero];simp only[World.frozen?,hb];cases q:(decide (fr'.1<=o+i.s+j)&&decide (o+i.s+j<fr'.2))with
     |false=>rfl
     |true=>
      simp only[ZX,decide_eq_true_eq]at q;exact absurd (hf (o+j) (by omega) (by omega) (by omega)) (hfr (o+j) (by omega) (by omega)))
    (hv.one h1)
   simpa using this
  refine h.put hr (by rw[hg];simp) _ (nv us w i.b (o+i.s)) (nF us w i.b (o+i.s) c' e fr' hb) ?_;refine .cells _ _ _ _ _ (by rw[t7,hz]) (by rw[Kn hl,hrr]) hk hll (fun j v hj=>?_) (fun j hj=>?_) hq hm
  ·rcases Te hl hj with⟨q1,q2⟩|⟨q1,q2,q3⟩|⟨q1,q2⟩
   ·obtain⟨v',r1,r2⟩:=hrow j v q2;exact⟨v',by rw[lr _ _ _ _ (by omega)];exact r1,r2⟩
   ·obtain⟨v',r1,r2⟩:=hv.get (j-o) v q3;refine⟨v',?_,r2⟩;rw[show i.s+j=o+i.s+(j-o) by omega,uQ us _ _ _ (by omega) (by omega)];exact r1
   obtain⟨v',r1,r2⟩:=hrow j v q2;exact⟨v',by rw[lr _ _ _ _ (by omega)];exact r1,r2⟩
  exact hf j hj
theorem OR.new{P:Program}{ρ:Ren}{e:TypeId}{c:List Value}{c':Array Value}{b k:Nat}(hk:∀t,P.info? e=some t->t.size=k)(hc:cd ρ c (c'.toList.take c.length)):OR P ρ ⟨b,0,c'.size,k,c.length⟩ (.cells c e (0,0)) (.cells c' e (0,0)):=by
 have hl:c.length<=c'.size:=by have:=hc.length;rw[ZR]at this;have q:c'.toList.length=c'.size:=aaw;omega
 refine .cells _ _ _ _ _ rfl rfl hk (by simpa using hl) (fun j v hj=>?_) (fun j hj h1 h2=>by simp at h2) ⟨Nat.le_refl _,fun _=>Z3 _⟩ (Nat.zero_mod _);obtain⟨v',h1,h2⟩:=hc.get j v hj;refine⟨v',?_,h2⟩;have hj':j<c.length:=(List.getElem?_eq_some_iff.1 hj).1;rw[aaj,if_pos hj',aar]at h1;simpa using h1
def pu(P:Program)(S:Sem Next)(w:World)(u:Value)(w':World):Prop:=S.run P w=.ok (.value u) w'\/(S.run P w=.ok .skip w'/\u=undef)
def dS(P:Program)(ρ:Ren)(W:XW)(w:World)(S:Sem Next):XR->Prop
 |.val v=>∃u,pu P S w u w/\∀x,v=some x->VR ρ x u
 |.new o k=>ρ W.next=none->∃u ρ' w',pu P S w u w'/\dy ρ W.get W.next w ρ' (W.push o).get (W.push o).next w'/\HR P ρ' (W.push o).get w'/\VR ρ' (k W.next) u
 |.mod v W'=>dL ρ W.next W'.next->∃u ρ' w',pu P S w u w'/\dy ρ W.get W.next w ρ' W'.get W'.next w'/\HR P ρ' W'.get w'/\VR ρ' v u
 |.enter f args=>∃args':List Value,S.run P w=(callFunc f args'.toArray).run P w/\cd ρ args args'
 |.pan v=>∃v',S.run P w=.halt (.panic v') w/\VR ρ v v'
 |.defer f args cap=>∃as' cs':List Value,S.run P w=.ok (.defer ⟨.fn (.func f) cs'.toArray,as'.toArray⟩) w/\cd ρ args as'/\cd ρ cap cs'
 |.round l args=>∃i,∃args':List Value,ρ l=some i/\S.run P w=(Instr.yield i.b args'.toArray).run P w/\cd ρ args args'
section
variable {P:Program} {ρ:Ren} {W:XW} {w:World} {fr:XF} {e:Operand->Value}
theorem gv{S:Sem Value}{u:Value}{w':World}(h:S.run P w=.ok u w'):pu P (do pure (.value (<-S))) w u w':=.inl (by rw[ZO,h];rfl)
theorem gu{S:Sem Unit}{w':World}(h:S.run P w=.ok () w'):pu P (do S;pure .skip) w undef w':=.inr ⟨by rw[ZO,h];rfl,rfl⟩
theorem xv{S:Sem Value}{v u:Value}(h:S.run P w=.ok u w)(hv:VR ρ v u):dS P ρ W w (do pure (.value (<-S))) (.val (some v)):=⟨u,gv h,fun x q=>by cases q;exact hv⟩
theorem Im{S:Sem Value}{r:XR}(h:l8 (bQ P S)=some r):dS P ρ W w (do pure (.value (<-S))) r:=by
 cases q:bQ P S with
 |none=>rw[q]at h;cases h
 |some v=>
  rw[q]at h;simp only[l8]at h;cases q2:dw v with
  |false=>rw[q2]at h;cases h
  |true=>rw[q2]at h;cases h;exact xv (jX q w) (.flat 8 _ q2)
theorem IS{S:Sem Value}{o:Option Value}{r:XR}(h:rE o=some r)(hS:∀v,o=some v->∃u,S.run P w=.ok u w/\VR ρ v u):dS P ρ W w (do pure (.value (<-S))) r:=by
 cases q:o with
 |none=>rw[q]at h;cases h
 |some v=>
  rw[q]at h;cases h;obtain⟨u,h1,h2⟩:=hS v q;exact xv h1 h2
theorem oF:VR ρ undef undef:=.flat 1 _ rfl
theorem ym{S:Sem Value}{o:bb}{k:Nat->Value}{ob:Obj}{i:RI}{u:Value}(hH:HR P ρ W.get w)(hi:i.b=w.heap.size)(hS:S.run P w=.ok u (w.alloc ob))(ho:ρ W.next=none->OR P (gw ρ W.next i) i o ob)
 (hv:VR (gw ρ W.next i) (k W.next) u):dS P ρ W w (do pure (.value (<-S))) (.new o k):=fun hn=>by
 obtain⟨h1,h2⟩:=hH.push hn o ob i hi (ho hn);exact⟨u,_,_,gv hS,h2,h1,hv⟩
theorem yN{n b z k r:Nat}:VR (gw ρ n ⟨b,0,z,k,r⟩) (.pointer (some ⟨n,0,none⟩)) (.pointer (some ⟨b,0,none⟩)):=by
 have:=VR.ptr (ρ:=gw ρ n ⟨b,0,z,k,r⟩) n 0 _ (d9 _ _ _);simpa using this
theorem zx{n b z k r len cap:Nat}(h:bm cap=false):VR (gw ρ n ⟨b,0,z,k,r⟩) (.slice (some ⟨n,0,none⟩) len cap) (.slice (some ⟨b,0,none⟩) len cap):=by
 have:=VR.slice (ρ:=gw ρ n ⟨b,0,z,k,r⟩) n 0 len cap _ (d9 _ _ _) h;simpa using this
theorem AN{e:TypeId}{c:List Value}{c':Array Value}{n b k:Nat}(hk:∀t,P.info? e=some t->t.size=k)(hn:ρ n=none)(hc:cd ρ c c'.toList):OR P (gw ρ n ⟨b,0,c'.size,k,c.length⟩) ⟨b,0,c'.size,k,c.length⟩ (.cells c e (0,0)) (.cells c' e (0,0)):=by
 have hl:=hc.length;refine OR.new hk ?_;rw[<-hl,List.take_length];exact hc.mono (il _ hn)
def jo(P:Program)(e:TypeId):Nat:=(sz P e).getD 0
theorem jC{e:TypeId}:∀t,P.info? e=some t->t.size=jo P e:=fun t h=>by simp[jo,sz,h]
theorem PE{el:TypeId}{v u:Value}{r:XR}(hH:HR P ρ W.get w)(hv:VR ρ v u)(h:DB el (some v)=some r):dS P ρ W w (do pure (.value (<-Instr.box el u))) r:=by
 cases h;exact ym (i:=⟨w.heap.size,0,u.cells.size,jo P el,v.cells.toList.length⟩) hH rfl (S:=Instr.box el u) (u:=.pointer (some ⟨w.heap.size,0,none⟩)) rfl (fun hn=>AN jC hn hv.cells) yN
theorem IM{el:TypeId}{r:XR}(hH:HR P ρ W.get w)(h:tR el (bE P el)=some r):dS P ρ W w (do pure (.value (<-Instr.alloc el true (.tuple #[])))) r:=by
 cases q:bE P el with
 |none=>rw[q]at h;cases h
 |some z=>
  rw[q]at h;cases h;obtain⟨_,_,_,hf⟩:=gM q;refine ym (i:=⟨w.heap.size,0,z.cells.size,jo P el,z.cells.toList.length⟩) hH rfl (u:=.pointer (some ⟨w.heap.size,0,none⟩)) ?_ (fun hn=>AN jC hn (VR.flat 8 z hf).cells) yN;unfold Instr.alloc;rw[ZO,iI q];rfl
theorem Bv:∀(l:List Value) (o k:Nat) (c:Array Value),((l.zipIdx k).foldl (fun cs (x,j)=>cs.setIfInBounds (o+j) x) c)=lU c (o+k) l
 |[],_,_,_=>rfl
 |v::l,o,k,c=>by
  rw[List.zipIdx_cons,aaR,Bv l o (k+1),lU];rfl
theorem Ku:∀(vs:List Value) (o:Nat) (c:List Value),o+vs.length<=c.length->(lU c.toArray o vs).toList=wr c o vs
 |vs,o,c,h=>by
  apply aao;intro j;rw[aar];rcases aaa j o with q|q
  ·rw[lr _ _ _ _ (.inl q)];unfold wr;rw[aaB (by simp;omega),aaj,if_pos q,List.getElem?_toArray]
  rcases aaa j (o+vs.length)with q2|q2
  ·have:=uQ vs o c.toArray (j-o) (by simpa using h) (by omega);rw[show o+(j-o)=j by omega]at this;rw[this];unfold wr;rw[aaz (by simp;omega),aaB (by simp;omega)];congr 1;simp;omega
  rw[lr _ _ _ _ (.inr q2)];unfold wr;rw[aaz (by simp;omega),aaz (by simp;omega),aas,List.getElem?_toArray];congr 1;simp;omega
theorem Rz{c c' vs us:List Value}{o:Nat}(h:cd ρ c c')(hv:cd ρ vs us):cd ρ (wr c o vs) (wr c' o us):=by
 unfold wr;rw[hv.length];exact(h.take o).append (hv.append (h.drop _))
theorem rq{place:Nat->Option (Nat×Nat)}:∀{ps qs:List (Nat×Value)} {c c' cs:List Value},EG ρ ps qs->cd ρ c c'->kO place c ps=some cs ->
 ∃cs':List Value,Instr.fill place c'.toArray qs=some cs'.toArray/\cd ρ cs cs'
 |_,_,c,c',cs,.nil,hc,h=>by cases h;exact⟨c',rfl,hc⟩
 |_,_,c,c',cs,.cons i v v' l l' hv hs,hc,h=>by
  unfold kO at h;cases hp:place i with
  |none=>rw[hp]at h;cases h
  |some q=>
   obtain⟨off,size⟩:=q;simp only[hp]at h;cases hq:(Nat.beq v.cells.size size&&Nat.ble (off+size) c.length)with
   |false=>rw[hq]at h;cases h
   |true=>
    rw[hq]at h;simp only[cond_true]at h;simp only[ZX]at hq;have h1:=ZT hq.1;have h2:=Nat.le_of_ble_eq_true hq.2;have hvc:=hv.cells;have hl:=hvc.length;rw[aaw,aaw]at hl;have hl2:=hc.length;obtain⟨cs',r1,r2⟩:=rq hs (Rz (o:=off) hc hvc) h;refine⟨cs',?_,r2⟩;rw[<-r1];have e:=Bv v'.cells.toList off 0 c'.toArray;rw[Nat.add_zero]at e;have e2:=Ku v'.cells.toList off c' (by rw[aaw];omega);have e3:v'.cells.zipIdx.foldl (fun cs (x,j)=>cs.setIfInBounds (off+j) x) c'.toArray=(v'.cells.toList.zipIdx 0).foldl (fun cs (x,j)=>cs.setIfInBounds (off+j) x) c'.toArray:=by rw[<-Array.foldl_toList,Array.toList_zipIdx]
    have e4:v'.cells.zipIdx.foldl (fun cs (x,j)=>cs.setIfInBounds (off+j) x) c'.toArray=(wr c' off v'.cells.toList).toArray:=by rw[e3,e];exact Array.ext' e2
    rw[Instr.fill];simp only[hp];rw[if_neg (by simp;omega)];exact congrArg (fun x=>Instr.fill place x l') e4
theorem wQ:∀{l:List Field} {pl:List (Nat×Nat)},lG P l=some pl->(l.mapM (fun f=>(do pure (f.offset,<-sizeOf f.type):Sem (Nat×Nat)))).run P w=.ok pl w
 |[],pl,h=>by cases h;simp[List.mapM_nil]
 |f::l,pl,h=>by
  unfold lG at h;cases hs:sz P f.type with
  |none=>simp only[hs]at h;cases h
  |some s=>
   cases hr:lG P l with
   |none=>simp only[hs,hr]at h;cases h
   |some r=>
    simp only[hs,hr,Option.some.injEq]at h;subst h;simp only[List.mapM_cons,ZO,eT hs,Z0,ZN,wQ hr]
theorem KF{t:TypeId}{ps qs:List (Nat×Value)}{r:XR}(hp:EG ρ ps qs)(h:DG P t (some ps)=some r):dS P ρ W w (do pure (.value (<-Instr.build t qs.toArray))) r:=by
 refine IS h fun v hv=>?_
 cases hz:bE P t with
 |none=>rw[hz]at hv;cases hv
 |some z=>
  obtain⟨_,_,_,hf⟩:=gM hz;have hzc:=(VR.flat (ρ:=ρ) 8 z hf).cells;cases hu:P.underlying t with
  |none=>rw[hz,hu]at hv;cases hv
  |some d=>
   rw[hz,hu]at hv;cases d with
   |struct fs=>
    simp only[tI]at hv;cases hpl:lG P fs.toList with
    |none=>rw[hpl]at hv;cases hv
    |some pl=>
     rw[hpl]at hv;simp only[Gs]at hv;cases hq:kO (fun(i:Nat)=>pl[i]?) z.cells.toList ps with
     |none=>rw[hq]at hv;cases hv
     |some cs=>
      rw[hq]at hv;cases hv;obtain⟨cs',r1,r2⟩:=rq hp hzc hq;refine⟨.agg cs'.toArray,?_,.agg _ _ r2⟩;have hm:(fs.mapM (fun f=>(do pure (f.offset,<-sizeOf f.type):Sem (Nat×Nat)))).run P w=.ok pl.toArray w:=by
       have e:fs=fs.toList.toArray:=by simp
       rw[e,List.mapM_toArray,map_eq_pure_bind];simp only[ZO,wQ hpl,ZN,Z0]
      have hpe:(fun x=>(pl.toArray)[x]?)=(fun(i:Nat)=>pl[i]?):=by funext x;rw[List.getElem?_toArray]
      simp only[Instr.build,ZO,iI hz,ZN,bM hu,hm];rw[hpe];simp only[aaK]at r1;rw[r1];rfl
   |array n el=>
    simp only[tI]at hv;cases hs:sz P el with
    |none=>rw[hs]at hv;cases hv
    |some s=>
     rw[hs]at hv;simp only[F0]at hv;cases hq:kO (fun i=>some (i*s,s)) z.cells.toList ps with
     |none=>rw[hq]at hv;cases hv
     |some cs=>
      rw[hq]at hv;cases hv;obtain⟨cs',r1,r2⟩:=rq hp hzc hq;refine⟨.agg cs'.toArray,?_,.agg _ _ r2⟩;simp only[Instr.build,ZO,iI hz,ZN,bM hu,eT hs];simp only[aaK]at r1;rw[r1];rfl
   |_=>cases hv
theorem nY{z:List Value}:∀{n:Nat},(rep z n).length=n*z.length
 |0=>by simp[rep]
 |n+1=>by rw[rep,ZM,nY,Nat.add_mul];omega
theorem FD{z:List Value}:∀{n j:Nat},j<n*z.length->(rep z n)[j]?=z[j%z.length]?
 |0,j,h=>by simp at h
 |n+1,j,h=>by
  rw[rep];rcases aaa j z.length with q|q
  ·rw[aaB q,Nat.mod_eq_of_lt q]
  rw[aaz q,FD (by rw[Nat.add_mul]at h;omega)];rw[Nat.mod_eq_sub_mod q]
theorem tS{z:Array Value}{n m:Nat}(hm:m=n*z.size):((Array.range m).map (z[·%z.size]!))=(rep z.toList n).toArray:=by
 subst hm;apply Array.ext';apply aao;intro j;rw[aar,Array.getElem?_map];rcases aaa j (n*z.size)with q|q
 ·have h0:0<z.size:=by
   rcases Nat.eq_zero_or_pos z.size with h|h
   ·rw[h]at q;simp at q
   exact h
  have hm:=Nat.mod_lt j h0;rw[FD (by rw[aaw];exact q),aaw,aar,aav hm];simp[q,hm]
 rw[aae (by simp[nY];exact q)];simp[q]
theorem uL{z:List Value}(h:cd ρ z z):∀n,cd ρ (rep z n) (rep z n)
 |0=>.nil
 |n+1=>h.append (uL h n)
theorem kq{n:Nat}(h:n<=16777216):bm n=false:=by
 unfold bm;cases q:Nat.ble 2305843009213693952 n with
 |false=>rfl
 |true=>have:=Nat.le_of_ble_eq_true q;omega
theorem yw{t:TypeId}{n:Nat}{ps:List (Nat×Operand)}{r:XR}(hH:HR P ρ W.get w)(hE:Ev ρ fr e)(h:yn P fr n ps (P.underlying t)=some r) :
 dS P ρ W w (do pure (.value (<-Instr.buildSlice t n (ps.map fun(i,x)=>(i,e x)).toArray))) r:=by
 cases hu:P.underlying t with
 |none=>rw[hu]at h;cases h
 |some d=>
  rw[hu]at h;cases d with
  |slice el=>
   simp only[yn]at h;cases hs:sz P el with
   |none=>rw[hs]at h;cases h
   |some s=>
    cases hz:bE P el with
    |none=>rw[hs,hz]at h;cases h
    |some z=>
     cases hp:evP fr ps with
     |none=>rw[hs,hz,hp]at h;cases h
     |some l=>
      rw[hs,hz,hp]at h;simp only[Gn]at h;obtain⟨i,hi,hiz,hf⟩:=gM hz;obtain⟨i',hi',his⟩:=yk hs;have hzc:=(VR.flat (ρ:=ρ) 8 z hf).cells;cases hq:kO (fun i=>some (i*s,s)) (rep z.cells.toList n) l with
      |none=>rw[hq]at h;cases h
      |some cs=>
       rw[hq]at h;simp only[Ba]at h;cases hb:(Nat.ble (n*s) 16777216&&Nat.beq (n*s) (n*z.cells.size)&&Nat.ble n 16777216)with
       |false=>rw[hb]at h;cases h
       |true=>
        rw[hb]at h;cases h;simp only[ZX]at hb;have hb1:=Nat.le_of_ble_eq_true hb.1.1;have hb2:=ZT hb.1.2;have hb3:=Nat.le_of_ble_eq_true hb.2;obtain⟨cs',r1,r2⟩:=rq (hE.evP hp) (uL hzc n) hq;refine ym (i:=⟨w.heap.size,0,cs'.toArray.size,jo P el,cs.length⟩) hH rfl (u:=.slice (some ⟨w.heap.size,0,none⟩) n n) ?_ (fun hn=>AN jC hn (by simpa using r2)) (zx (kq hb3));simp only[Instr.buildSlice,ZO,bM hu,ZN,eT hs];rw[if_neg (by omega)];by_cases h0:n*s=0
        ·rw[if_pos h0];have e0:∀z':Array Value,(Array.range (n*s)).map (z'[·%z'.size]!)=(rep z.cells.toList n).toArray:=fun z'=>by
          rw[h0];have:(rep z.cells.toList n)=[]:=List.eq_nil_of_length_eq_zero (by rw[nY,aaw];omega);rw[this];simp
         simp only[ZO,Z0,ZN];rw[e0,r1];rfl
        rw[if_neg h0];simp only[ZO,iI hz,Z0,ZN];rw[tS hb2,r1];rfl
  |_=>cases h
theorem Ee{t:TypeId}{r:Option Operand}{x:XR}(hH:HR P ρ W.get w)(hE:Ev ρ fr e)(h:Bg (ki fr r) (P.underlying t)=some x):dS P ρ W w (do pure (.value (<-Instr.makeMap t (r.map e)))) x:=by
 have key:∀S:Sem Value,S.run P w=.ok (.map (some w.heap.size)) (w.alloc (.map #[] 0))->dS P ρ W w (do pure (.value (<-S))) (.new (.map [] 0) fun n=>.map (some n)):=fun S hS=>
  ym (i:=⟨w.heap.size,0,0,0,0⟩) hH rfl hS (fun hn=>.map [] [] 0 .nil) (.map _ _ (d9 _ _ _))
 cases r with
 |none=>
  cases h;exact key _ rfl
 |some x=>
  simp only[ki]at h;cases hx:ev fr x with
  |none=>rw[hx]at h;cases h
  |some v=>
   rw[hx]at h;cases v with
   |int k n=>
    cases hu:P.underlying t with
    |none=>rw[hu]at h;cases h
    |some d=>
     rw[hu]at h;cases d with
     |map a b=>
      cases h;have:=(hE x _ hx).int;refine key _ ?_;simp only[ZW,Instr.makeMap,this,ZO,bM hu,ZN];rfl
     |_=>cases h
   |_=>cases h
theorem AE{t:TypeId}{x y:Operand}{r:XR}(hH:HR P ρ W.get w)(hE:Ev ρ fr e)(h:BG P (P.underlying t) (ev fr x) (ev fr y)=some r):dS P ρ W w (do pure (.value (<-Instr.makeSlice t (e x) (e y)))) r:=by
 cases hu:P.underlying t with
 |none=>rw[hu]at h;cases h
 |some d=>
  rw[hu]at h;cases d with
  |slice el=>
   cases hx:ev fr x with
   |none=>rw[hx]at h;cases h
   |some v=>
    cases hy:ev fr y with
    |none=>rw[hx,hy]at h;cases v<;>(try cases h);rename_i k n;cases k<;>cases n<;>cases h
    |some v'=>
     rw[hx,hy]at h;cases v with
     |int k n=>
      cases v' with
      |int k' n'=>
       cases k<;>(try cases h);cases n with
       |negSucc n=>cases h
       |ofNat l=>
        cases k'<;>(try cases h);cases n' with
        |negSucc n=>cases h
        |ofNat c=>
         simp only[BG]at h;cases hi:P.info? el with
         |none=>rw[hi]at h;cases h
         |some i=>
          cases hz:bE P el with
          |none=>rw[hi,hz]at h;cases h
          |some z=>
           rw[hi,hz]at h;simp only[Gx]at h;cases hb:(Nat.ble l c&&Nat.ble (i.bytes*c) 1048576&&Nat.ble c 1048576&&Nat.beq i.size z.cells.size)with
           |false=>rw[hb]at h;cases h
           |true=>
            rw[hb]at h;cases h;simp only[ZX]at hb;have h1:=Nat.le_of_ble_eq_true hb.1.1.1;have h2:=Nat.le_of_ble_eq_true hb.1.1.2;have h3:=Nat.le_of_ble_eq_true hb.1.2;have h4:=ZT hb.2;obtain⟨_,_,_,hf⟩:=gM hz;have hzc:=(VR.flat (ρ:=ρ) 8 z hf).cells;have ex:=(hE x _ hx).int;have ey:=(hE y _ hy).int;have hsz:sz P el=some i.size:=by unfold sz;rw[hi];rfl
            refine ym (i:=⟨w.heap.size,0,(rep z.cells.toList c).toArray.size,jo P el,(rep z.cells.toList c).length⟩) hH rfl (u:=.slice (some ⟨w.heap.size,0,none⟩) l c) ?_
             (fun hn=>AN jC hn (by simpa using uL hzc c)) (zx (kq (by omega)))
            have wrap:∀n:Nat,n<=1048576->IntKind.i64.wrap (n:Int)=(n:Int):=fun n hn=>IntWalk.i64_in _ (by omega)
            have hbc:((i.bytes:Int)*(c:Int))=((i.bytes*c:Nat):Int):=by simp
            simp only[Instr.makeSlice,ZO,bM hu,ZN,ex,ey,asInt,asIntOf,Z0,ly hi,aaL,wrap l (by omega),wrap c h3,aaF];rw[if_neg (by
             simp only[aat,decide_eq_true_eq,not_or,Int.not_lt];rw[hbc];omega)]
            have hroom:(askRoom (c*i.bytes)).run P w=.ok () w:=by unfold askRoom;split<;>rfl
            simp only[ZO,hroom,ZN,eT hsz];by_cases h0:c*i.size=0
            ·rw[if_pos h0];have e0:∀z':Array Value,(Array.range (c*i.size)).map (z'[·%z'.size]!)=(rep z.cells.toList c).toArray:=fun z'=>by
              rw[h0];have:(rep z.cells.toList c)=[]:=List.eq_nil_of_length_eq_zero (by rw[nY,aaw,<-h4];omega);rw[this];simp
             simp only[ZO,Z0,ZN];rw[e0];rfl
            rw[if_neg h0];simp only[ZO,iI hz,Z0,ZN];rw[tS (by rw[h4])];rfl
      |_=>cases k<;>cases n<;>cases h
     |_=>cases h
  |_=>cases h
end
section
variable {P:Program} {ρ:Ren} {W:XW} {w:World} {fr:XF} {e:Operand->Value}
theorem M3{c a b:Operand}{r:XR}(hE:Ev ρ fr e)(h:xX fr a b (ev fr c)=some r):dS P ρ W w (do pure (.value (if <-asBool (e c)then e a else e b))) r:=by
 cases hc:ev fr c with
 |none=>rw[hc]at h;cases h
 |some v=>
  rw[hc]at h;cases v with
  |bool t=>
   cases h;have:=(hE c _ hc).bool;refine⟨if t then e a else e b,.inl ?_,fun x hx=>?_⟩
   ·rw[this];cases t<;>rfl
   cases t
   ·exact hE b x hx
   exact hE a x hx
  |_=>cases h
theorem ot(hH:HR P ρ W.get w){n:Nat}{i:RI}{c:List Value}{t:TypeId}{f:Nat×Nat}(hr:ρ n=some i)(hg:W.get n=some (.cells c t f)) :
 ∃c' f',w.heap[i.b]?=some (.cells c' t f')/\c'.size=i.z/\c.length=i.r/\(∀q,P.info? t=some q->q.size=i.k)/\i.s+i.r<=i.z/\vA ρ i.s c c':=by
 obtain⟨ob,h1,h2⟩:=hH.obj n i _ hr hg;cases h2 with
 |cells _ _ _ c' f' hz hrr hk hl hv hf hq=>exact⟨c',f',h1,hz,hrr,hk,hl,hv⟩
theorem zO{t:TypeId}{p q v:Value}(hH:HR P ρ W.get w)(hp:VR ρ p q)(h:fo P W t p=some v):∃a u,q=.pointer (some a)/\(loadVar t a).run P w=.ok u w/\VR ρ v u:=by
 cases p with
 |pointer a=>
  cases a with
  |none=>cases h
  |some a=>
   obtain⟨n,o,i,rfl,hr,rfl⟩:=hp.ptrSome;simp only[fo]at h;cases hg:W.get n with
   |none=>rw[hg]at h;cases h
   |some ob=>
    rw[hg]at h;cases ob with
    |cells c t' f=>
     obtain⟨c',f',h1,_,_,_,_,h2⟩:=ot hH hr hg;obtain⟨u,r1,r2⟩:=BF h1 h2 h;exact⟨_,u,rfl,r1,r2⟩
    |_=>cases h
 |func f cs cc=>
  cases f with
  |method nm=>
   obtain⟨_,_,b,off,c',e,fr,hB,rfl,hv⟩:=hp.fpInv;obtain⟨u,r1,r2⟩:=BF (hH.frz b _ hB).1 hv.row h;rw[Nat.zero_add]at r1;exact⟨_,u,rfl,r1,r2⟩
  |_=>cases h
 |_=>cases h
theorem Nd{t:TypeId}{a:Operand}{r:XR}(hH:HR P ρ W.get w)(hE:Ev ρ fr e)(h:EO P W t (ev fr a)=some r):dS P ρ W w (do pure (.value (<-Instr.loadAt t (e a)))) r:=by
 cases ha:ev fr a with
 |none=>rw[ha]at h;cases h
 |some p=>
  rw[ha]at h;refine IS h fun v hv=>?_
  obtain⟨b,u,h1,h2,h3⟩:=zO hH (hE a p ha) hv;refine⟨u,?_,h3⟩;unfold Instr.loadAt;rw[h1,ZO];exact h2
theorem En{t:Operand}{j:Nat}{r:XR}(hE:Ev ρ fr e)(h:GE j (ev fr t)=some r):dS P ρ W w (do pure (.value (<-Instr.extract (e t) j))) r:=by
 cases ha:ev fr t with
 |none=>rw[ha]at h;cases h
 |some v=>
  rw[ha]at h;cases v with
  |tuple vs=>
   obtain⟨cs,h1,h2⟩:=(hE t _ ha).tupleInv;refine IS h fun v hv=>?_
   obtain⟨u,r1,r2⟩:=h2.get j v hv;refine⟨u,?_,r2⟩;rw[h1];unfold Instr.extract;simp only[List.getElem?_toArray,r1];rfl
  |_=>cases h
theorem IK{t:TypeId}{x:Operand}{r:XR}(hE:Ev ρ fr e)(h:wS t (ev fr x) (P.underlying t)=some r):dS P ρ W w (do pure (.value (<-Instr.makeInterface t (e x)))) r:=by
 cases ha:ev fr x with
 |none=>rw[ha]at h;cases P.underlying t<;>cases h
 |some v=>
  cases hu:P.underlying t with
  |none=>rw[ha,hu]at h;cases h
  |some d=>
   rw[ha,hu]at h;have hv:=hE x v ha;cases d<;>first|cases h|skip
   all_goals
    refine xv (u:=.iface t (e x)) ?_ (.iface t _ _ hv);unfold Instr.makeInterface;rw[ZO,bM hu];rfl
theorem om{l:Array Operand}{vs:List Value}(hE:Ev ρ fr e)(h:evs fr l.toList=some vs):cd ρ vs (l.map e).toList:=by rw[Array.toList_map];exact hE.evs h
theorem CU{f:Fn}{a c:Array Operand}{r:XR}(hE:Ev ρ fr e)(h:Ho f (evs fr a.toList) (evs fr c.toList)=some r):dS P ρ W w (do pure (.value (<-Instr.makeFunc f (a.map e) (c.map e)))) r:=by
 cases ha:evs fr a.toList with
 |none=>rw[ha]at h;cases f<;>cases h
 |some xs=>
  cases hc:evs fr c.toList with
  |none=>rw[ha,hc]at h;cases f<;>cases h
  |some cs=>
   rw[ha,hc]at h;cases f<;>first|cases h|skip
   rename_i g;have h1:=om hE ha;have h2:=om hE hc;refine xv (u:=.func (.func g) (a.map e) (c.map e)) rfl ?_;have:=VR.func g xs cs _ _ h1 h2;rw[aaK,aaK]at this;exact this
theorem Cu{x:Operand}{r:XR}{S:Sem Next}(hS:∀a,e x=.pointer (some a)->S=pure (.value (e x)))(hE:Ev ρ fr e)(h:zl (ev fr x)=some r):dS P ρ W w S r:=by
 cases ha:ev fr x with
 |none=>rw[ha]at h;cases h
 |some v=>
  rw[ha]at h;cases v with
  |pointer p=>
   cases p with
   |none=>cases h
   |some a=>
    cases h;have hv:=hE x _ ha;obtain⟨n,o,i,rfl,hr,hx⟩:=hv.ptrSome;rw[hS _ hx];exact⟨e x,.inl rfl,fun y hy=>by cases hy;exact hv⟩
  |func f cs cc=>
   cases f with
   |method nm=>
    cases h;have hv:=hE x _ ha;obtain⟨_,_,b,off,c',e',fr,hB,hx,_⟩:=hv.fpInv;rw[hS _ hx];exact⟨e x,.inl rfl,fun y hy=>by cases hy;exact hv⟩
   |_=>cases h
  |_=>cases h
theorem Hy{t:TypeId}{x:Operand}{f:Nat}{r:XR}(hE:Ev ρ fr e)(h:Bi P f (P.underlying t) (ev fr x)=some r):dS P ρ W w (do pure (.value (<-Instr.field t (e x) f))) r:=by
 cases hu:P.underlying t with
 |none=>rw[hu]at h;cases h
 |some d=>
  rw[hu]at h;cases d with
  |struct fs=>
   cases ha:ev fr x with
   |none=>rw[ha]at h;cases h
   |some v=>
    rw[ha]at h;cases v with
    |agg cs=>
     simp only[Bi]at h;obtain⟨cs',h1,h2⟩:=(hE x _ ha).aggInv;cases hf:fs[f]? with
     |none=>rw[hf]at h;cases h
     |some fd=>
      rw[hf]at h;refine IS h fun v hv=>?_
      obtain⟨u,r1,r2⟩:=Bd (w:=w) h2 hv;refine⟨u,?_,r2⟩;unfold Instr.field;rw[ZO,bM hu,ZN];simp only[hf,h1,asAgg,ZO,Z0,ZN];exact r1
    |_=>cases h
  |_=>cases h
theorem AD{t:TypeId}{x:Operand}{f:Nat}{r:XR}(hE:Ev ρ fr e)(h:uk P f (P.underlying t) (ev fr x)=some r):dS P ρ W w (do pure (.value (<-Instr.fieldAt t (e x) f))) r:=by
 cases hu:P.underlying t with
 |none=>rw[hu]at h;cases h
 |some d=>
  rw[hu]at h;cases d with
  |struct fs=>
   cases ha:ev fr x with
   |none=>rw[ha]at h;cases h
   |some v=>
    rw[ha]at h;cases v with
    |pointer p=>
     cases p with
     |none=>cases h
     |some a=>
      obtain⟨n,o,i,rfl,hr,hx⟩:=(hE x _ ha).ptrSome;simp only[uk]at h;cases hf:fs[f]? with
      |none=>rw[hf]at h;cases h
      |some fd=>
       rw[hf]at h;simp only[CA]at h;cases hs:sz P fd.type with
       |none=>rw[hs]at h;cases h
       |some s=>
        rw[hs]at h;cases s with
        |zero=>cases h
        |succ s=>
         cases h;refine xv (u:=.pointer (some ⟨i.b,o+fd.offset+i.s,none⟩)) ?_ (.ptr _ _ _ hr);unfold Instr.fieldAt;rw[ZO,bM hu,ZN];simp only[hf,hx,Instr.sureAddr,ZO,Z0,ZN,fieldPlace,eT hs];rw[if_neg (by omega)];rw[Z0,ZN,dc,show o+i.s+fd.offset=o+fd.offset+i.s by omega]
    |func q cs cc=>
     cases q with
     |method nm=>
      obtain⟨_,_,b,off,c',e',fr,hB,hx,hv⟩:=(hE x _ ha).fpInv;simp only[uk]at h;cases hf:fs[f]? with
      |none=>rw[hf]at h;cases h
      |some fd=>
       rw[hf]at h;simp only[yF]at h;cases hs:sz P fd.type with
       |none=>rw[hs]at h;cases h
       |some s=>
        rw[hs]at h;cases s with
        |zero=>cases h
        |succ s=>
         cases h;refine xv (u:=.pointer (some ⟨b,off+fd.offset,none⟩)) ?_ (.frp _ _ b (off+fd.offset) c' e' fr hB rfl (hv.piece _ _));unfold Instr.fieldAt;rw[ZO,bM hu,ZN];simp only[hf,hx,Instr.sureAddr,ZO,Z0,ZN,fieldPlace,eT hs];rw[if_neg (by omega)];rw[Z0,ZN,dc]
     |_=>cases h
    |_=>cases h
  |_=>cases h
theorem Jr{S:Sem Value}{b o i n:Nat}{j:RI}{s:Option Nat}{r:XR}(hr:ρ b=some j)(h:qT b o i n s=some r)(hS:∀k,s=some k->i<n->S.run P w=.ok (.pointer (some ⟨j.b,o+j.s+i*k,none⟩)) w) :
 dS P ρ W w (do pure (.value (<-S))) r:=by
 cases s with
 |none=>cases h
 |some k=>
  simp only[qT]at h;cases q:Nat.blt i n with
  |false=>rw[q]at h;cases h
  |true=>
   rw[q]at h;cases h;have hlt:i<n:=Nat.le_of_ble_eq_true q;refine xv (hS k rfl hlt) ?_;have:=VR.ptr b (o+i*k) j hr;rwa [show o+i*k+j.s=o+j.s+i*k by omega]at this
theorem E8{S:Sem Value}{cs:List Value}{b off i n:Nat}{c':Array Value}{e':TypeId}{f':Nat×Nat}{s:Option Nat}{r:XR}(hB:ρ.fz b=some (.cells c' e' f'))(hv:cd ρ cs ((c'.toList.drop off).take cs.length))(h:mD cs i n s=some r)
 (hS:∀k,s=some k->i<n->S.run P w=.ok (.pointer (some ⟨b,off+i*k,none⟩)) w):dS P ρ W w (do pure (.value (<-S))) r:=by
 cases s with
 |none=>cases h
 |some k=>
  simp only[mD]at h;cases q:Nat.blt i n with
  |false=>rw[q]at h;cases h
  |true=>
   rw[q]at h;cases h;have hlt:i<n:=Nat.le_of_ble_eq_true q;exact xv (hS k rfl hlt) (.frp _ _ b _ c' e' f' hB rfl (hv.piece _ _))
theorem AB{t:TypeId}{x y:Operand}{r:XR}(hE:Ev ρ fr e)(h:dB P (P.underlying t) (ev fr x) (ev fr y)=some r):dS P ρ W w (do pure (.value (<-Instr.indexAt t (e x) (e y)))) r:=by
 unfold dB at h;split at h
 ·rename_i n el nm cs cc k m hu hx hy;obtain⟨_,_,b,off,c',e',f',hB,hxe,hv⟩:=(hE x _ hx).fpInv;have hye:=(hE y _ hy).int;refine E8 hB hv h fun s hs hlt=>?_
  unfold Instr.indexAt;simp only[hye,hxe,asIntOf,ZO,Z0,ZN,bM hu,Instr.sureAddr,eT hs,aaL];rw[if_pos (by omega)];simp only[ZO,Z0,ZN,eT hs,aaF,dc]
 ·rename_i el len nm cs cc k m hu hx hy;have hye:=(hE y _ hy).int;obtain⟨_,_,⟨b,off,cap,c',e',f',hB,hl,hxe,hv⟩|⟨_,rfl,_⟩⟩:=(hE x _ hx).fzInv
  ·refine E8 hB hv h fun s hs hlt=>?_
   unfold Instr.indexAt;simp only[hye,hxe,asIntOf,ZO,Z0,ZN,bM hu,aaL];rw[if_pos (by omega)];simp only[ZO,Z0,ZN,eT hs,aaF,dc]
  exfalso;unfold mD at h;split at h
  ·have:Nat.blt m 0=false:=AX (Z3 _);rw[this]at h;cases h
  cases h
 ·rename_i n el b o k m hu hx hy;obtain⟨i,hr,hxe⟩:=(hE x _ hx).ptrInv;have hye:=(hE y _ hy).int;refine Jr hr h fun s hs hlt=>?_
  unfold Instr.indexAt;simp only[hye,hxe,asIntOf,ZO,Z0,ZN,bM hu,Instr.sureAddr,eT hs,aaL];rw[if_pos (by omega)];simp only[ZO,Z0,ZN,eT hs,aaF,dc]
 ·rename_i el b o len cap k m hu hx hy;have hye:=(hE y _ hy).int;obtain⟨i,hr,hcase⟩:=(hE x _ hx).sliceInv;refine Jr hr h fun s hs hlt=>?_
  have key:∃cap',e x=.slice (some ⟨i.b,o+i.s,none⟩) len cap':=by
   rcases hcase with⟨_,q⟩|⟨_,c,q,_⟩|⟨_,q,_⟩|⟨_,q,_⟩
   ·exact⟨_,q⟩
   ·exact⟨_,q⟩
   ·omega
   omega
  obtain⟨cap',hxe⟩:=key;unfold Instr.indexAt;simp only[hye,hxe,asIntOf,ZO,Z0,ZN,bM hu,aaL];rw[if_pos (by omega)];simp only[ZO,Z0,ZN,eT hs,aaF,dc]
 cases h
theorem JP{t:TypeId}{x y:Operand}{r:XR}(hE:Ev ρ fr e)(h:vX P (P.underlying t) (ev fr x) (ev fr y)=some r):dS P ρ W w (do pure (.value (<-Instr.index t (e x) (e y)))) r:=by
 unfold vX at h;split at h
 ·rename_i n el cs k m hu hx hy;obtain⟨cs',h1,h2⟩:=(hE x _ hx).aggInv;have hye:=(hE y _ hy).int;cases hs:sz P el with
  |none=>rw[hs]at h;cases h
  |some s=>
   rw[hs]at h;simp only[BS]at h;cases q:Nat.blt m n with
   |false=>rw[q]at h;cases h
   |true=>
    rw[q]at h;have hlt:m<n:=Nat.le_of_ble_eq_true q;refine IS h fun v hv=>?_
    obtain⟨u,r1,r2⟩:=Bd (w:=w) h2 hv;refine⟨u,?_,r2⟩;unfold Instr.index;simp only[hye,h1,asIntOf,ZO,Z0,ZN,bM hu,aaL];rw[if_pos (by omega)];simp only[ZO,eT hs,ZN,aaF];exact r1
 ·rename_i s k m hu hx hy;have hxe:=(hE x _ hx).str;have hye:=(hE y _ hy).int;cases hq:s.data.toList[m]? with
  |none=>rw[hq]at h;cases h
  |some b=>
   rw[hq]at h;cases h;have hsb:s[m]?=some b:=by have hlt:m<s.data.toList.length:=(List.getElem?_eq_some_iff.1 hq).1;rw[aaw]at hlt;rw[aar]at hq;rw[getElem?_pos s m hlt];rw[getElem?_pos s.data m hlt]at hq;exact hq
   refine xv (u:=.int .u8 b.toNat) ?_ (.flat 1 _ rfl);unfold Instr.index;simp only[hye,hxe,asIntOf,ZO,Z0,ZN,bM hu,aaL];rw[if_pos (by omega),aaF,hsb];rfl
 cases h
theorem od{a:Addr}{l c:Nat}{x:Value}(h:VR ρ (.slice (some a) l c) x):∃b c',x=.slice (some b) l c':=by
 obtain⟨n,o,rfl⟩:=h.sliceAddr;obtain⟨i,_,h|h|h|h⟩:=h.sliceInv
 ·exact⟨_,_,h.2⟩
 ·obtain⟨_,c,e,_⟩:=h;exact⟨_,_,e⟩
 ·obtain⟨_,rfl,_,a,e⟩:=h;exact⟨_,_,e⟩
 obtain⟨_,rfl,a,e⟩:=h;exact⟨_,_,e⟩
theorem tp{f:FuncId}{xs cs:Array Value}{x:Value}(h:VR ρ (.func (.func f) xs cs) x):∃f' xs' cs',x=.func f' xs' cs':=by
 cases h with
 |flat k v h=>exact⟨_,_,_,rfl⟩
 |func f xs cs xs' cs' h1 h2=>exact⟨_,_,_,rfl⟩
theorem xY{n:Nat}{nm:String}{xs cs:Array Value}{x:Value}(h:VR ρ (.func (.methodOf n nm) xs cs) x):∃a l c,x=.slice (some a) l c:=by
 obtain⟨_,_,⟨b,off,cap,c',e',f',_,_,h,_⟩|⟨_,_,a,c,h⟩⟩:=h.fzInv
 ·exact⟨_,_,_,h⟩
 exact⟨_,_,_,h⟩
theorem x8{nm:String}{xs cs:Array Value}{x:Value}(h:VR ρ (.func (.method nm) xs cs) x):∃a,x=.pointer (some a):=by
 obtain⟨_,_,b,off,c',e',f',_,h,_⟩:=h.fpInv;exact⟨_,h⟩
theorem Rh{t:TypeId}{a b x y:Value}{q:Bool}(h:sU P t a b=some q)(hx:VR ρ a x)(hy:VR ρ b y):(Op.equal t x y).run P w=.ok q w/\∀op X Y,(eqGuard op t X Y x y).run P w=.ok () w:=by
 have hg:∀op X Y,(match x,y with|.nilIface,.nilIface=>false|.agg _,.agg _=>false|_,_=>true)=true->(eqGuard op t X Y x y).run P w=.ok () w:=fun op X Y hh=>by
  unfold eqGuard;cases op<;>first|rfl|skip
  all_goals (revert hh;cases x<;>cases y<;>first|(intro _;rfl)|(intro hh;cases hh))
 unfold sU at h;split at h
 ·rename_i hu;cases h;obtain⟨n,o,i,rfl,_,rfl⟩:=hy.ptrSome;have:=hx.of_flat 1 rfl;subst this;refine⟨?_,fun op X Y=>hg op X Y rfl⟩;unfold Op.equal Op.maxDepth;rw[Op.equalIn,ZO,bM hu];rfl
 ·rename_i hu;cases h;obtain⟨n,o,i,rfl,_,rfl⟩:=hx.ptrSome;have:=hy.of_flat 1 rfl;subst this;refine⟨?_,fun op X Y=>hg op X Y rfl⟩;unfold Op.equal Op.maxDepth;rw[Op.equalIn,ZO,bM hu];rfl
 ·rename_i hu;cases h;obtain⟨v',rfl,_⟩:=hy.ifaceInv;have:=hx.of_flat 1 rfl;subst this;refine⟨?_,fun op X Y=>hg op X Y rfl⟩;unfold Op.equal Op.maxDepth;rw[Op.equalIn,ZO,bM hu];rfl
 ·rename_i hu;cases h;obtain⟨v',rfl,_⟩:=hx.ifaceInv;have:=hy.of_flat 1 rfl;subst this;refine⟨?_,fun op X Y=>hg op X Y rfl⟩;unfold Op.equal Op.maxDepth;rw[Op.equalIn,ZO,bM hu];rfl
 ·rename_i hu;cases h;obtain⟨_,_,rfl⟩:=od hy;have:=hx.of_flat 1 rfl;subst this;refine⟨?_,fun op X Y=>hg op X Y rfl⟩;unfold Op.equal Op.maxDepth;rw[Op.equalIn,ZO,bM hu];rfl
 ·rename_i hu;cases h;obtain⟨_,_,rfl⟩:=od hx;have:=hy.of_flat 1 rfl;subst this;refine⟨?_,fun op X Y=>hg op X Y rfl⟩;unfold Op.equal Op.maxDepth;rw[Op.equalIn,ZO,bM hu];rfl
 ·rename_i hu;cases h;obtain⟨i,_,rfl⟩:=hy.mapInv;have:=hx.of_flat 1 rfl;subst this;refine⟨?_,fun op X Y=>hg op X Y rfl⟩;unfold Op.equal Op.maxDepth;rw[Op.equalIn,ZO,bM hu];rfl
 ·rename_i hu;cases h;obtain⟨i,_,rfl⟩:=hx.mapInv;have:=hy.of_flat 1 rfl;subst this;refine⟨?_,fun op X Y=>hg op X Y rfl⟩;unfold Op.equal Op.maxDepth;rw[Op.equalIn,ZO,bM hu];rfl
 ·rename_i hu;cases h;obtain⟨_,_,_,rfl⟩:=tp hy;have:=hx.of_flat 1 rfl;subst this;refine⟨?_,fun op X Y=>hg op X Y rfl⟩;unfold Op.equal Op.maxDepth;rw[Op.equalIn,ZO,bM hu];rfl
 ·rename_i hu;cases h;obtain⟨_,_,_,rfl⟩:=tp hx;have:=hy.of_flat 1 rfl;subst this;refine⟨?_,fun op X Y=>hg op X Y rfl⟩;unfold Op.equal Op.maxDepth;rw[Op.equalIn,ZO,bM hu];rfl
 ·rename_i hu;cases h;obtain⟨_,_,_,rfl⟩:=xY hy;have:=hx.of_flat 1 rfl;subst this;refine⟨?_,fun op X Y=>hg op X Y rfl⟩;unfold Op.equal Op.maxDepth;rw[Op.equalIn,ZO,bM hu];rfl
 ·rename_i hu;cases h;obtain⟨_,_,_,rfl⟩:=xY hx;have:=hy.of_flat 1 rfl;subst this;refine⟨?_,fun op X Y=>hg op X Y rfl⟩;unfold Op.equal Op.maxDepth;rw[Op.equalIn,ZO,bM hu];rfl
 ·rename_i hu;cases h;obtain⟨_,rfl⟩:=x8 hy;have:=hx.of_flat 1 rfl;subst this;refine⟨?_,fun op X Y=>hg op X Y rfl⟩;unfold Op.equal Op.maxDepth;rw[Op.equalIn,ZO,bM hu];rfl
 ·rename_i hu;cases h;obtain⟨_,rfl⟩:=x8 hx;have:=hy.of_flat 1 rfl;subst this;refine⟨?_,fun op X Y=>hg op X Y rfl⟩;unfold Op.equal Op.maxDepth;rw[Op.equalIn,ZO,bM hu];rfl
 cases h
def Fz:Value->Bool
 |.int _ _=>false
 |.float _ _=>false
 |.complex _ _ _=>false
 |.string _=>false
 |_=>true
theorem H9{t:TypeId}{x y:Value}{q:Bool}(hx:Fz x=true)(h:(Op.equal t x y).run P w=.ok q w) :
 (Go.binOp .eql t x y).run P w=.ok (.bool q) w/\(Go.binOp .neq t x y).run P w=.ok (.bool (!q)) w:=by
 constructor
 ·have:Go.binOp .eql t x y=(do pure (.bool (<-Op.equal t x y))):=by
   cases x<;>first|(exact absurd hx aag)|(cases y<;>rfl)
  rw[this,ZO,h];rfl
 have:Go.binOp .neq t x y=(do pure (.bool (!(<-Op.equal t x y)))):=by cases x<;>first|(exact absurd hx aag)|(cases y<;>rfl)
 rw[this,ZO,h];rfl
theorem Kt{t:TypeId}{a b x:Value}{q:Bool}(h:sU P t a b=some q)(hx:VR ρ a x):Fz x=true:=by
 unfold sU at h;have hf:∀{v u:Value},VR ρ v u->cb 1 v=true->u=v:=fun h e=>h.of_flat 1 e
 split at h
 ·rw[hf hx rfl];rfl
 ·obtain⟨n,o,i,rfl,_,rfl⟩:=hx.ptrSome;rfl
 ·rw[hf hx rfl];rfl
 ·obtain⟨v',rfl,_⟩:=hx.ifaceInv;rfl
 ·rw[hf hx rfl];rfl
 ·obtain⟨_,_,rfl⟩:=od hx;rfl
 ·rw[hf hx rfl];rfl
 ·obtain⟨i,_,rfl⟩:=hx.mapInv;rfl
 ·rw[hf hx rfl];rfl
 ·obtain⟨_,_,_,rfl⟩:=tp hx;rfl
 ·rw[hf hx rfl];rfl
 ·obtain⟨_,_,_,rfl⟩:=xY hx;rfl
 ·rw[hf hx rfl];rfl
 ·obtain⟨_,rfl⟩:=x8 hx;rfl
 cases h
theorem OV{op:BinOp}{t:TypeId}{x y:Operand}{r:XR}(hE:Ev ρ fr e)(h:eJ P op t x y (ev fr x) (ev fr y)=some r) :
 dS P ρ W w (do pure (.value (<-(do eqGuard op t x y (e x) (e y);Go.binOp op t (e x) (e y))))) r:=by
 unfold eJ at h;split at h
 ·rename_i a b hx hy;have h1:=hE x _ hx;have h2:=hE y _ hy;cases hq:(dw a&&dw b)with
  |true=>
   rw[hq]at h;simp only[ZX]at hq;rw[h1.flatEq hq.1,h2.flatEq hq.2];exact Im h
  |false=>
   rw[hq]at h;simp only[cond_false]at h;cases hr:sU P t a b with
   |none=>rw[hr]at h;cases op<;>cases h
   |some q=>
    rw[hr]at h;obtain⟨h3,h4⟩:=Rh (w:=w) hr h1 h2;obtain⟨h5,h6⟩:=H9 (Kt hr h1) h3;cases op<;>first|cases h|skip
    ·refine xv (u:=.bool q) ?_ (.flat 1 _ rfl);rw[ZO,h4 .eql x y];exact h5
    refine xv (u:=.bool (!q)) ?_ (.flat 1 _ rfl);rw[ZO,h4 .neq x y];exact h6
 cases h
theorem TI{op:UnOp}{x:Operand}{r:XR}(hE:Ev ρ fr e)(h:Aj P op (ev fr x)=some r):dS P ρ W w (do pure (.value (<-Op.unary op (e x)))) r:=by
 cases hx:ev fr x with
 |none=>rw[hx]at h;cases h
 |some a=>
  rw[hx]at h;simp only[Aj]at h;cases hq:dw a with
  |false=>rw[hq]at h;cases h
  |true=>
   rw[hq]at h;rw[(hE x _ hx).flatEq hq];exact Im h
end
section
variable {P:Program} {ρ:Ren} {W:XW} {w:World} {fr:XF} {e:Operand->Value}
theorem CV:bm aM=true:=rfl
theorem Cp{n b z k r len cap':Nat}(hl:len<=cap')(hr:r<=cap'*k)(hz:cap'*k<=z):VR (gw ρ n ⟨b,0,z,k,r⟩) (.slice (some ⟨n,0,none⟩) len aM) (.slice (some ⟨b,0,none⟩) len cap'):=by
 have:=VR.sliceO (ρ:=gw ρ n ⟨b,0,z,k,r⟩) n 0 len aM cap' _ (d9 _ _ _) rfl hl (by simpa using hr) (by simpa using hz);simpa using this
theorem LO(l:List UInt8):cd ρ (aF l) (aF l):=by
 induction l with
 |nil=>exact .nil
 |cons b l ih=>exact .cons _ _ _ _ (.flat 1 _ rfl) ih
theorem Sb{l:List UInt8}{m:List Value}(h:cd ρ (aF l) m):m=aF l:=h.of_flat 1 fun u hu=>by
 simp only[aF,List.mem_map]at hu;obtain⟨x,_,rfl⟩:=hu;rfl
theorem so:∀{l:List Value} {bs:List UInt8},dE l=some bs->l=aF bs
 |[],bs,h=>by cases h;rfl
 |v::l,bs,h=>by
  unfold dE at h;split at h
  ·rename_i n;cases hr:dE l with
   |none=>rw[hr]at h;cases h
   |some r=>
    rw[hr]at h;simp only[qu]at h;cases q:Nat.blt n 256 with
    |false=>rw[q]at h;cases h
    |true=>
     rw[q]at h;cases h;have hlt:n<256:=Nat.le_of_ble_eq_true q;rw[so hr];show _=bv (UInt8.ofNat n)::aF r;unfold bv;have:(UInt8.ofNat n).toNat=n:=by simp;omega
     rw[this];rfl
  cases h
theorem no{s n:Nat}{x u:Value}{src:List Value}(hH:HR P ρ W.get w)(hx:VR ρ x u)(h:fg W s n x=some src)(hn:∀m,lm x=some m->n<=m) :
 ∃us:List Value,(Builtin.firstCells s n u).run P w=.ok us.toArray w/\cd ρ src us/\us.length=src.length/\(∀ad l c,u=.slice (some ad) l c->∀j v,us[j]?=some v->w.cell? (ad.add j)=some v)/\(∀a l c,x=.slice a l c->src.length=n*s):=by
 unfold fg at h;split at h
 ·rename_i len cap;have:=hx.of_flat 1 rfl;subst this;cases q:Nat.beq n 0 with
  |false=>rw[q]at h;cases h
  |true=>
   rw[q]at h;cases h;refine⟨[],rfl,.nil,rfl,?_,?_⟩
   ·intro _ _ _ h;cases h
   intro _ _ _ _;rw[ZT q];simp
 ·rename_i b o len cap;cases q:Nat.beq n 0 with
  |true=>
   rw[q]at h;cases h;have:=ZT q;subst this;obtain⟨c,c',rfl⟩:=od hx;refine⟨[],?_,.nil,rfl,fun _ _ _ _ j v hv=>by simp at hv,fun _ _ _ _=>by simp⟩;unfold Builtin.firstCells
   rw[aab];rfl
  |false=>
   rw[q]at h;simp only[cond_false]at h;have hn0:n≠0:=fun e=>by subst e;cases q
   split at h
   ·rename_i c t f hg;cases q2:Nat.beq ((c.drop o).take (n*s)).length (n*s)with
    |false=>rw[q2]at h;cases h
    |true=>
     rw[q2]at h;cases h;obtain⟨i,hr,hcase⟩:=hx.sliceInv;have key:∃cap',u=.slice (some ⟨i.b,o+i.s,none⟩) len cap':=by
      rcases hcase with⟨_,q⟩|⟨_,c,q,_⟩|⟨_,q,_⟩|⟨_,q,_⟩
      ·exact⟨_,q⟩
      ·exact⟨_,q⟩
      ·have:=hn len rfl;omega
      have:=hn len rfl;omega
     obtain⟨cap',rfl⟩:=key;obtain⟨c',f',h1,_,_,_,_,h2⟩:=ot hH hr hg;obtain⟨us,r1,r2,r3⟩:=h2.part o (n*s) (ZT q2);have hcell:∀j v,us[j]?=some v->w.cell? ((⟨i.b,o+i.s,none⟩:Addr).add j)=some v:=fun j v hv=>by rw[dc,cB h1,aau o];exact r3 j v hv
     refine⟨us,?_,r2,r2.length,fun ad l c hq=>by cases hq;exact hcell,fun _ _ _ _=>ZT q2⟩;unfold Builtin.firstCells
     rw[<-r1];exact run_loadCells_list w _ us hcell
   cases h
 ·rename_i t;have:=hx.str;subst this;cases h;refine⟨(t.data.toList.map fun b=>Value.int .u8 b.toNat).take n,?_,(LO t.data.toList).take n,rfl,(by intro _ _ _ h;cases h),(by intro _ _ _ h;cases h)⟩;have hm:=hn t.size rfl;have:((t.extract 0 n).data.map fun b=>Value.int .u8 (b.toNat:Int))=((t.data.toList.map fun b=>Value.int .u8 (b.toNat:Int)).take n).toArray:=by
   apply Array.ext';rw[Array.toList_map];simp[List.map_take,ByteArray.data_extract]
  show Result.ok _ w=_;rw[this]
 ·rename_i len nm cs cc;have hm:=hn len rfl;cases q2:Nat.beq (cs.toList.take (n*s)).length (n*s)with
  |false=>simp only[q2]at h;cases h
  |true=>
   simp only[q2]at h;cases h;obtain⟨_,_,⟨b,off,cap,c',e',f',hB,hl,rfl,hv⟩|⟨rfl,rfl,a,cap,rfl⟩⟩:=hx.fzInv
   ·have h1:=(hH.frz b _ hB).1;obtain⟨us,r1,r2,r3⟩:=hv.row.part 0 (n*s) (by rw[List.drop_zero];exact ZT q2);rw[List.drop_zero]at r2;have hcell:∀j v,us[j]?=some v->w.cell? ((⟨b,off,none⟩:Addr).add j)=some v:=fun j v hv=>by rw[dc,cB h1];have:=r3 j v hv;rwa [Nat.add_zero]at this
    refine⟨us,?_,r2,r2.length,fun ad l c hq=>by cases hq;exact hcell,by intro _ _ _ h;cases h⟩;unfold Builtin.firstCells
    rw[<-r1];exact run_loadCells_list w _ us hcell
   have:n=0:=by omega
   subst this;refine⟨[],?_,by simpa using cd.nil,by simp,fun _ _ _ _ j v hv=>by simp at hv,by intro _ _ _ h;cases h⟩;unfold Builtin.firstCells
   rw[aab];rfl
 cases h
theorem E0{x u:Value}{n:Nat}(hx:VR ρ x u)(h:lm x=some n):(Builtin.lenOf u).run P w=.ok n w:=by
 unfold lm at h;split at h
 ·cases h;obtain⟨a',c',rfl⟩:=hx.sliceLen;rfl
 ·cases h;have:=hx.str;subst this;rfl
 ·cases h;obtain⟨_,_,⟨b,off,cap,c',e',f',_,_,rfl,_⟩|⟨_,rfl,a,c,rfl⟩⟩:=hx.fzInv<;>rfl
 cases h
theorem DN{s d:TypeId}{x:Operand}{r:XR}(hH:HR P ρ W.get w)(hE:Ev ρ fr e)(h:jT P W s d (ev fr x) (P.underlying s) (P.underlying d)=some r):dS P ρ W w (do pure (.value (<-Go.convert s d (e x)))) r:=by
 unfold jT at h;split at h
 ·rename_i el hs hd;unfold sG at h;split at h
  ·rename_i t hx he hz;cases h;have hxe:=(hE x _ hx).str;rw[hxe];intro hn;have hrun:=Lib.run_convert_string_bytes (P:=P) w s d el t hs hd he;have hge:t.size<=grownCap w t.size 0 el:=grownCap_ge w t.size 0 el;have hcs:(Lib.bytesCells w el t).size=grownCap w t.size 0 el:=by
    unfold Lib.bytesCells;rw[Array.size_append,Array.size_map,Array.size_replicate];show t.size+_=_;omega
   have hk:jo P el=1:=by unfold jo;rw[hz];rfl
   have hsz:=Lib.bytesWorld_size w el t;have hnew:=Lib.bytesWorld_at_new w el t;have hlen:t.data.toList.length=t.size:=aaw;have hkk:aK bY w (Lib.bytesWorld w el t):=⟨rfl,rfl,rfl,by omega,fun k hk _=>Lib.bytesWorld_at_old w el t k hk⟩;obtain⟨q1,q2⟩:=hH.pushK hn (.cells (t.data.toList.map fun b=>Value.int .u8 b.toNat) el (1,1)) _ ⟨w.heap.size,0,(Lib.bytesCells w el t).size,jo P el,(t.data.toList.map fun b=>Value.int .u8 b.toNat).length⟩ hkk hnew rfl (by
    refine .cells _ _ _ _ _ rfl rfl jC (by simp only[aaq,hlen];omega) (fun j v hj=>?_) (fun j hj h1 h2=>?_) ⟨aaX _,fun h=>absurd h (by simp)⟩ (Nat.zero_mod _)
    ·refine⟨v,?_,?_⟩
     ·show(Lib.bytesCells w el t)[0+j]?=_;have hj':j<(t.data.map fun b=>Value.int .u8 (b.toNat:Int)).size:=by
       have:=(List.getElem?_eq_some_iff.1 hj).1;rw[Array.size_map];simpa[hlen]using this
      unfold Lib.bytesCells;rw[Nat.zero_add,Array.getElem?_append_left hj',<-hj,<-aar,Array.toList_map]
     obtain⟨x,_,rfl⟩:=List.mem_map.1 (aaC hj);exact .flat 1 _ rfl
    exfalso;simp only at hj h1;omega)
   refine⟨_,_,_,gv hrun,q2,q1,Cp hge ?_ ?_⟩
   ·rw[hk,aaq,hlen];omega
   rw[hk,hcs];omega
  cases h
 ·rename_i el hs hd;unfold oG at h;split at h
  ·rename_i a n c hx he;cases hsrc:fg W 1 n (.slice a n c)with
   |none=>rw[hsrc]at h;cases h
   |some l=>
    rw[hsrc]at h;simp only[xo]at h;cases hb:dE l with
    |none=>rw[hb]at h;cases h
    |some bs=>
     rw[hb]at h;cases h;have hl:=so hb;subst hl;obtain⟨us,h1,h2,h3,h4,h5⟩:=no hH (hE x _ hx) hsrc (fun m hm=>by cases hm;exact Nat.le_refl _);have hu:=Sb h2;subst hu;refine xv (u:=.string (str bs)) ?_ (.flat 1 _ rfl);rw[bK]at h3;obtain⟨a',c',hxe⟩:=(hE x _ hx).sliceLen;rw[hxe]at h1 ⊢;have hlen:bs.length=n:=by have:=h5 _ _ _ rfl;rwa [bK,aak]at this
     refine nB w s d el a' n c' bs hs he hd hlen.symm fun h0=>?_
     cases a' with
     |none=>unfold Builtin.firstCells at h1;cases bs with|nil=>simp at h0|cons _ _=>cases h1
     |some ad=>
      refine⟨ad,rfl,fun j hj=>h4 ad n c' hxe j _ ?_⟩;simp[aF,hj]
  cases h
 ·rename_i q1 q2 hs hd;unfold rY at h;split at h
  ·rename_i a hx;cases hq:dw a with
   |false=>rw[hq]at h;cases h
   |true=>
    rw[hq]at h;rw[(hE x _ hx).flatEq hq];exact Im h
  cases h
 cases h
end
section
variable {P:Program} {ρ:Ren} {W:XW} {w:World} {fr:XF} {e:Operand->Value}
theorem Ij{t:TypeId}{a x:Operand}{r:XR}(hH:HR P ρ W.get w)(hE:Ev ρ fr e)(h:EP W (ev fr a) (ev fr x) (sz P t)=some r):dS P ρ W w (do Instr.storeAt t (e a) (e x);pure .skip) r:=by
 unfold EP at h;split at h
 ·rename_i n o v s ha hx hs;cases hq:Nat.beq v.cells.size s with
  |false=>rw[hq]at h;cases h
  |true=>
   rw[hq]at h;simp only[cond_true]at h;cases hst:ir W n o v.cells.toList with
   |none=>rw[hst]at h;cases h
   |some W'=>
    rw[hst]at h;cases h;intro _;obtain⟨i,hr,hae⟩:=(hE a _ ha).ptrInv;have hc:=(hE x _ hx).cells;obtain⟨h1,h2,h3⟩:=mc hH hr hst hc;have hl:=hc.length;rw[aaw,aaw]at hl;refine⟨undef,ρ,_,gu ?_,h3,h2,oF⟩;unfold Instr.storeAt;rw[hae];simp only[Instr.sureAddr,ZO,Z0,ZN,storeVar,eT hs];rw[if_neg (by rw[hl,ZT hq];simp)];exact h1
 cases h
theorem kM{d m:Nat}{x:Option Operand}{n:Nat}(hE:Ev ρ fr e)(h:cG fr d x=some n):(x=none/\n=d)\/∃y k,x=some y/\e y=.int k (n:Int):=by
 unfold cG at h;split at h
 ·cases h;exact .inl ⟨rfl,rfl⟩
 rename_i y;split at h
 ·rename_i k n' hy;cases h;exact .inr ⟨y,k,rfl,(hE y _ hy).int⟩
 cases h
theorem iE{x:Value}{k:IntKind}{n y:Nat}{c:BoundsCode}(hx:x=.int k (n:Int))(hl:n<=y):(Instr.sliceBound x y c).run P w=.ok n w:=by
 subst hx;unfold Instr.sliceBound;rw[ZO,show(asIntOf (.int k (n:Int))).run P w=.ok (k,(n:Int)) w from rfl,ZN];show(if 0<=(n:Int)/\(n:Int)<=(y:Int)then(pure (n:Int).toNat:Sem Nat)else boundsPanic k (n:Int) y c).run P w=_;rw[if_pos (by omega),aaF];rfl
theorem gJ{sl:Bool}{len cap l h:Nat}{lo hi:Option Operand}(hE:Ev ρ fr e)(h1:cG fr 0 lo=some l)(h2:cG fr len hi=some h)(hl:l<=h)(hh:h<=cap) :
 (Instr.sliceBounds sl len cap (lo.map e) (hi.map e) none).run P w=.ok (l,h,cap) w:=by
 unfold Instr.sliceBounds;rcases kM (m:=0) hE h1 with⟨rfl,rfl⟩|⟨y,k,rfl,hy⟩
 ·rcases kM (m:=0) hE h2 with⟨rfl,rfl⟩|⟨z,k2,rfl,hz⟩
  ·rfl
  simp only[Z6,ZW,ZO,Z0,ZN,iE hz hh]
 rcases kM (m:=0) hE h2 with⟨rfl,rfl⟩|⟨z,k2,rfl,hz⟩
 ·simp only[Z6,ZW,ZO,Z0,ZN,iE hy hl]
 simp only[Z6,ZW,ZO,Z0,ZN,iE hz hh,iE hy hl]
theorem Ef{len cap l h m:Nat}{lo hi:Option Operand}{mx:Operand}(hE:Ev ρ fr e)(h1:cG fr 0 lo=some l)(h2:cG fr len hi=some h)(h3:cG fr 0 (some mx)=some m)(hs:hi.isSome=true)(hl:l<=h)(hh:h<=m)(hm:m<=cap) :
 (Instr.sliceBounds true len cap (lo.map e) (hi.map e) (some (e mx))).run P w=.ok (l,h,m) w:=by
 unfold Instr.sliceBounds;rcases kM (m:=0) hE h3 with⟨q,_⟩|⟨u,k0,q,hu⟩
 ·cases q
 cases q;rcases kM (m:=0) hE h2 with⟨rfl,rfl⟩|⟨z,k2,rfl,hz⟩
 ·cases hs
 rcases kM (m:=0) hE h1 with⟨rfl,rfl⟩|⟨y,k,rfl,hy⟩
 ·simp only[Z6,ZW,ZO,Z0,ZN,iE hz hh,iE hu hm]
 simp only[Z6,ZW,ZO,Z0,ZN,iE hz hh,iE hu hm,iE hy hl]
theorem JU{t:TypeId}{x:Operand}{lo hi mx:Option Operand}{r:XR}(hH:HR P ρ W.get w)(hE:Ev ρ fr e)(h:tX P fr W t lo hi mx (ev fr x)=some r) :
 dS P ρ W w (do pure (.value (<-Instr.sliceAt t (e x) (lo.map e) (hi.map e) (mx.map e)))) r:=by
 unfold tX at h;split at h
 ·rename_i v hx;have hv:=hE x _ hx;unfold fy at h;split at h
  ·
   rename_i hu;split at h
   ·rename_i s;have hxe:=hv.str;unfold NL at h;split at h
    ·rename_i l hh h1 h2;cases q:(Nat.ble l hh&&Nat.ble hh s.size)with
     |false=>rw[q]at h;cases h
     |true=>
      rw[q]at h;cases h;simp only[ZX]at q;refine xv (u:=.string (s.extract l hh)) ?_ (.flat 1 _ rfl);unfold Instr.sliceAt;simp only[ZO,bM hu,ZN,Instr.slice,hxe];simp only[Z6,Option.isSome_none,Bool.false_eq_true,if_false,ZO,Z0,ZN,gJ hE h1 h2 (Nat.le_of_ble_eq_true q.1) (Nat.le_of_ble_eq_true q.2)]
    cases h
   cases h
  ·
   rename_i el hu;split at h
   ·rename_i a len cap;have base:∀a' cap',e x=.slice a' len cap'->∀l hh m,(Instr.sliceBounds true len cap' (lo.map e) (hi.map e) (mx.map e)).run P w=.ok (l,hh,m) w->∀s,sz P el=some s ->
     (Instr.sliceAt t (e x) (lo.map e) (hi.map e) (mx.map e)).run P w=.ok (.slice (if m=l then a' else a'.map (·.add (l*s))) (hh-l) (m-l)) w:=fun a' cap' hxe l hh m hb s hs=>by
     unfold Instr.sliceAt;simp only[ZO,bM hu,ZN,Instr.slice,hxe,hb,eT hs,Z0]
    have capLow:∀c l,bm c=false->bm (c-l)=false:=fun c l hc=>by
     unfold bm at hc ⊢;cases q:Nat.ble 2305843009213693952 (c-l)with
     |false=>rfl
     |true=>
      have q1:=Nat.le_of_ble_eq_true q;have:Nat.ble 2305843009213693952 c=true:=Nat.ble_eq_true_of_le (by omega);rw[this]at hc;cases hc
    split at h
    ·
     unfold E2 at h;split at h
     ·rename_i s l hh hs h1 h2;cases q:(jM W cap el a&&Nat.ble l hh&&Nat.ble hh len&&(bm cap||Nat.ble len cap)&&(Nat.beq len 0||Nat.blt 0 s))with
      |false=>rw[q]at h;cases h
      |true=>
       rw[q]at h;cases h;simp only[ZX,aat]at q;obtain⟨⟨⟨⟨q1,q2⟩,q3⟩,q4⟩,q5⟩:=q;have q2:=Nat.le_of_ble_eq_true q2;have q3:=Nat.le_of_ble_eq_true q3;cases a with
       |none=>
        have hxe:=hv.of_flat 1 rfl;have hc:bm cap=false:=by simpa[jM]using q1
        rw[hc]at q4;have q4:=Nat.le_of_ble_eq_true (q4.resolve_left aag);refine xv (base _ _ hxe l hh cap (gJ hE h1 h2 q2 (by omega)) s hs) ?_;rw[hc];have:(if cap=l then none else(none:Option Addr).map (·.add (l*s)))=none:=by split<;>rfl
        rw[this];have:(bif !false&&Nat.beq cap l then(none:Option Addr)else xQ none (l*s))=none:=by cases Nat.beq cap l<;>rfl
        rw[this];exact .flat 1 _ rfl
       |some a=>
        obtain⟨n,o,rfl⟩:=hv.sliceAddr;obtain⟨i,hr,hcase⟩:=hv.sliceInv;rcases hcase with⟨hc,hxe⟩|⟨hc,cap',hxe,g1,g2,g3⟩|⟨hc,g1,g2,a',hxe⟩|⟨hc,g1,a',hxe⟩
        ·rw[hc]at q4;have q4:=Nat.le_of_ble_eq_true (q4.resolve_left aag);refine xv (base _ _ hxe l hh cap (gJ hE h1 h2 q2 (by omega)) s hs) ?_;rw[hc];by_cases hcl:cap=l
         ·rw[if_pos hcl,show Nat.beq cap l=true by rw[hcl];exact ZY l];exact .slice _ _ _ _ i hr (capLow _ _ hc)
         rw[if_neg hcl,gk hcl];have:=VR.slice n (o+l*s) (hh-l) (cap-l) i hr (capLow _ _ hc);rw[show o+l*s+i.s=o+i.s+l*s by omega]at this;rw[ZW,dc];exact this
        ·have hk:s=i.k:=by
          simp only[jM,hc,Bool.not_true,Bool.false_or]at q1;split at q1
          ·rename_i c e' f hg;have:=ZT q1;subst this;obtain⟨_,_,_,_,_,hk,_⟩:=ot hH hr hg;obtain⟨ti,hti,his⟩:=yk hs;rw[<-his];exact hk _ hti
          cases q1
         subst hk;refine xv (base _ _ hxe l hh cap' (gJ hE h1 h2 q2 (by omega)) _ hs) ?_;rw[hc];by_cases hcl:cap'=l
         ·have e1:hh-l=0:=by omega
          have e2:cap'-l=0:=by omega
          rw[if_pos hcl,e1,e2];exact .sliceE n (o+l*i.k) cap _ i hr hc (by rw[<-hcl];exact g2)
         rw[if_neg hcl,ZW,dc];have hm:(cap'-l)*i.k+l*i.k=cap'*i.k:=by rw[<-Nat.add_mul];congr 1;omega
         have:=VR.sliceO n (o+l*i.k) (hh-l) cap (cap'-l) i hr hc (by omega) (by omega) (by omega);rw[show o+l*i.k+i.s=o+i.s+l*i.k by omega]at this;exact this
        ·subst g1;have e1:hh=0:=by omega
         have e2:l=0:=by omega
         subst e1;subst e2;refine xv (base _ _ hxe 0 0 0 (gJ hE h1 h2 (Nat.le_refl _) (Nat.le_refl _)) s hs) ?_;rw[hc,if_pos rfl];exact .sliceE n (o+0*s) cap _ i hr hc (by omega)
        subst g1;subst hc;have e1:hh=0:=by omega
        have e2:l=0:=by omega
        subst e1;subst e2;refine xv (base _ _ hxe 0 0 0 (gJ hE h1 h2 (Nat.le_refl _) (Nat.le_refl _)) s hs) ?_;exact .sliceZ _ _ _ i hr
     cases h
    ·
     rename_i m;cases q0:(hi.isSome&&(bm cap||Nat.ble len cap))with
     |false=>rw[q0]at h;cases h
     |true=>
      rw[q0]at h;simp only[cond_true]at h;simp only[ZX,aat]at q0;unfold NI at h;split at h
      ·rename_i s l hh mm hs h1 h2 h3;cases q:(Nat.ble l hh&&Nat.ble hh mm&&Nat.ble mm len&&Nat.ble mm 16777216)with
       |false=>rw[q]at h;cases h
       |true=>
        rw[q]at h;cases h;simp only[ZX]at q;obtain⟨⟨⟨q1,q2⟩,q3⟩,q4⟩:=q;have q1:=Nat.le_of_ble_eq_true q1;have q2:=Nat.le_of_ble_eq_true q2;have q3:=Nat.le_of_ble_eq_true q3;have q4:=Nat.le_of_ble_eq_true q4;have small:bm (mm-l)=false:=kq (by omega);have fin:∀(A':Option Addr) (cap':Nat),e x=.slice A' len cap'->mm<=cap'->VR ρ (.slice (bif Nat.beq mm l then a else xQ a (l*s)) (hh-l) (mm-l)) (.slice (if mm=l then A' else A'.map (·.add (l*s))) (hh-l) (mm-l)) ->
         dS P ρ W w (do pure (.value (<-Instr.sliceAt t (e x) (lo.map e) (hi.map e) (some (e m))))) (.val (some (.slice (bif Nat.beq mm l then a else xQ a (l*s)) (hh-l) (mm-l)))):=fun A' cap' hxe hm hvr=>
         xv (base A' cap' hxe l hh mm (Ef hE h1 h2 h3 q0.1 q1 q2 hm) s hs) hvr
        cases a with
        |none=>
         have hxe:=hv.of_flat 1 rfl;refine fin none cap hxe ?_ ?_
         ·rcases q0.2 with g|g
          ·unfold bm at g;have:=Nat.le_of_ble_eq_true g;omega
          have:=Nat.le_of_ble_eq_true g;omega
         have:(if mm=l then none else(none:Option Addr).map (·.add (l*s)))=none:=by split<;>rfl
         rw[this];have:(bif Nat.beq mm l then(none:Option Addr)else xQ none (l*s))=none:=by cases Nat.beq mm l<;>rfl
         rw[this];exact .flat 1 _ rfl
        |some a=>
         obtain⟨n,o,rfl⟩:=hv.sliceAddr;obtain⟨i,hr,hcase⟩:=hv.sliceInv;have two:∀cap',e x=.slice (some ⟨i.b,o+i.s,none⟩) len cap'->mm<=cap'->dS P ρ W w (do pure (.value (<-Instr.sliceAt t (e x) (lo.map e) (hi.map e) (some (e m))))) (.val (some (.slice (bif Nat.beq mm l then some ⟨n,o,none⟩else xQ (some ⟨n,o,none⟩) (l*s)) (hh-l) (mm-l)))):=fun cap' hxe hm=>by
          refine fin _ cap' hxe hm ?_;by_cases hcl:mm=l
          ·rw[if_pos hcl,show Nat.beq mm l=true by rw[hcl];exact ZY l];exact .slice _ _ _ _ i hr small
          rw[if_neg hcl,gk hcl];have:=VR.slice n (o+l*s) (hh-l) (mm-l) i hr small;rw[show o+l*s+i.s=o+i.s+l*s by omega]at this;rw[ZW,dc];exact this
         rcases hcase with⟨hc,hxe⟩|⟨hc,cap',hxe,g1,g2,g3⟩|⟨hc,g1,g2,a',hxe⟩|⟨hc,g1,a',hxe⟩
         ·rw[hc]at q0;have:=Nat.le_of_ble_eq_true (q0.2.resolve_left aag);exact two cap hxe (by omega)
         ·exact two cap' hxe (by omega)
         ·subst g1;have e1:mm=0:=by omega
          subst e1;have e2:hh=0:=by omega
          have e3:l=0:=by omega
          subst e2;subst e3;exact fin (some a') 0 hxe (Nat.le_refl _) (.sliceZ _ _ _ i hr)
         subst g1;have e1:mm=0:=by omega
         subst e1;have e2:hh=0:=by omega
         have e3:l=0:=by omega
         subst e2;subst e3;exact fin (some a') 0 hxe (Nat.le_refl _) (.sliceZ _ _ _ i hr)
      cases h
   ·rename_i len nm cs cc;have base:∀a' cap',e x=.slice a' len cap'->∀l hh m,(Instr.sliceBounds true len cap' (lo.map e) (hi.map e) (mx.map e)).run P w=.ok (l,hh,m) w->∀s,sz P el=some s ->
     (Instr.sliceAt t (e x) (lo.map e) (hi.map e) (mx.map e)).run P w=.ok (.slice (if m=l then a' else a'.map (·.add (l*s))) (hh-l) (m-l)) w:=fun a' cap' hxe l hh m hb s hs=>by
     unfold Instr.sliceAt;simp only[ZO,bM hu,ZN,Instr.slice,hxe,hb,eT hs,Z0]
    unfold JH at h;split at h
    ·rename_i s l hh hs h1 h2;cases q:(Nat.ble l hh&&Nat.ble hh len)with
     |false=>rw[q]at h;cases h
     |true=>
      rw[q]at h;cases h;simp only[ZX]at q;have q2:=Nat.le_of_ble_eq_true q.1;have q3:=Nat.le_of_ble_eq_true q.2;obtain⟨_,_,⟨b,off,cap,c',e',f',hB,hl,hxe,hrow⟩|⟨rfl,rfl,a,cap,hxe⟩⟩:=hv.fzInv
      ·refine xv (base _ _ hxe l hh cap (gJ hE h1 h2 q2 (by omega)) s hs) ?_;by_cases hcl:cap=l
       ·have e1:hh-l=0:=by omega
        rw[if_pos hcl,e1,aab,List.take_zero];exact .frzE _ _
       rw[if_neg hcl,ZW,dc];exact .frz _ _ _ b _ _ c' e' f' hB (by omega) rfl (hrow.piece _ _)
      have e1:hh=0:=by omega
      have e2:l=0:=by omega
      subst e1;subst e2;refine xv (base _ _ hxe 0 0 cap (gJ hE h1 h2 (Nat.le_refl _) (Z3 _)) s hs) ?_;rw[Nat.sub_self,aab,List.take_zero,aad];split
      ·exact .frzE _ _
      exact .frzE _ _
    cases h
   cases h
  ·
   rename_i n el hu;split at h
   ·rename_i b o;obtain⟨i,hr,hxe⟩:=hv.ptrInv;unfold NO at h;split at h
    ·rename_i s l hh hs h1 h2;cases q:(Nat.ble l hh&&Nat.ble hh n&&Nat.ble n 16777216)with
     |false=>rw[q]at h;cases h
     |true=>
      rw[q]at h;cases h;simp only[ZX]at q;have q3:=Nat.le_of_ble_eq_true q.2;refine xv (u:=.slice (some (if n=l then⟨i.b,o+i.s,none⟩else(⟨i.b,o+i.s,none⟩:Addr).add (l*s))) (hh-l) (n-l)) ?_ ?_
      ·unfold Instr.sliceAt;simp only[ZO,bM hu,ZN,hxe,Instr.sureAddr,Z0];simp only[Z6,ZO,Z0,ZN,gJ hE h1 h2 (Nat.le_of_ble_eq_true q.1.1) (Nat.le_of_ble_eq_true q.1.2),eT hs]
      by_cases hnl:n=l
      ·rw[if_pos hnl,show Nat.beq n l=true by rw[hnl];exact ZY l];exact .slice _ _ _ _ i hr (kq (by omega))
      rw[if_neg hnl,gk hnl,dc];have:=VR.slice b (o+l*s) (hh-l) (n-l) i hr (kq (by omega));rwa [show o+l*s+i.s=o+i.s+l*s by omega]at this
    cases h
   cases h
  cases h
 cases h
end
section
variable {P:Program} {ρ:Ren} {W:XW} {w:World} {fr:XF} {e:Operand->Value}
theorem oa{ats:Array TypeId}{ty t u el:TypeId}{base:Option Addr}{sLen sCap n s:Nat}{x:Value}{us:List Value}{w':World}(h0:ats[0]?=some t)(h1:ats[1]?=some u)(ht:P.underlying t=some (.slice el))(hu:mt (P.underlying u)=true)
 (hs:sz P el=some s) (hn:(Builtin.lenOf x).run P w=.ok n w) (hf:(Builtin.firstCells s n x).run P w=.ok us.toArray w) (hle:sLen+n<=sCap)
 (hst:(match base with|some a=>storeCells (a.add (sLen*s)) us|none=>pure ():Sem Unit).run P w=.ok () w') :
 (Builtin.append_ ats ty #[.slice base sLen sCap,x]).run P w=.ok (.slice base (sLen+n) sCap) w':=by
 cases hd:P.underlying u with
 |none=>rw[hd]at hu;cases hu
 |some d=>
  rw[hd]at hu;cases d<;>first|(exact absurd hu aag)|skip
  all_goals
   simp only[Builtin.append_,h0,h1,List.getElem?_toArray,List.getElem?_cons_zero,List.getElem?_cons_succ,ZO,bM ht,ZN,eT hs,bM hd,Z0,Bool.false_eq_true,if_false,hn,Bool.not_false,if_true,if_pos hle,hf];cases base with
   |none=>
    simp only[Z0,Result.ok.injEq,true_and]at hst;subst hst;rfl
   |some a=>
    simp only at hst;simp only[ZO,hst,ZN,Z0]
theorem Dd{ats:Array TypeId}{ty t u el:TypeId}{i:TypeInfo}{z:Value}{base:Option Addr}{sLen sCap n:Nat}{x:Value}{us os:List Value}(h0:ats[0]?=some t)(h1:ats[1]?=some u)(ht:P.underlying t=some (.slice el))(hu:mt (P.underlying u)=true)
 (hi:P.info? el=some i) (hz:i.zero=some z) (hn:(Builtin.lenOf x).run P w=.ok n w) (ho:(Builtin.firstCells i.size sLen (.slice base sLen sCap)).run P w.drew=.ok os.toArray w.drew) (hf:(Builtin.firstCells i.size n x).run P w.drew=.ok us.toArray w.drew)
 (hg:sCap<sLen+n) (h63:sLen+n<=1099511627776) (hfit:(sLen+n)*i.bytes<=1099511627776) :
 (Builtin.append_ ats ty #[.slice base sLen sCap,x]).run P w=.ok (.slice (some ⟨w.heap.size,0,none⟩) (sLen+n) (grownCap w (sLen+n) sCap el))
  (w.drew.alloc (.cells (os.toArray++us.toArray++Builtin.zeroCells z.cells (grownCap w (sLen+n) sCap el-(sLen+n))) el)):=by
 have hle:¬(sLen+n<=sCap):=by omega
 have hmax:IntKind.i64.max=9223372036854775807:=by decide
 have hsz:sz P el=some i.size:=by unfold sz;rw[hi];rfl
 have hnext:=growslice_fits (bytes:=i.bytes) hg (by omega);have hzr:∀w',(zeroValue el).run P w'=.ok z w':=fun w'=>by
  unfold zeroValue;rw[ZO,ly hi,ZN,hz];rfl
 have hask:∀b w',(askRoom b).run P w'=.ok () w':=fun b w'=>by unfold askRoom;split<;>rfl
 have hch:(choose (.appendCap (sLen+n) sCap el)).run P w=.ok (grownCap w (sLen+n) sCap el) w.drew:=rfl;have hnew:∀c,(newRow el c).run P w.drew=.ok ⟨w.heap.size,0,none⟩ (w.drew.alloc (.cells c el)):=fun c=>rfl
 cases hd:P.underlying u with
 |none=>rw[hd]at hu;cases hu
 |some d=>
  rw[hd]at hu;cases d<;>first|(exact absurd hu aag)|skip
  all_goals
   simp only[Builtin.append_,h0,h1,List.getElem?_toArray,List.getElem?_cons_zero,List.getElem?_cons_succ,ZO,bM ht,ZN,eT hsz,bM hd,Z0,Bool.false_eq_true,if_false,hn,Bool.not_false,if_true,if_neg hle,ly hi];rw[if_neg (by rintro ⟨a,_⟩;rw[hmax]at a;omega)];simp only[ZO,ly hi,ZN];rw[if_neg (by omega)];simp only[ZO,hch,ZN,ly hi,hask,ho,hf,hzr,Z0,hnew]
theorem yT(z:Array Value)(q:Nat):(Builtin.zeroCells z q).size=q*z.size:=by simp[Builtin.zeroCells]
theorem BU(hH:HR P ρ W.get w){n:Nat}{i:RI}{c:List Value}{t:TypeId}{f:Nat×Nat}(hr:ρ n=some i)(hg:W.get n=some (.cells c t f)) :
 ∃ob,w.heap[i.b]?=some ob/\∀c' t' f',ob=.cells c' t' f'->(∀j,i.s+j<i.z->f'.1<=i.s+j->i.s+j<f'.2->f.1<=j/\j<f.2)/\f'.1<=f'.2/\(f.1=0->f'.2<=i.z):=by
 obtain⟨ob,h1,h2⟩:=hH.obj n i _ hr hg;refine⟨ob,h1,?_⟩;cases h2 with
 |cells _ _ _ c' f' hz hrr hk hl hv hf hq=>intro _ _ _ e;cases e;exact⟨hf,hq⟩
theorem Ez(hH:HR P ρ W.get w){n:Nat}{i:RI}{c:List Value}{t:TypeId}{f:Nat×Nat}(hr:ρ n=some i)(hg:W.get n=some (.cells c t f)):i.s%i.k=0:=by
 obtain⟨ob,h1,h2⟩:=hH.obj n i _ hr hg;cases h2 with
 |cells _ _ _ c' f' hz hrr hk hl hv hf hq hm=>exact hm
theorem OI{S:Sem Value}{el:TypeId}{c us:List Value}{z:Value}{k need cap':Nat}{f:Nat×Nat}(hH:HR P ρ W.get w)(hn:ρ W.next=none)(hk:jo P el=k)(hz:z.cells.size=k)(hc:cd ρ c us)(hl:c.length=need*k)(hcap:need<=cap')
 (hS:S.run P w=.ok (.slice (some ⟨w.heap.size,0,none⟩) need cap') (w.drew.alloc (.cells (us.toArray++Builtin.zeroCells z.cells (cap'-need)) el))) :
 ∃u ρ' w',pu P (do pure (.value (<-S))) w u w'/\dy ρ W.get W.next w ρ' (W.push (.cells c el f)).get (W.push (.cells c el f)).next w'/\HR P ρ' (W.push (.cells c el f)).get w'/\VR ρ' (.slice (some ⟨W.next,0,none⟩) need aM) u:=by
 have hsz:(us.toArray++Builtin.zeroCells z.cells (cap'-need)).size=cap'*k:=by rw[Array.size_append,yT,List.size_toArray,hc.length,hl,hz,<-Nat.add_mul];congr 1;omega
 obtain⟨q1,q2⟩:=hH.drew.push hn (.cells c el f) (.cells (us.toArray++Builtin.zeroCells z.cells (cap'-need)) el (0,0)) ⟨w.heap.size,0,cap'*k,k,c.length⟩ rfl (by
  refine .cells _ _ _ _ _ hsz rfl (fun t ht=>by rw[<-hk];exact jC t ht) (by simp only[Nat.zero_add,hl];exact abb _ hcap) (fun j v hj=>?_) (fun j _ h1 h2=>by simp at h2) ⟨Nat.le_refl _,fun _=>Z3 _⟩ (Nat.zero_mod _);obtain⟨v',h1,h2⟩:=hc.get j v hj;refine⟨v',?_,h2.mono (il _ hn)⟩;have hj':j<us.length:=(List.getElem?_eq_some_iff.1 h1).1;show(us.toArray++Builtin.zeroCells z.cells (cap'-need))[0+j]?=_;rw[Nat.zero_add,Array.getElem?_append_left (by simpa using hj')];simpa using h1)
 exact⟨_,_,_,gv hS,q2.drew,q1,Cp hcap (by rw[hl];exact abb _ hcap) (Nat.le_refl _)⟩
theorem GA{ats:Array TypeId}{ty:TypeId}{v x v' x':Value}{r:XR}(hH:HR P ρ W.get w)(hv:VR ρ v v')(hx:VR ρ x x')(hu:mt (gU P ats[1]?)=true)(h:ov P W v x (gU P ats[0]?)=some r) :
 dS P ρ W w (do pure (.value (<-Builtin.append_ ats ty #[v',x']))) r:=by
 cases h0:ats[0]? with
 |none=>rw[h0]at h;cases h
 |some t=>
  cases h1:ats[1]? with
  |none=>rw[h1]at hu;cases hu
  |some u=>
   rw[h0]at h;rw[h1]at hu;simp only[gU]at h hu;unfold ov at h;split at h
   ·rename_i el ht;unfold FT at h;split at h
    ·rename_i i z n hi hz hl;cases hzs:Nat.beq i.size z.cells.size with
     |false=>rw[hzs]at h;cases h
     |true=>
     rw[hzs]at h;simp only[cond_true]at h;have hzs:=ZT hzs;have hsz:sz P el=some i.size:=by unfold sz;rw[hi];rfl
     obtain⟨i',hi',hzz,hzf⟩:=gM hz;rw[hi]at hi';cases hi';cases hsrc:fg W i.size n x with
     |none=>rw[hsrc]at h;cases h
     |some src=>
      rw[hsrc]at h;simp only[BL]at h;cases hsl:(Nat.beq src.length (n*i.size)&&src.all bk)with
      |false=>rw[hsl]at h;cases h
      |true=>
      rw[hsl]at h;simp only[cond_true]at h;simp only[ZX]at hsl;have one:=hsl.2;have hsl:=ZT hsl.1;obtain⟨us,f1,f2,f3,f4,f5⟩:=no hH hx hsrc (fun m hm=>by rw[hl]at hm;cases hm;exact Nat.le_refl _);obtain⟨us',g1,g2,g3,g4,g5⟩:=no hH.drew hx hsrc (fun m hm=>by rw[hl]at hm;cases hm;exact Nat.le_refl _);have hlen:=E0 (P:=P) (w:=w) hx hl;unfold FY at h;split at h
      ·rename_i base len cap;obtain⟨base',cap',rfl⟩:=hv.sliceLen;cases hn0:Nat.beq n 0 with
       |true=>
        rw[hn0]at h;cases hlc:Nat.ble len cap with
        |false=>rw[hlc]at h;cases h
        |true=>
         rw[hlc]at h;cases h;have:=ZT hn0;subst this;have hus:us=[]:=by
          have:src=[]:=by unfold fg at hsrc;split at hsrc<;>first|(cases hsrc;rfl)|(simp at hsrc;exact hsrc)|(cases hsrc)
          rw[this]at f2;cases f2;rfl
         subst hus;refine xv (oa (w':=w) h0 h1 ht hu hsz hlen f1 ?_ ?_) hv
         ·have hlc:=Nat.le_of_ble_eq_true hlc;cases base with
          |none=>have:=hv.of_flat 1 rfl;cases this;exact hlc
          |some a=>
           obtain⟨b,o,rfl⟩:=hv.sliceAddr;obtain⟨j,hr,q|⟨_,c,q,q2,_⟩|⟨_,q1,_,_,q⟩|⟨_,q1,_,q⟩⟩:=hv.sliceInv
           ·have:=q.2;cases this;exact hlc
           ·cases q;exact q2
           ·cases q;omega
           cases q;omega
         cases base'<;>rfl
       |false=>
        rw[hn0]at h;simp only[cond_false]at h;have hn0:n≠0:=fun e=>by subst e;cases hn0
        cases hs0:Nat.blt 0 i.size with
        |false=>rw[hs0]at h;cases h
        |true=>
         rw[hs0]at h;simp only[cond_true]at h;have hs0:0<i.size:=Nat.le_of_ble_eq_true hs0;have hkk:jo P el=i.size:=by unfold jo;rw[hsz];rfl
         have grown:∀(old os:List Value) (W1:XW) (f:Nat×Nat),HR P ρ W1.get w->W1.next=W.next->dy ρ W.get W.next w ρ W1.get W1.next w->cd ρ old os->old.length=len*i.size ->
          (Builtin.firstCells i.size len (.slice base' len cap')).run P w.drew=.ok os.toArray w.drew->cap'<len+n->mr i.bytes (len+n)=true ->
          dS P ρ W w (do pure (.value (<-Builtin.append_ ats ty #[.slice base' len cap',x']))) (.mod (.slice (some ⟨W1.next,0,none⟩) (len+n) aM) (W1.push (.cells (old++src) el f))):=fun old os W1 f hH1 hnx hst hvo hlo hfo hg hok=>fun hfr=>by
          unfold mr at hok;simp only[ZX]at hok;have hrun:=Dd (ty:=ty) h0 h1 ht hu hi hzz hlen hfo g1 hg (Nat.le_of_ble_eq_true hok.2) (Nat.le_of_ble_eq_true hok.1);have hn:ρ W1.next=none:=hfr _ (by rw[hnx];exact Nat.le_refl _) (aan _);have hge:=grownCap_ge w (len+n) cap' el;obtain⟨u,ρ',w',r1,r2,r3,r4⟩:=OI (f:=f) hH1 hn hkk hzs.symm (hvo.append g2) (by rw[ZM,hlo,hsl,<-Nat.add_mul]) hge (by
           have e:(os++us').toArray=os.toArray++us'.toArray:=by simp
           rw[e];exact hrun)
          exact⟨u,ρ',w',r1,hst.trans r2,r3,r4⟩
         have noOpen:bm 0=false:=rfl;unfold DF at h;split at h
         ·
          have:=hv.of_flat 1 rfl;cases this;cases q:(Nat.beq cap 0&&Nat.beq len 0&&mr i.bytes n)with
          |false=>rw[q]at h;cases h
          |true=>
           rw[q]at h;cases h;simp only[ZX]at q;have e1:=ZT q.1.1;have e2:=ZT q.1.2;subst e1;subst e2;have:=grown [] [] W (0,0) hH rfl (.refl _ _ _ _) .nil (by simp) rfl (by omega) (by rw[Nat.zero_add];exact q.2);rw[Nat.zero_add]at this;exact this
         ·rename_i b o;obtain⟨j,hr,hcase⟩:=hv.sliceInv;cases hoc:(bm cap||Nat.ble (len+n) cap)with
          |true=>
           rw[hoc]at h;simp only[cond_true]at h;simp only[aat]at hoc;cases hin:(Nat.ble (o+(len+n)*i.size) (xG (W.get b))&&jM W cap el (some ⟨b,o,none⟩))with
           |true=>
            rw[hin]at h;simp only[cond_true]at h;simp only[ZX]at hin;have hin1:=Nat.le_of_ble_eq_true hin.1;cases hst:ir W b (o+len*i.size) src with
            |none=>rw[hst]at h;cases h
            |some W'=>
             rw[hst]at h;cases h;intro hfr;obtain⟨c,ce,cf,hg,_⟩:=nT hst;rw[hg]at hin1;simp only[xG]at hin1;obtain⟨c',f',hb,hcz,hcr,hck,hcl,hrow⟩:=ot hH hr hg;obtain⟨s1,s2,s3⟩:=mc hH hr hst f2;have hpos:0<(len+n)*i.size:=Nat.mul_pos (by omega) hs0;have hmul:(len+n)*i.size=len*i.size+n*i.size:=Nat.add_mul _ _ _;have addr:((⟨j.b,o+j.s,none⟩:Addr).add (len*i.size))=⟨j.b,o+len*i.size+j.s,none⟩:=by rw[dc];congr 1;omega
             rcases hcase with⟨hc,q⟩|⟨hc,cc,q,q2,q3,q4⟩|⟨hc,q1,q2,a',q⟩|⟨hc,q1,a',q⟩
             ·cases q;have hle:=Nat.le_of_ble_eq_true (hoc.resolve_left (by rw[hc];exact aag));exact⟨_,ρ,_,gv (oa (ty:=ty) h0 h1 ht hu hsz hlen f1 hle (by simp only;rw[addr];exact s1)),s3,s2,.slice _ _ _ _ j hr hc⟩
             ·cases q;have hk:i.size=j.k:=by
               have:=hin.2;simp only[jM,hc,Bool.not_true,Bool.false_or,hg]at this;have:=ZT this;subst this;exact hck _ hi
              have hle:len+n<=cap':=by
               have:(len+n)*i.size<=cap'*i.size:=by rw[<-hk]at q3;omega
               exact Nat.le_of_mul_le_mul_right this hs0
              exact⟨_,ρ,_,gv (oa (ty:=ty) h0 h1 ht hu hsz hlen f1 hle (by simp only;rw[addr];exact s1)),s3,s2,.sliceO _ _ _ _ _ j hr hc hle q3 q4⟩
             ·omega
             subst hc;have:=Nat.le_of_ble_eq_true (hoc.resolve_left (by rw[noOpen];exact aag));omega
           |false=>
            rw[hin]at h;simp only[cond_false]at h;unfold GP at h;split at h
            ·rename_i c ce cf hg;cases q:(bm cap&&Nat.beq el ce&&Nat.ble (o+len*i.size) c.length&&mr i.bytes (len+n)&&!tV cf (o+len*i.size) (n*i.size)&&(Nat.beq cf.1 0||Nat.ble cf.2 cf.1)&&Nat.beq (o%i.size) 0)with
             |false=>rw[q]at h;cases h
             |true=>
              rw[q]at h;cases h;simp only[ZX,aaE]at q;obtain⟨⟨⟨⟨⟨⟨p1,p2⟩,p3⟩,p4⟩,p5⟩,p6⟩,p7⟩:=q;have p2:=ZT p2;have p3:=Nat.le_of_ble_eq_true p3;subst p2;obtain⟨c',f',hb,hcz,hcr,hck,hcl,hrow⟩:=ot hH hr hg;have hk:i.size=j.k:=hck _ hi;have hgn:W.get b≠none:=by rw[hg];simp
              obtain⟨k1,k2⟩:=hH.kill b;have holdl:((c.drop o).take (len*i.size)).length=len*i.size:=by rw[ZR,ZV];omega
              obtain⟨os,o1,o2,o3⟩:=hrow.part o (len*i.size) holdl;rcases hcase with⟨hc,q⟩|⟨hc,cc,q,q2,q3,q4⟩|⟨hc,q1,q2,a',q⟩|⟨hc,q1,a',q⟩
              ·rw[hc]at p1;cases p1
              ·cases q;by_cases hle:len+n<=cap'
               ·
                intro hfr;have hn:ρ W.next=none:=hfr _ (Nat.le_refl _) (aan _);have hne:b≠W.next:=fun e=>by rw[e,hn]at hr;cases hr
                obtain⟨ob,hb2,hff⟩:=BU hH hr hg;rw[hb]at hb2;cases hb2;obtain⟨hff,hqq⟩:=hff _ _ _ rfl;have hm1:(len+n)*i.size=len*i.size+n*i.size:=Nat.add_mul _ _ _;have hm2:(len+n)*i.size<=cap'*j.k:=by rw[<-hk];exact abb _ hle
                have addr:((⟨j.b,o+j.s,none⟩:Addr).add (len*i.size))=⟨j.b,o+j.s+len*i.size,none⟩:=dc _ _ _;have hst:(storeCells ⟨j.b,o+j.s+len*i.size,none⟩ us).run P w=.ok () (w.setCells j.b (o+j.s+len*i.size) us):=by
                 have:=run_storeCells_cells (P:=P) j.b (o+j.s+len*i.size) us 0 w (fun q hq=>by
                  rw[Nat.add_zero,cB hb,aav (by omega)];rfl)
                  (fun q hq=>by
                   rw[Nat.add_zero];simp only[World.frozen?,hb];cases g:(decide (f'.1<=o+j.s+len*i.size+q)&&decide (o+j.s+len*i.size+q<f'.2))with
                   |false=>rfl
                   |true=>
                    simp only[ZX,decide_eq_true_eq]at g;obtain⟨g1,g2⟩:=hff (o+len*i.size+q) (by omega) (by omega) (by omega);unfold tV at p5;simp only[Bool.not_eq_false',aat]at p5;rcases p5 with(p5|p5)|p5
                    ·have:=Nat.le_of_ble_eq_true p5;omega
                    ·have:=Nat.le_of_ble_eq_true p5;omega
                    have:=Nat.le_of_ble_eq_true p5;omega)
                  (f2.one one)
                 simpa using this
                have hcl2:((c.drop o).take (len*i.size)++src).length=(len+n)*i.size:=by rw[ZM,holdl,hsl,hm1]
                obtain⟨r1,r2⟩:=hH.regrow hr hgn hn hne (i':=⟨j.b,o+j.s,j.z,j.k,(len+n)*i.size⟩) (.cells ((c.drop o).take (len*i.size)++src) el (xR cf o)) (nv us w j.b (o+j.s+len*i.size)) rfl
                 (nF us w j.b (o+j.s+len*i.size) c' el f' hb) (by
                  refine .cells _ _ _ _ _ (by rw[t7,hcz]) hcl2 hck (by simp only;omega) (fun q v hq=>?_) (fun q hq h1 h2=>?_) ⟨hqq.1,fun hz0=>?_⟩ (by
                   show(o+j.s)%j.k=0;have:=ZT p7;rw[hk]at this;rw[Nat.add_mod,this,Ez hH hr hg,Nat.zero_add,Nat.zero_mod])
                  ·rcases aaa q (len*i.size)with g|g
                   ·rw[aaB (by omega),aaj,if_pos g,aas]at hq;obtain⟨v',y1,y2⟩:=hrow _ v hq;refine⟨v',?_,y2.mono (il _ hn)⟩;show(lU c' (o+j.s+len*i.size) us)[o+j.s+q]?=_;rw[lr _ _ _ _ (by omega),show o+j.s+q=j.s+(o+q) by omega];exact y1
                   rw[aaz (by omega),holdl]at hq;obtain⟨v',y1,y2⟩:=f2.get _ v hq;refine⟨v',?_,y2.mono (il _ hn)⟩;show(lU c' (o+j.s+len*i.size) us)[o+j.s+q]?=_;have hlt:q-len*i.size<us.length:=(List.getElem?_eq_some_iff.1 y1).1;rw[show o+j.s+q=o+j.s+len*i.size+(q-len*i.size) by omega,uQ us _ _ _ (by omega) hlt];exact y1
                  ·obtain⟨g1,g2⟩:=hff (o+q) (by simp only at hq;omega) (by simp only at h1;omega) (by simp only at h2;omega);unfold xR;cases g:Nat.beq cf.1 0 with
                   |true=>exact⟨Z3 _,by show q<cf.2-o;omega⟩
                   |false=>
                    rw[g,Bool.false_or]at p6;have:=Nat.le_of_ble_eq_true p6;omega
                  refine hqq.2 ?_;unfold xR at hz0;cases g:Nat.beq cf.1 0 with
                  |true=>exact ZT g
                  |false=>rw[g]at hz0;cases hz0)
                refine⟨_,_,_,gv (oa (ty:=ty) h0 h1 ht hu hsz hlen f1 hle (by simp only;rw[addr];exact hst)),r2,r1,?_⟩;have:=VR.sliceO (ρ:=gw ρ W.next ⟨j.b,o+j.s,j.z,j.k,(len+n)*i.size⟩) W.next 0 (len+n) aM cap' _ (d9 _ _ _) CV hle (by simp only;omega) (by simp only;omega);simp only[Nat.zero_add]at this;exact this
               refine grown _ os (W.put b none) _ k1 rfl k2 o2 holdl ?_ (by omega) p4;exact run_firstCells_some (P:=P) w.drew i.size len ⟨j.b,o+j.s,none⟩ len cap' os o1 (fun q u hu=>by
                show w.cell? _=_;rw[dc,cB hb,aau o];exact o3 q u hu)
              ·cases q;rw[aab,List.take_zero];refine grown [] [] (W.put b none) _ k1 rfl k2 .nil (by simp) ?_ (by omega) p4;exact run_firstCells_some (P:=P) w.drew i.size 0 a' 0 0 [] (by simp) (fun q u hu=>by simp at hu)
              subst hc;rw[noOpen]at p1;cases p1
            cases h
          |false=>
           rw[hoc]at h;simp only[cond_false]at h;simp only[abc]at hoc;have hnle:¬(len+n<=cap):=fun hh=>by have:=Nat.ble_eq_true_of_le hh;rw[this]at hoc;cases hoc.2
           cases hold:fg W i.size len (.slice (some ⟨b,o,none⟩) len cap)with
           |none=>rw[hold]at h;cases h
           |some old=>
            rw[hold]at h;simp only[BM]at h;cases hok:mr i.bytes (len+n)with
            |false=>rw[hok]at h;cases h
            |true=>
             rw[hok]at h;cases h;obtain⟨os,o1,o2,_,_,o5⟩:=no hH.drew hv hold (fun m hm=>by cases hm;exact Nat.le_refl _);refine grown old os W (0,0) hH rfl (.refl _ _ _ _) o2 (o5 _ _ _ rfl) o1 ?_ hok;rcases hcase with⟨hc,q⟩|⟨hc,_⟩|⟨hc,_⟩|⟨hc,q1,a',q⟩
             ·cases q;omega
             ·rw[hc]at hoc;cases hoc.1
             ·rw[hc]at hoc;cases hoc.1
             cases q;omega
         cases h
      cases h
    cases h
   cases h
theorem Lk{ats:Array TypeId}{ty:TypeId}{v x v' x':Value}{r:XR}(hH:HR P ρ W.get w)(hv:VR ρ v v')(hx:VR ρ x x')(h:Cl P W v x (gU P ats[0]?)=some r) :
 dS P ρ W w (do pure (.value (<-Builtin.copy_ ats ty #[v',x']))) r:=by
 cases h0:ats[0]? with
 |none=>rw[h0]at h;cases h
 |some t=>
  rw[h0]at h;simp only[gU]at h;unfold Cl at h;split at h
  ·rename_i el ht;split at h
   ·rename_i base n cap;unfold FV at h;split at h
    ·rename_i s m hs hm;obtain⟨base',cap',rfl⟩:=hv.sliceLen;have hlen:=E0 (P:=P) (w:=w) hx hm;cases hsrc:fg W s (Nat.min m n) x with
     |none=>rw[hsrc]at h;cases h
     |some src=>
      rw[hsrc]at h;simp only[A7]at h;obtain⟨us,f1,f2,f3,_,_⟩:=no hH hx hsrc (fun q hq=>by rw[hm]at hq;cases hq;exact Nat.min_le_left _ _);have run:∀w',(match base' with|some a=>storeCells a us|none=>pure ():Sem Unit).run P w=.ok () w'->(Builtin.copy_ ats ty #[.slice base' n cap',x']).run P w=.ok (goInt (Nat.min m n)) w':=fun w' hst=>by
       simp only[Builtin.copy_,h0,List.getElem?_toArray,List.getElem?_cons_zero,List.getElem?_cons_succ,ZO,bM ht,ZN,eT hs,hlen,f1];cases base' with
       |none=>
        simp only[Z0,Result.ok.injEq,true_and]at hst;subst hst;rfl
       |some a=>
        simp only at hst;simp only[ZO,hst,ZN,Z0]
      cases hk:Nat.beq (Nat.min m n) 0 with
      |true=>
       rw[hk]at h;cases h;have hk:=ZT hk;have hus:us=[]:=by
        have:src=[]:=by rw[hk]at hsrc;unfold fg at hsrc;split at hsrc<;>first|(cases hsrc;rfl)|(simp at hsrc;exact hsrc)|(cases hsrc)
        rw[this]at f2;cases f2;rfl
       subst hus;rw[hk]at run;exact xv (run w (by cases base'<;>rfl)) (.flat 1 _ rfl)
      |false=>
       rw[hk]at h;simp only[cond_false]at h;unfold Hu at h;split at h
       ·rename_i b o;cases hst:ir W b o src with
        |none=>rw[hst]at h;cases h
        |some W'=>
         rw[hst]at h;cases h;intro _;have hmn:0<n:=by
          have:Nat.min m n≠0:=fun e=>by rw[e]at hk;cases hk
          have h2:Nat.min m n<=n:=Nat.min_le_right m n;omega
         obtain⟨j,hr,hcase⟩:=hv.sliceInv;have key:base'=some ⟨j.b,o+j.s,none⟩:=by
          rcases hcase with⟨_,q⟩|⟨_,c,q,_⟩|⟨_,q,_⟩|⟨_,q,_⟩
          ·cases q;rfl
          ·cases q;rfl
          ·omega
          omega
         subst key;obtain⟨s1,s2,s3⟩:=mc hH hr hst f2;exact⟨_,ρ,_,gv (run _ s1),s3,s2,.flat 1 _ rfl⟩
       cases h
    cases h
   cases h
  cases h
theorem Q9{z:Array Value}{n:Nat}:Builtin.zeroCells z n=(rep z.toList n).toArray:=tS rfl
theorem HU{ats:Array TypeId}{ty:TypeId}{v v':Value}{r:XR}(hH:HR P ρ W.get w)(hv:VR ρ v v')(h:GI P W v (gU P ats[0]?)=some r):dS P ρ W w (do pure (.value (<-Builtin.clear_ ats ty #[v']))) r:=by
 cases h0:ats[0]? with
 |none=>rw[h0]at h;cases h
 |some t=>
  rw[h0]at h;simp only[gU]at h;unfold GI at h;split at h
  ·rename_i el ht;split at h
   ·rename_i base n cap;obtain⟨base',cap',rfl⟩:=hv.sliceLen;cases hk:Nat.beq n 0 with
    |true=>
     rw[hk]at h;cases h;have hk:=ZT hk;subst hk;refine xv (u:=.tuple #[]) ?_ (.flat 1 _ rfl);simp only[Builtin.clear_,h0,List.getElem?_toArray,List.getElem?_cons_zero,ZO,bM ht,ZN];cases base'<;>rfl
    |false=>
     rw[hk]at h;simp only[cond_false]at h;have hn0:n≠0:=fun e=>by subst e;cases hk
     unfold My at h;split at h
     ·rename_i b o z hz;cases hst:ir W b o (rep z.cells.toList n)with
      |none=>rw[hst]at h;cases h
      |some W'=>
       rw[hst]at h;cases h;intro _;obtain⟨_,_,_,hf⟩:=gM hz;have hzc:=(VR.flat (ρ:=ρ) 8 z hf).cells;obtain⟨j,hr,hcase⟩:=hv.sliceInv;have key:base'=some ⟨j.b,o+j.s,none⟩:=by
        rcases hcase with⟨_,q⟩|⟨_,c,q,_⟩|⟨_,q,_⟩|⟨_,q,_⟩
        ·cases q;rfl
        ·cases q;rfl
        ·omega
        omega
       subst key;obtain⟨s1,s2,s3⟩:=mc hH hr hst (uL hzc n);refine⟨_,ρ,_,gv ?_,s3,s2,.flat 1 (.tuple #[]) rfl⟩;obtain⟨m,rfl⟩:=Nat.exists_eq_succ_of_ne_zero hn0;simp only[Builtin.clear_,h0,List.getElem?_toArray,List.getElem?_cons_zero,ZO,bM ht,ZN,iI hz,Q9,s1,Z0]
     cases h
   cases h
  cases h
theorem OC{ats:Array TypeId}{ty:TypeId}{v v':Value}{r:XR}(hH:HR P ρ W.get w)(hv:VR ρ v v')(h:fm W v (gU P ats[0]?)=some r):dS P ρ W w (do pure (.value (<-Builtin.len_ ats ty #[v']))) r:=by
 cases h0:ats[0]? with
 |none=>rw[h0]at h;cases h
 |some t=>
  rw[h0]at h;simp only[gU]at h;unfold fm at h;split at h
  ·rename_i el ht;split at h
   ·rename_i a n c;cases h;obtain⟨base',cap',rfl⟩:=hv.sliceLen;refine xv (u:=goInt n) ?_ (.flat 1 _ rfl);simp only[Builtin.len_,h0,List.getElem?_toArray,List.getElem?_cons_zero,ZO,bM ht,ZN,Z0]
   ·rename_i n nm cs cc;cases h;refine xv (u:=goInt n) ?_ (.flat 1 _ rfl);obtain⟨_,_,⟨b,off,cap,c',e',f',_,_,rfl,_⟩|⟨_,rfl,a,c,rfl⟩⟩:=hv.fzInv<;>simp only[Builtin.len_,h0,List.getElem?_toArray,List.getElem?_cons_zero,ZO,bM ht,ZN,Z0]
   cases h
  ·rename_i kt el ht;unfold kl at h;split at h
   ·cases h;have:=hv.of_flat 1 rfl;subst this;refine xv (u:=goInt 0) ?_ (.flat 1 _ rfl);simp only[Builtin.len_,h0,List.getElem?_toArray,List.getElem?_cons_zero,ZO,bM ht,ZN,Z0]
   ·rename_i n;obtain⟨i,hr,rfl⟩:=hv.mapInv;split at h
    ·rename_i es c hg;cases h;obtain⟨ob,h1,h2⟩:=hH.obj n i _ hr hg;cases h2 with
     |map _ es' _ hes=>
      refine xv (u:=goInt es'.length) ?_ ?_
      ·simp only[Builtin.len_,h0,List.getElem?_toArray,List.getElem?_cons_zero,ZO,bM ht,ZN];simp only[getObj,Sem.run,h1,ZN];rfl
      rw[hes.length];exact .flat 1 _ rfl
    cases h
   cases h
  ·rename_i ht;split at h
   ·cases h;have:=hv.str;subst this;refine xv (u:=goInt _) ?_ (.flat 1 _ rfl);simp only[Builtin.len_,h0,List.getElem?_toArray,List.getElem?_cons_zero,ZO,bM ht,ZN,Z0]
   cases h
  ·rename_i n el ht;cases h;refine xv (u:=goInt n) ?_ (.flat 1 _ rfl);simp only[Builtin.len_,h0,List.getElem?_toArray,List.getElem?_cons_zero,ZO,bM ht,ZN,Z0]
  cases h
end
section
variable {P:Program} {ρ:Ren} {W:XW} {w:World} {fr:XF} {e:Operand->Value}
theorem kI{α β:Type}:∀(S:Sem α) (f:α->Sem β),bQ P (S.bind f)=(bQ P S).bind fun a=>bQ P (f a)
 |.pure a,f=>rfl
 |.program k,f=>by simp only[Sem.bind,bQ];exact kI (k P) f
 |.mark _ k,f=>by simp only[Sem.bind,bQ];exact kI k f
 |.choose q k,f=>by
  simp only[Sem.bind,bQ];cases q.forced with
  |true=>simp only[cond_true];exact kI (k 0) f
  |false=>rfl
 |.load _ _ _,_=>rfl
 |.store _ _ _ _,_=>rfl
 |.new _ _,_=>rfl
 |.shape _ _,_=>rfl
 |.freeze _ _ _,_=>rfl
 |.frozen _ _,_=>rfl
 |.getObj _ _,_=>rfl
 |.setObj _ _ _,_=>rfl
 |.sys _ _,_=>rfl
 |.halt _,_=>rfl
theorem ci{α β:Type}(S:Sem α)(f:α->Sem β):bQ P (S >>= f)=(bQ P S).bind fun a=>bQ P (f a):=kI S f
inductive FK(ρ:Ren):Option (Nat×Value)->Option (Nat×Value)->Prop
 |none:FK ρ none none
 |some (i:Nat) (v v':Value) (h:VR ρ v v'):FK ρ (some (i,v)) (some (i,v'))
theorem vb{d:TypeDesc}{k:Value}:∀{es es':List MapEntry},fx ρ es es'->es.all (fun e=>dw e.key)=true->∀i,
 (Instr.findNow d k es i=none/\Instr.findNow d k es' i=none)\/∃r r',Instr.findNow d k es i=some r/\Instr.findNow d k es' i=some r'/\FK ρ r r'
 |_,_,.nil,_,i=>.inr ⟨none,none,rfl,rfl,.none⟩
 |_,_,.cons e e' l l' hk hv hb hs,h,i=>by
  simp only[List.all_cons,ZX]at h;have hkk:=hk.flatEq h.1;unfold Instr.findNow;rw[hkk];cases Instr.sameNow d k e.key with
  |none=>exact .inl ⟨rfl,rfl⟩
  |some b=>
   cases b with
   |true=>exact .inr ⟨_,_,rfl,rfl,.some i _ _ hv⟩
   |false=>exact vb hs h.2 (i+1)
theorem qx{kt:TypeId}{k:Value}(w:World):∀{es es':List MapEntry},fx ρ es es'->es.all (fun e=>dw e.key)=true->∀i r,bQ P (Instr.findAsking kt k es i)=some r ->
 ∃r',(Instr.findAsking kt k es' i).run P w=.ok r' w/\FK ρ r r'
 |_,_,.nil,_,i,r,h=>by
  unfold Instr.findAsking at h;cases h;exact⟨none,rfl,.none⟩
 |_,_,.cons e e' l l' hk hv hb hs,hf,i,r,h=>by
  simp only[List.all_cons,ZX]at hf;have hkk:=hk.flatEq hf.1;unfold Instr.findAsking at h ⊢;rw[ci]at h;rw[hkk,ZO];cases hq:bQ P (Op.equal kt k e.key)with
  |none=>rw[hq]at h;cases h
  |some b=>
   rw[hq]at h;rw[jX hq,ZN];cases b with
   |true=>
    cases h;exact⟨_,rfl,.some i _ _ hv⟩
   |false=>exact qx w hs hf.2 (i+1) r h
theorem pF{kt:TypeId}{k:Value}{es es':List MapEntry}{r:Option (Nat×Value)}(hes:fx ρ es es')(h:gH P kt k es=some r):∃r',(Instr.findKey kt k es').run P w=.ok r' w/\FK ρ r r':=by
 unfold gH at h;cases hf:es.all (fun e=>dw e.key)with
 |false=>rw[hf]at h;cases h
 |true=>
  rw[hf]at h;simp only[cond_true]at h;unfold Instr.findKey at h ⊢;rw[ci]at h;rw[ZO];cases hu:bQ P (underlying kt)with
  |none=>rw[hu]at h;cases h
  |some d=>
   rw[hu]at h;rw[jX hu,ZN];simp only[Option.bind_some]at h;rcases vb (d:=d) (k:=k) hes hf 0 with⟨q1,q2⟩|⟨r1,r2,q1,q2,q3⟩
   ·rw[q1]at h;rw[q2];exact qx w hes hf 0 r h
   rw[q1]at h;rw[q2];cases h;exact⟨r2,rfl,q3⟩
theorem pK{kt:TypeId}{k:Value}{b:Bool}(h:ia P kt k b=true):dw k=true/\(Instr.checkKey b 10000 kt k).run P w=.ok () w:=by
 unfold ia at h;simp only[ZX]at h;refine⟨h.1,?_⟩;cases hq:bQ P (Instr.checkKey b 10000 kt k)with
 |none=>rw[hq]at h;cases h.2
 |some u=>exact jX hq w
theorem ru{es es':List MapEntry}(h:fx ρ es es'):es'.toArray.isEmpty=es.isEmpty:=by
 cases h with
 |nil=>rfl
 |cons=>rfl
theorem nV(hH:HR P ρ W.get w){n c:Nat}{i:RI}{es:List MapEntry}(hr:ρ n=some i)(hg:W.get n=some (.map es c)):∃es':List MapEntry,w.heap[i.b]?=some (.map es'.toArray c)/\fx ρ es es':=by
 obtain⟨ob,h1,h2⟩:=hH.obj n i _ hr hg;cases h2 with
 |map _ es' _ h=>exact⟨es',h1,h⟩
theorem eH{b:Nat}{es:Array MapEntry}{c:Nat}(h:w.heap[b]?=some (.map es c)):(getObj b).run P w=.ok (.map es c) w:=by
 simp only[getObj,Sem.run,h]
def Y6(ok:Bool)(z:Value):Option (Nat×Value)->Value
 |some (_,v)=>pr ok v true
 |none=>pr ok z false
theorem GB{t kt el:TypeId}{x k z:Value}{ok:Bool}{es:List MapEntry}{q:Option (Nat×Value)}(ht:P.underlying t=some (.map kt el))(hz:bE P el=some z)
 (hx:(x=.map none/\es=[])\/∃b c,x=.map (some b)/\w.heap[b]?=some (.map es.toArray c)) (hc:(Instr.checkKey es.toArray.isEmpty 10000 kt k).run P w=.ok () w) (hf:(Instr.findKey kt k es).run P w=.ok q w) :
 (Instr.lookup t x k ok).run P w=.ok (Y6 ok z q) w:=by
 unfold Instr.lookup;rw[ZO,bM ht,ZN];rcases hx with⟨rfl,rfl⟩|⟨b,c,rfl,hb⟩
 ·simp only[ZO,Z0,ZN];rw[hc,ZN,hf,ZN];cases q with
  |none=>
   simp only[ZO,iI hz,Z0,ZN];cases ok<;>rfl
  |some q=>
   simp only[ZO,Z0,ZN];cases ok<;>rfl
 simp only[ZO,Z0,ZN,eH hb];rw[hc,ZN,hf,ZN];cases q with
 |none=>
  simp only[ZO,iI hz,Z0,ZN];cases ok<;>rfl
 |some q=>
  simp only[ZO,Z0,ZN];cases ok<;>rfl
theorem x4{ok b:Bool}{v v':Value}(hv:VR ρ v v'):VR ρ (pr ok v b) (pr ok v' b):=by
 cases ok with
 |false=>exact hv
 |true=>exact .tuple [_,_] [_,_] (.cons _ _ _ _ hv (.cons _ _ _ _ (.flat 1 _ rfl) .nil))
theorem Hk{t:TypeId}{m k:Operand}{ok:Bool}{r:XR}(hH:HR P ρ W.get w)(hE:Ev ρ fr e)(h:zd P W ok (P.underlying t) (ev fr m) (ev fr k)=some r):dS P ρ W w (do pure (.value (<-Instr.lookup t (e m) (e k) ok))) r:=by
 unfold zd at h;split at h
 ·rename_i kt el mv kv ht hm hk;unfold jJ at h;split at h
  ·rename_i es c z hmg hz;cases hko:ia P kt kv es.isEmpty with
   |false=>rw[hko]at h;cases h
   |true=>
    rw[hko]at h;simp only[cond_true]at h;obtain⟨hkf,hck⟩:=pK (w:=w) hko;have hke:=(hE k _ hk).flatEq hkf;obtain⟨_,_,_,hzf⟩:=gM hz;have main:∀es':List MapEntry,fx ρ es es'->((e m=.map none/\es'=[])\/∃b c,e m=.map (some b)/\w.heap[b]?=some (.map es'.toArray c))->dS P ρ W w (do pure (.value (<-Instr.lookup t (e m) (e k) ok))) r:=fun es' hes hx=>by
     cases hfx:gH P kt kv es with
     |none=>rw[hfx]at h;cases h
     |some q=>
      rw[hfx]at h;obtain⟨r',f1,f2⟩:=pF (w:=w) hes hfx;have hrun:=GB (ok:=ok) (k:=e k) ht hz hx (by rw[hke,ru hes];exact hck) (by rw[hke];exact f1);cases f2 with
      |none=>cases h;exact xv hrun (x4 (.flat 8 _ hzf))
      |some i v v' hv=>cases h;exact xv hrun (x4 hv)
    unfold kl at hmg;split at hmg
    ·cases hmg;exact main [] .nil (.inl ⟨(hE m _ hm).of_flat 1 rfl,rfl⟩)
    ·rename_i n;obtain⟨i,hr,hme⟩:=(hE m _ hm).mapInv;split at hmg
     ·rename_i es2 c2 hg;cases hmg;obtain⟨es',g1,g2⟩:=nV hH hr hg;exact main es' g2 (.inr ⟨_,_,hme,g1⟩)
     cases hmg
    cases hmg
  cases h
 cases h
def ii(w:World)(b:Nat)(o:Obj):World:={ w with heap:=w.heap.setIfInBounds b o }
theorem iB(w:World)(b:Nat)(o:Obj):aK (fun k=>k=b) w (ii w b o):=
 ⟨rfl,rfl,rfl,by simp[ii],fun k hk hn=>by
  show(w.heap.setIfInBounds b o)[k]?=_;rw[aaD (fun e=>hn e.symm)]⟩
theorem kL{b:Nat}{o o':Obj}(h:w.heap[b]?=some o'):(ii w b o).heap[b]?=some o:=by
 have:=gg h;show(w.heap.setIfInBounds b o)[b]?=_;rw[aa1,if_pos this]
theorem ja{b:Nat}{es:Array MapEntry}{c:Nat}{o:Obj}(h:w.heap[b]?=some (.map es c)):(setObj b o).run P w=.ok () (ii w b o):=by
 simp only[setObj,Sem.run,h,ii]
theorem fx.get{ρ:Ren}:∀{l l':List MapEntry},fx ρ l l'->∀(i:Nat) (e:MapEntry),l[i]?=some e->∃e':MapEntry,l'[i]?=some e'/\VR ρ e.key e'.key/\VR ρ e.val e'.val/\e'.born=e.born
 |_,_,.nil,i,e,h=>by simp at h
 |_,_,.cons a a' l l' hk hv hb hs,0,e,h=>by simp at h;subst h;exact⟨a',rfl,hk,hv,hb⟩
 |_,_,.cons a a' l l' hk hv hb hs,i+1,e,h=>by simpa using hs.get i e (by simpa using h)
theorem fx.set{ρ:Ren}:∀{l l':List MapEntry},fx ρ l l'->∀i {e e':MapEntry},VR ρ e.key e'.key->VR ρ e.val e'.val->e'.born=e.born->fx ρ (l.set i e) (l'.set i e')
 |_,_,.nil,i,e,e',_,_,_=>.nil
 |_,_,.cons a a' l l' hk hv hb hs,0,e,e',h1,h2,h3=>.cons _ _ _ _ h1 h2 h3 hs
 |_,_,.cons a a' l l' hk hv hb hs,i+1,e,e',h1,h2,h3=>.cons _ _ _ _ hk hv hb (hs.set i h1 h2 h3)
theorem fx.append{ρ:Ren}:∀{l l' m m':List MapEntry},fx ρ l l'->fx ρ m m'->fx ρ (l++m) (l'++m')
 |_,_,_,_,.nil,k=>k
 |_,_,_,_,.cons a a' l l' hk hv hb hs,k=>.cons _ _ _ _ hk hv hb (hs.append k)
theorem fx.erase{ρ:Ren}:∀{l l':List MapEntry},fx ρ l l'->∀i,fx ρ (l.eraseIdx i) (l'.eraseIdx i)
 |_,_,.nil,i=>.nil
 |_,_,.cons a a' l l' hk hv hb hs,0=>hs
 |_,_,.cons a a' l l' hk hv hb hs,i+1=>.cons _ _ _ _ hk hv hb (hs.erase i)
theorem ub{l:List MapEntry}{i:Nat}{e:MapEntry}(f:MapEntry->MapEntry)(h:l[i]?=some e):l.toArray.modify i f=(l.set i (f e)).toArray:=by
 apply Array.ext';apply aao;intro j;rw[aar,aaH];show _=(l.set i (f e))[j]?;rw[List.getElem?_set];by_cases hj:i=j
 ·subst hj;obtain⟨h1,h2⟩:=List.getElem?_eq_some_iff.1 h;simp[h1,h2]
 simp[hj]
theorem zw{old new:Value}(h:gC old new=true):(Instr.keyThatStays old new).run P w=.ok new w:=by
 unfold gC at h;simp only[ZX]at h;unfold Instr.keyThatStays;rw[if_pos h.2];rfl
theorem CP{S:Sem Unit}{n c c2:Nat}{i:RI}{es es2 es' es2':List MapEntry}{v:Value}(hv:v=undef)(hH:HR P ρ W.get w)(hr:ρ n=some i)(hg:W.get n=some (.map es c))(hb:w.heap[i.b]?=some (.map es'.toArray c))(h2:fx ρ es2 es2')
 (hS:S.run P w=.ok () (ii w i.b (.map es2'.toArray c2))):dS P ρ W w (do S;pure .skip) (.mod v (W.put n (some (.map es2 c2)))):=fun _=>by
 subst hv;obtain⟨q1,q2⟩:=hH.put hr (by rw[hg];simp) (.map es2 c2) (iB w i.b _) (kL hb) (.map es2 es2' c2 h2);exact⟨undef,ρ,_,gu hS,q2,q1,oF⟩
theorem yq{S:Sem Value}{n c c2:Nat}{i:RI}{es es2 es' es2':List MapEntry}{v v':Value}(hv:VR ρ v v')(hH:HR P ρ W.get w)(hr:ρ n=some i)(hg:W.get n=some (.map es c))(hb:w.heap[i.b]?=some (.map es'.toArray c))(h2:fx ρ es2 es2')
 (hS:S.run P w=.ok v' (ii w i.b (.map es2'.toArray c2))):dS P ρ W w (do pure (.value (<-S))) (.mod v (W.put n (some (.map es2 c2)))):=fun _=>by
 obtain⟨q1,q2⟩:=hH.put hr (by rw[hg];simp) (.map es2 c2) (iB w i.b _) (kL hb) (.map es2 es2' c2 h2);exact⟨v',ρ,_,gv hS,q2,q1,hv⟩
theorem xb{t:TypeId}{m k x:Operand}{r:XR}(hH:HR P ρ W.get w)(hE:Ev ρ fr e)(h:we P W (P.underlying t) (ev fr m) (ev fr k) (ev fr x)=some r):dS P ρ W w (do Instr.mapUpdate t (e m) (e k) (e x);pure .skip) r:=by
 unfold we at h;split at h
 ·rename_i kt el n kv v ht hm hk hx;unfold jh at h;split at h
  ·rename_i es c hg;cases hko:ia P kt kv false with
   |false=>rw[hko]at h;cases h
   |true=>
    rw[hko]at h;simp only[cond_true]at h;obtain⟨hkf,hck⟩:=pK (w:=w) hko;have hke:=(hE k _ hk).flatEq hkf;have hxe:=hE x _ hx;obtain⟨i,hr,hme⟩:=(hE m _ hm).mapInv;obtain⟨es',g1,g2⟩:=nV hH hr hg;cases hfx:gH P kt kv es with
    |none=>rw[hfx]at h;cases h
    |some q=>
     rw[hfx]at h;obtain⟨r',f1,f2⟩:=pF (w:=w) g2 hfx;cases f2 with
     |none=>
      cases h;refine CP rfl hH hr hg g1 (g2.append (.cons ⟨kv,v,c⟩ ⟨kv,e x,c⟩ _ _ (.flat 8 _ hkf) hxe rfl .nil)) ?_;unfold Instr.mapUpdate;rw[hme,hke];simp only[ZO,bM ht,ZN,eH g1,hck,f1,Z0];rw[ja g1];simp
     |some j u u' hu=>
      simp only[rD]at h;cases hj:es[j]? with
      |none=>rw[hj]at h;cases h
      |some en=>
       rw[hj]at h;simp only[wn]at h;cases hks:gC en.key kv with
       |false=>rw[hks]at h;cases h
       |true=>
        rw[hks]at h;cases h;obtain⟨en',e1,e2,e3,e4⟩:=g2.get j en hj;have hkeq:en'.key=en.key:=e2.flatEq (by unfold gC at hks;simp only[ZX]at hks;exact hks.1);refine CP rfl hH hr hg g1 (g2.set j (e:=⟨kv,v,en.born⟩) (e':=⟨kv,e x,en'.born⟩) (.flat 8 _ hkf) hxe e4) ?_;unfold Instr.mapUpdate;rw[hme,hke];have hst:(Instr.keyThatStays (((es'.toArray[j]?).map (·.key)).getD kv) kv).run P w=.ok kv w:=by rw[List.getElem?_toArray,e1];simp only[ZW,aaJ,hkeq];exact zw hks
        simp only[ZO,bM ht,ZN,eH g1,hck,f1,hst,Z0];rw[ja g1,ub _ e1]
  cases h
 cases h
theorem CW{t:TypeId}{m k:Operand}{r:XR}(hH:HR P ρ W.get w)(hE:Ev ρ fr e)(h:BT P W (P.underlying t) (ev fr m) (ev fr k)=some r):dS P ρ W w (do pure (.value (<-Instr.mapEntry t (e m) (e k)))) r:=by
 unfold BT at h;split at h
 ·rename_i kt el n kv ht hm hk;unfold Lc at h;split at h
  ·rename_i es c z hg hz;cases hko:ia P kt kv false with
   |false=>rw[hko]at h;cases h
   |true=>
    rw[hko]at h;simp only[cond_true]at h;obtain⟨hkf,hck⟩:=pK (w:=w) hko;have hke:=(hE k _ hk).flatEq hkf;obtain⟨i,hr,hme⟩:=(hE m _ hm).mapInv;obtain⟨es',g1,g2⟩:=nV hH hr hg;obtain⟨_,_,_,hzf⟩:=gM hz;cases hfx:gH P kt kv es with
    |none=>rw[hfx]at h;cases h
    |some q=>
     rw[hfx]at h;obtain⟨r',f1,f2⟩:=pF (w:=w) g2 hfx;cases f2 with
     |none=>
      cases h;refine yq (v':=.tuple #[z,goInt c]) (.tuple [_,_] [_,_] (.cons _ _ _ _ (.flat 8 _ hzf) (.cons _ _ _ _ (.flat 1 _ rfl) .nil))) hH hr hg g1 (g2.append (.cons ⟨kv,z,c⟩ ⟨kv,z,c⟩ _ _ (.flat 8 _ hkf) (.flat 8 _ hzf) rfl .nil)) ?_;unfold Instr.mapEntry;rw[hme,hke];simp only[ZO,bM ht,ZN,eH g1,hck,f1,Z0,iI hz];rw[ja g1];simp
     |some j u u' hu=>
      simp only[ME]at h;cases hj:es[j]? with
      |none=>rw[hj]at h;cases h
      |some en=>
       rw[hj]at h;simp only[Lt]at h;cases hks:gC en.key kv with
       |false=>rw[hks]at h;cases h
       |true=>
        rw[hks]at h;cases h;obtain⟨en',e1,e2,e3,e4⟩:=g2.get j en hj;have hkeq:en'.key=en.key:=e2.flatEq (by unfold gC at hks;simp only[ZX]at hks;exact hks.1);refine yq (v':=.tuple #[u',goInt en'.born]) (.tuple [_,_] [_,_] (.cons _ _ _ _ hu (.cons _ _ _ _ (by rw[e4];exact .flat 1 _ rfl) .nil))) hH hr hg g1 (g2.set j (e:=⟨kv,en.val,en.born⟩) (e':=⟨kv,en'.val,en'.born⟩) (.flat 8 _ hkf) e3 e4) ?_;unfold Instr.mapEntry;rw[hme,hke];have hst:(Instr.keyThatStays (((es'.toArray[j]?).map (·.key)).getD kv) kv).run P w=.ok kv w:=by rw[List.getElem?_toArray,e1];simp only[ZW,aaJ,hkeq];exact zw hks
        simp only[ZO,bM ht,ZN,eH g1,hck,f1,hst,Z0];rw[ja g1,ub _ e1,List.getElem?_toArray,e1];rfl
  cases h
 cases h
end
section
variable {P:Program} {ρ:Ren} {W:XW} {w:World} {fr:XF} {e:Operand->Value}
theorem Gv{ats:Array TypeId}{ty:TypeId}{m k m' k':Value}{r:XR}(hH:HR P ρ W.get w)(hm:VR ρ m m')(hk:VR ρ k k')(h:GM P W m k (gU P ats[0]?)=some r):dS P ρ W w (do pure (.value (<-Builtin.delete_ ats ty #[m',k']))) r:=by
 cases h0:ats[0]? with
 |none=>rw[h0]at h;cases h
 |some t=>
  rw[h0]at h;simp only[gU]at h;unfold GM at h;split at h
  ·rename_i kt el ht;split at h
   ·rename_i n;unfold M1 at h;split at h
    ·rename_i es c hg;cases hko:ia P kt k es.isEmpty with
     |false=>rw[hko]at h;cases h
     |true=>
      rw[hko]at h;simp only[cond_true]at h;obtain⟨hkf,hck⟩:=pK (w:=w) hko;have hke:=hk.flatEq hkf;obtain⟨i,hr,rfl⟩:=hm.mapInv;obtain⟨es',g1,g2⟩:=nV hH hr hg;cases hfx:gH P kt k es with
      |none=>rw[hfx]at h;cases h
      |some q=>
       rw[hfx]at h;obtain⟨r',f1,f2⟩:=pF (w:=w) g2 hfx;have hck':(Instr.checkKey es'.toArray.isEmpty 10000 kt k').run P w=.ok () w:=by rw[hke,ru g2];exact hck
       rw[<-hke]at f1;cases f2 with
       |none=>
        cases h;refine⟨.tuple #[],.inl ?_,fun x hx=>by cases hx;exact .flat 1 _ rfl⟩;have hid:ii w i.b (.map es'.toArray c)=w:=by
         have hlt:=gg g1;have hx:w.heap.setIfInBounds i.b (.map es'.toArray c)=w.heap:=by
          apply Array.ext_getElem?;intro j;by_cases hj:i.b=j
          ·subst hj;rw[aa1,if_pos hlt,g1]
          rw[aaD hj]
         unfold ii;rw[hx]
        rw[ZO];simp only[Builtin.delete_,h0,List.getElem?_toArray,List.getElem?_cons_zero,List.getElem?_cons_succ,ZO,bM ht,ZN,eH g1,hck',f1,ja g1,hid,Z0]
       |some j u u' hu=>
        cases h;refine yq (v':=.tuple #[]) (.flat 1 _ rfl) hH hr hg g1 (g2.erase j) ?_;simp only[Builtin.delete_,h0,List.getElem?_toArray,List.getElem?_cons_zero,List.getElem?_cons_succ,ZO,bM ht,ZN,eH g1,hck',f1,ja g1,Z0];rw[List.eraseIdxIfInBounds_toArray]
    cases h
   cases h
  cases h
theorem fx.findIdx{ρ:Ren}{born:Int}:∀{l l':List MapEntry},fx ρ l l'->l'.findIdx? (fun e=>(e.born:Int)==born)=l.findIdx? (fun e=>(e.born:Int)==born)
 |_,_,.nil=>rfl
 |_,_,.cons a a' l l' hk hv hb hs=>by rw[List.findIdx?_cons,List.findIdx?_cons,hb,hs.findIdx]
theorem yA{t:TypeId}{m s x:Operand}{r:XR}(hH:HR P ρ W.get w)(hE:Ev ρ fr e)(h:Dl W (ev fr m) (ev fr s) (ev fr x)=some r):dS P ρ W w (do Instr.entryStore t (e m) (e s) (e x);pure .skip) r:=by
 unfold Dl at h;split at h
 ·rename_i n k born v hm hs hx;unfold MX at h;split at h
  ·rename_i es c hg;have hse:=(hE s _ hs).int;have hxe:=hE x _ hx;obtain⟨i,hr,hme⟩:=(hE m _ hm).mapInv;obtain⟨es',g1,g2⟩:=nV hH hr hg;cases hf:es.findIdx? (fun e=>(e.born:Int)==born)with
   |none=>rw[hf]at h;cases h
   |some j=>
    rw[hf]at h;simp only[Mw]at h;cases hj:es[j]? with
    |none=>rw[hj]at h;cases h
    |some en=>
     rw[hj]at h;cases h;obtain⟨en',e1,e2,e3,e4⟩:=g2.get j en hj;refine CP rfl hH hr hg g1 (g2.set j (e:=⟨en.key,v,en.born⟩) (e':=⟨en'.key,e x,en'.born⟩) e2 hxe e4) ?_;unfold Instr.entryStore;rw[hme,hse];have hfi:es'.toArray.findIdx? (fun e=>(e.born:Int)==born)=some j:=by rw[List.findIdx?_toArray,g2.findIdx,hf]
     simp only[ZO,ZN,eH g1,asInt,asIntOf,Z0,hfi];rw[ja g1,ub _ e1]
  cases h
 cases h
theorem jD{b:Nat}{q:Option Nat}{since stepped:Nat}{seen:Array Nat}(h:w.heap[b]?=some (.mapIter q since seen stepped)):(getObj b).run P w=.ok (.mapIter q since seen stepped) w:=by
 simp only[getObj,Sem.run,h]
theorem Cc(hH:HR P ρ W.get w){n m since stepped:Nat}{seen:List Nat}{i:RI}(hr:ρ n=some i)(hg:W.get n=some (.iter m since seen stepped)):∃q,ρ m=some q/\w.heap[i.b]?=some (.mapIter (some q.b) since seen.toArray stepped)/\i.s=0:=by
 obtain⟨ob,h1,h2⟩:=hH.obj n i _ hr hg;cases h2 with
 |iter _ _ _ _ q h hs=>exact⟨q,h,h1,hs⟩
theorem IV{t:TypeId}{x:Operand}{r:XR}(hH:HR P ρ W.get w)(hE:Ev ρ fr e)(h:ua W (P.underlying t) (ev fr x)=some r):dS P ρ W w (do pure (.value (<-Instr.range t (e x)))) r:=by
 unfold ua at h;split at h
 ·rename_i kt el n ht hx;unfold vZ at h;split at h
  ·rename_i es c hg;cases h;obtain⟨i,hr,hxe⟩:=(hE x _ hx).mapInv;obtain⟨es',g1,g2⟩:=nV hH hr hg;refine ym (i:=⟨w.heap.size,0,0,0,0⟩) hH rfl (u:=.pointer (some ⟨w.heap.size,0,none⟩)) ?_ (fun hn=>.iter n c [] c i (il _ hn _ _ hr) rfl) yN;unfold Instr.range;rw[hxe];simp only[ZO,bM ht,ZN,eH g1,Z0];rfl
  cases h
 cases h
theorem fx.filter{ρ:Ren}{p:Nat->Bool}:∀{l l':List MapEntry},fx ρ l l'->fx ρ (l.filter fun e=>p e.born) (l'.filter fun e=>p e.born)
 |_,_,.nil=>.nil
 |_,_,.cons a a' l l' hk hv hb hs=>by
  rw[aaV,aaV,hb];cases p a.born with
  |true=>exact .cons _ _ _ _ hk hv hb hs.filter
  |false=>exact hs.filter
theorem fx.all{ρ:Ren}{p:Nat->Bool}:∀{l l':List MapEntry},fx ρ l l'->(l'.all fun e=>p e.born)=(l.all fun e=>p e.born)
 |_,_,.nil=>rfl
 |_,_,.cons a a' l l' hk hv hb hs=>by rw[List.all_cons,List.all_cons,hb,hs.all]
theorem BD{seen:List Nat}:(fun e:MapEntry=>!seen.toArray.contains e.born)=ib seen:=by
 funext e;unfold ib;congr 1;rw[List.contains_toArray]
 induction seen with
 |nil=>rfl
 |cons a l ih=>
  rw[List.contains_cons,List.any_cons,ih];congr 1;cases q:Nat.beq a e.born with
  |true=>have:=ZT q;subst this;simp
  |false=>
   have:a≠e.born:=fun h=>by subst h;rw[ZY]at q;cases q
   simp;exact fun h=>this h.symm
theorem L3{x:Operand}{s:Bool}{ty:TypeId}{r:XR}(hH:HR P ρ W.get w)(hE:Ev ρ fr e)(h:C2 W s (ev fr x)=some r):dS P ρ W w (do pure (.value (<-Instr.next (e x) s ty))) r:=by
 unfold C2 at h;split at h
 ·rename_i n hx;unfold Mq at h;split at h
  ·rename_i m since seen last hg;unfold Lm at h;split at h
   ·rename_i es c hgm;obtain⟨i,hr,hxe⟩:=(hE x _ hx).ptrInv;obtain⟨q,hq,hit,hs0⟩:=Cc hH hr hg;obtain⟨es',g1,g2⟩:=nV hH hq hgm;cases hc:(!seen.isEmpty&&!es.isEmpty&&es.all (fun e=>Nat.ble last e.born))with
    |true=>rw[hc]at h;cases h
    |false=>
     rw[hc]at h;simp only[cond_false]at h;have hc':(!seen.toArray.isEmpty&&!es'.toArray.isEmpty&&es'.toArray.all (fun e=>decide (e.born>=last)))=false:=by
      rw[<-hc,ru g2,List.isEmpty_toArray,List.all_toArray];congr 1;have:(fun e:MapEntry=>decide (e.born>=last))=fun e=>Nat.ble last e.born:=by
       funext e;cases h1:Nat.ble last e.born with
       |true=>exact decide_eq_true (Nat.le_of_ble_eq_true h1)
       |false=>exact decide_eq_false fun h2=>by rw[Nat.ble_eq_true_of_le h2]at h1;cases h1
      rw[this];exact g2.all (p:=fun b=>Nat.ble last b)
     have hleft:es'.toArray.filter (fun e=>!seen.toArray.contains e.born)=(es'.filter (ib seen)).toArray:=by rw[BD,List.filter_toArray]
     have hfil:=g2.filter (p:=fun b=>!(seen.any fun n=>Nat.beq n b));have hfe:(es.filter fun e=>!(seen.any fun n=>Nat.beq n e.born))=es.filter (ib seen):=rfl;have hfe':(es'.filter fun e=>!(seen.any fun n=>Nat.beq n e.born))=es'.filter (ib seen):=rfl;rw[hfe,hfe']at hfil;rw[Nat.zero_add,hs0]at hxe;unfold LA at h;split at h
     ·rename_i hnil;rw[hnil]at hfil;generalize he':es'.filter (ib seen)=L at hfil hleft;cases hfil;cases h;refine xv (u:=.tuple #[.bool false]) ?_ (.flat 8 _ rfl);unfold Instr.next;rw[hxe];simp only[ZO,ZN,jD hit,eH g1];rw[if_neg (by rw[hc'];exact aag)];simp only[ZO,Z0,ZN,hleft];simp[choose,Sem.run,Question.forced]
     ·rename_i en hone;rw[hone]at hfil;generalize he':es'.filter (ib seen)=L at hfil hleft;cases hfil with
      |cons _ en' _ _ hk hv hb hs'=>
       cases hs';cases hlt:Nat.blt en.born since with
       |false=>rw[hlt]at h;cases h
       |true=>
        rw[hlt]at h;cases h;have hlt':en'.born<since:=by rw[hb];exact Nat.le_of_ble_eq_true hlt
        intro _;obtain⟨r1,r2⟩:=hH.put hr (by rw[hg];simp) (.iter m since (seen++[en.born]) c) (iB w i.b (.mapIter (some q.b) since (seen++[en.born]).toArray c)) (kL hit) (.iter _ _ _ _ q hq hs0);refine⟨.tuple #[.bool true,en'.key,en'.val],ρ,_,gv ?_,r2,r1,.tuple [_,_,_] [_,_,_] (.cons _ _ _ _ (.flat 1 _ rfl) (.cons _ _ _ _ hk (.cons _ _ _ _ hv .nil)))⟩;unfold Instr.next;rw[hxe];simp only[ZO,ZN,jD hit,eH g1];rw[if_neg (by rw[hc'];exact aag)];have hold:(#[en'].filter fun e=>decide (e.born<since))=#[en']:=by simp[hlt']
        have hnew:(#[en'].filter fun e=>decide (e.born>=since))=#[]:=by simp;omega
        have hl2:es'.toArray.filter (fun e=>!seen.toArray.contains e.born)=#[en']:=hleft;simp only[ZO,Z0,ZN,hl2,hold,hnew];have hch:(choose (.mapNext ((if(#[en']:Array MapEntry).isEmpty=true then #[none]else #[])++(#[en']++#[]:Array MapEntry).map some).size)).run P w=.ok 0 w:=by simp[choose,Sem.run,Question.forced]
        rw[hch,ZN];have hst:∀o,(setObj i.b o).run P w=.ok () (ii w i.b o):=fun o=>by simp only[setObj,Sem.run,hit,ii]
        have hcand:((if(#[en']:Array MapEntry).isEmpty=true then #[none]else #[])++(#[en']++#[]:Array MapEntry).map some)[0]?=some (some en'):=by simp
        rw[hcand];simp only[];rw[ZO,hst,ZN,hb];rw[show seen.toArray.push en.born=(seen++[en.born]).toArray by simp];rfl
     cases h
   cases h
  cases h
 cases h
theorem Ka{x:Operand}{r:XR}(hH:HR P ρ W.get w)(hE:Ev ρ fr e)(h:t6 W (ev fr x)=some r):dS P ρ W w (do pure (.value (<-Instr.entry (e x)))) r:=by
 unfold t6 at h;split at h
 ·rename_i n hx;unfold wA at h;split at h
  ·rename_i m since seen stepped hg;unfold v8 at h;split at h
   ·rename_i es c st hgm hlast;obtain⟨i,hr,hxe⟩:=(hE x _ hx).ptrInv;obtain⟨q,hq,hit,hs0⟩:=Cc hH hr hg;obtain⟨es',g1,g2⟩:=nV hH hq hgm;rw[Nat.zero_add,hs0]at hxe;cases hc:Nat.beq c stepped with
    |false=>rw[hc]at h;cases h
    |true=>
     rw[hc]at h;simp only[cond_true]at h;have hcs:=ZT hc;subst hcs;have hfind:∀{l l':List MapEntry},fx ρ l l'->(l.find? (fun e=>Nat.beq e.born st)=none/\l'.find? (fun e=>e.born==st)=none)\/∃a a',l.find? (fun e=>Nat.beq e.born st)=some a/\l'.find? (fun e=>e.born==st)=some a'/\VR ρ a.key a'.key/\VR ρ a.val a'.val:=by
      intro l l' hl
      induction hl with
      |nil=>exact .inl ⟨rfl,rfl⟩
      |cons a a' l l' hk hv hb hs ih=>
       rw[List.find?_cons,List.find?_cons,hb];cases hq:Nat.beq a.born st with
       |true=>
        have:(a.born==st)=true:=by rw[ZT hq];simp
        rw[this];exact .inr ⟨a,a',rfl,rfl,hk,hv⟩
       |false=>
        have:(a.born==st)=false:=by
         cases hz:(a.born==st)with
         |false=>rfl
         |true=>rw[eq_of_beq hz,ZY]at hq;cases hq
        rw[this];exact ih
     rcases hfind g2 with⟨q1,q2⟩|⟨a,a',q1,q2,hk,hv⟩
     ·rw[q1]at h;cases h
     rw[q1]at h;cases h;refine xv (u:=.tuple #[a'.key,a'.val]) ?_ (.tuple [_,_] [_,_] (.cons _ _ _ _ hk (.cons _ _ _ _ hv .nil)));unfold Instr.entry;rw[hxe];have hback:seen.toArray.back?=some st:=by rw[List.back?_toArray];exact hlast
     have hfa:es'.toArray.find? (fun e=>e.born==st)=some a':=by rw[List.find?_toArray];exact q2
     simp only[ZO,ZN,jD hit,eH g1,hback];rw[if_neg (by simp)];simp only[ZO,Z0,ZN,hfa]
   cases h
  cases h
 cases h
theorem GU{x:Operand}{xt t:TypeId}{ok:Bool}{r:XR}(hE:Ev ρ fr e)(h:BY P t ok (ev fr x) (P.underlying t)=some r):dS P ρ W w (do pure (.value (<-Instr.typeAssert (e x) xt t ok))) r:=by
 unfold BY at h;split at h
 ·cases h
 ·rename_i u v d hni hx hud;obtain⟨v',hxe,hv⟩:=(hE x _ hx).ifaceInv;have notI:∀ms,d≠.interface ms:=fun ms e=>hni ms e
  cases hq:Nat.beq u t with
  |true=>
   rw[hq]at h;cases h;have:=ZT hq;subst this;refine xv (u:=pr ok v' true) ?_ (x4 hv);unfold Instr.typeAssert;rw[hxe,ZO,bM hud,ZN];cases d<;>first|exact absurd rfl (notI _)|skip
   all_goals
    simp only[];rw[if_pos trivial];cases ok<;>rfl
  |false=>
   rw[hq]at h;simp only[cond_false]at h;have hne:u≠t:=fun e=>by subst e;rw[ZY]at hq;cases hq
   unfold Ha at h;split at h
   ·rename_i z hz;cases h;obtain⟨_,_,_,hzf⟩:=gM hz;refine xv (u:=.tuple #[z,.bool false]) ?_ (.tuple [_,_] [_,_] (.cons _ _ _ _ (.flat 8 _ hzf) (.cons _ _ _ _ (.flat 1 _ rfl) .nil)));unfold Instr.typeAssert;rw[hxe,ZO,bM hud,ZN];cases d<;>first|exact absurd rfl (notI _)|skip
    all_goals
     simp only[];rw[if_neg hne];simp only[if_true,ZO,iI hz,ZN,Z0]
   cases h
 cases h
theorem Qp{t:TypeId}{x:Operand}{r:XR}(hE:Ev ρ fr e)(h:Cx (P.underlying t) (ev fr x)=some r):dS P ρ W w (do pure (.value (<-Instr.arrayAt t (e x)))) r:=by
 unfold Cx at h;split at h
 ·rename_i n el a len cap hu hx;cases hq:(Nat.ble n len&&Nat.blt 0 n)with
  |false=>rw[hq]at h;cases h
  |true=>
   rw[hq]at h;cases h;simp only[ZX]at hq;have h1:=Nat.le_of_ble_eq_true hq.1;have h2:0<n:=Nat.le_of_ble_eq_true hq.2;obtain⟨b,o,rfl⟩:=(hE x _ hx).sliceAddr;obtain⟨i,hr,hcase⟩:=(hE x _ hx).sliceInv;have key:∃cap',e x=.slice (some ⟨i.b,o+i.s,none⟩) len cap':=by
    rcases hcase with⟨_,q⟩|⟨_,c,q,_⟩|⟨_,q,_⟩|⟨_,q,_⟩
    ·exact⟨_,q⟩
    ·exact⟨_,q⟩
    ·omega
    omega
   obtain⟨cap',hxe⟩:=key;refine xv (u:=.pointer (some ⟨i.b,o+i.s,none⟩)) ?_ (.ptr _ _ _ hr);unfold Instr.arrayAt;rw[hxe,ZO,bM hu,ZN];simp only[];rw[if_neg (by omega)];rfl
 cases h
theorem AF{el:TypeId}(hc:P.cellsOf el=1)(count off n:Nat)(hn:off+n<=count):liesAt P P.depth el count off el n=true:=by
 have hd:P.depth=(2*(P.types.size+Made.depth)+1)+1:=rfl;rw[hd];simp only[liesAt,aat];left;rw[hd];simp[rowAt,hc,hn,sameLayout,Nat.mod_one]
theorem Ax{ats:Array TypeId}{pt ty el:TypeId}{k:IntKind}{g o cells:Nat}(h0:ats[0]?=some pt)(hp:P.underlying pt=some (.pointer el))(hc:P.cellsOf el=1)(hsh:w.shape? g=some (el,cells))(l:List UInt8)(hl:l.length≠0)(hn:o+l.length<=cells)(h63:l.length<=9223372036854775807)
 (hcell:∀j x,l[j]?=some x->w.cell? ((⟨g,o,none⟩:Addr).add j)=some (.int .u8 x.toNat)) :
 (Builtin.unsafeString_ ats ty #[.pointer (some ⟨g,o,none⟩),.int k l.length]).run P w=.ok (.string ⟨l.toArray⟩) (w.freeze ⟨g,o,none⟩ l.length):=by
 have hlb:=Lib.run_loadBytes (P:=P) w l ⟨g,o,none⟩ .empty hcell;have hlies:=AF (P:=P) hc (cells/P.cellsOf el) o l.length (by rw[hc];simpa using hn);have h63':¬(9223372036854775807:Int)<(l.length:Int):=by omega
 have hdef:Builtin.unsafeString_ ats ty #[.pointer (some ⟨g,o,none⟩),.int k l.length] =
  (do
   let n <-asInt (.int k l.length)
   let some pt:=ats[0]?|stuck "unsafe.String: no argument types"
   if n<0 then runtimePanic (.error "unsafe.String: len out of range")
   if n>IntKind.i64.max then unsupported (.unsafePointer "String: a length above the largest int")
   if n=0 then pure (.string .empty)
   else if <-variablesAt ⟨g,o,none⟩ (<-elemOf pt) n.toNat then do
    let s <-loadBytes ⟨g,o,none⟩ .empty n.toNat
    freeze ⟨g,o,none⟩ n.toNat
    pure (.string s)
   else unsupported (.unsafePointer "String: not so many bytes at ptr")):=rfl
 rw[hdef];have hmax:IntKind.i64.max=9223372036854775807:=rfl;have hneg:¬(l.length:Int)<0:=by omega
 simp[asInt,asIntOf,hmax,h63',hneg,hl,variablesAt,hsh,elemOf,bM hp,hlies,hlb,h0]
theorem KA{b o n:Nat}{c:Array Value}{t:TypeId}{lo hi:Nat}(hn:n≠0)(h:w.heap[b]?=some (.cells c t (lo,hi))) :
 (w.freeze ⟨b,o,none⟩ n).heap[b]?=some (.cells c t (if lo==hi then(o,o+n)else(min lo o,max hi (o+n)))):=by
 unfold World.freeze;rw[if_neg hn];simp only[aaH,h];simp
theorem Eh(b o n:Nat):aK (fun k=>k=b) w (w.freeze ⟨b,o,none⟩ n):=by
 unfold World.freeze;split
 ·exact aK.refl _ _
 exact⟨rfl,rfl,rfl,by simp,fun k hk hne=>by
  simp only[aaH];rw[if_neg (fun e=>hne e.symm)]⟩
theorem vU{ats:Array TypeId}{ty:TypeId}{p n p' n':Value}{r:XR}(hH:HR P ρ W.get w)(hp:VR ρ p p')(hn:VR ρ n n')(h:vN P W p n (gU P ats[0]?)=some r) :
 dS P ρ W w (do pure (.value (<-Builtin.unsafeString_ ats ty #[p',n']))) r:=by
 cases h0:ats[0]? with
 |none=>rw[h0]at h;cases h
 |some t=>
  rw[h0]at h;simp only[gU]at h;unfold vN at h;split at h
  ·rename_i pe ht;split at h
   ·rename_i k;cases h;have h1:=hp.of_flat 1 rfl;have h2:=hn.int;subst h1;subst h2;refine xv (u:=.string .empty) ?_ (.flat 1 _ rfl);have hmax:IntKind.i64.max=9223372036854775807:=rfl;have hdef:Builtin.unsafeString_ ats ty #[.pointer none,.int k (Int.ofNat 0)] =
     (do
      let n <-asInt (.int k (Int.ofNat 0))
      let some pt:=ats[0]?|stuck "unsafe.String: no argument types"
      if n<0 then runtimePanic (.error "unsafe.String: len out of range")
      if n>IntKind.i64.max then unsupported (.unsafePointer "String: a length above the largest int")
      if n=0 then pure (.string .empty)
      else runtimePanic (.error "unsafe.String: ptr is nil and len is not zero")):=rfl
    rw[hdef];simp[asInt,asIntOf,hmax,h0]
   ·rename_i b k m;have h2:=hn.int;subst h2;obtain⟨i,hr,rfl⟩:=hp.ptrInv;unfold za at h;split at h
    ·rename_i c el f hg;cases q:(Nat.ble (m+1) c.length&&Nat.beq el pe&&Nat.beq f.1 0&&Nat.beq (P.cellsOf pe) 1&&Nat.ble (m+1) 1099511627776)with
     |false=>rw[q]at h;cases h
     |true=>
      rw[q]at h;simp only[cond_true]at h;simp only[ZX]at q;obtain⟨⟨⟨⟨q1,q2⟩,q3⟩,q4⟩,q5⟩:=q;have q1:=Nat.le_of_ble_eq_true q1;have q2:=ZT q2;have q3:=ZT q3;have q4:=ZT q4;have q5:=Nat.le_of_ble_eq_true q5;subst q2;cases hb:dE (c.take (m+1))with
      |none=>rw[hb]at h;cases h
      |some bs=>
       rw[hb]at h;cases h;intro _;have hbs:=so hb;have hbl:bs.length=m+1:=by have:=congrArg List.length hbs;rw[ZR,bK]at this;omega
       obtain⟨ob,hb1,hb2⟩:=hH.obj b i _ hr hg;cases hb2 with
       |cells _ _ _ c' f' hz hrr hk hl hv hf hq hm=>
        obtain⟨lo,hi⟩:=f';have hcell:∀(j:Nat) (x:UInt8),bs[j]?=some x->w.cell? ((⟨i.b,0+i.s,none⟩:Addr).add j)=some (.int .u8 x.toNat):=fun j x hj=>by
         have hj':j<m+1:=by rw[<-hbl];exact(List.getElem?_eq_some_iff.1 hj).1
         have e1:(c.take (m+1))[j]?=some (bv x):=by rw[hbs];simp[aF,hj]
         rw[aaj,if_pos hj']at e1;obtain⟨v',y1,y2⟩:=hv j _ e1;have y3:=y2.int;subst y3;rw[dc,cB hb1,Nat.zero_add];exact y1
        have hsh:w.shape? i.b=some (el,c'.size):=by simp[World.shape?,hb1]
        have hrun:=Ax (w:=w) (ty:=ty) (k:=k) h0 ht q4 hsh bs (by omega) (by omega) (by omega) hcell;rw[hbl]at hrun;obtain⟨r1,r2⟩:=hH.put hr (by rw[hg];simp) (.cells c el (0,Nat.max f.2 (m+1))) (Eh i.b (0+i.s) (m+1)) (KA (o:=0+i.s) (n:=m+1) (by omega) hb1) (by
         refine .cells _ _ _ _ _ hz hrr hk hl hv (fun j hj g1 g2=>⟨Z3 _,?_⟩) ⟨?_,fun _=>?_⟩ hm
         ·show j<max f.2 (m+1);by_cases hlh:lo=hi
          ·subst hlh;simp at g1 g2;omega
          rw[if_neg (by simpa using hlh)]at g1 g2;simp only at g1 g2;rcases aaa j (m+1)with g|g
          ·omega
          ·
           have hhi:i.s+j<hi:=by omega
           have hqz:hi<=i.z:=hq.2 q3;have hlohi:lo<=hi:=hq.1;rcases aaa (i.s+j) lo with g3|g3
           ·have:=hf (hi-1-i.s) (by omega) (show lo<=i.s+(hi-1-i.s) by omega) (show i.s+(hi-1-i.s)<hi by omega);omega
           have:=hf j (by omega) g3 hhi;omega
         ·split
          ·exact Nat.le_add_right _ _
          show min lo (0+i.s)<=max hi (0+i.s+(m+1));omega
         have h3:=hq.2 q3;simp only at h3;split
         ·show 0+i.s+(m+1)<=i.z;omega
         show max hi (0+i.s+(m+1))<=i.z;omega)
        refine⟨_,ρ,_,gv ?_,r2,r1,.flat 1 (.string ⟨bs.toArray⟩) rfl⟩;exact hrun
    cases h
   cases h
  cases h
theorem QE{ats:Array TypeId}{ty:TypeId}{x x':Value}{r:XR}(hx:VR ρ x x')(h:EC x=some r):dS P ρ W w (do pure (.value (<-Builtin.unsafeSliceData_ ats ty #[x']))) r:=by
 unfold EC at h;split at h
 ·rename_i a n c;cases q:(Nat.beq n 0||Nat.beq c 0)with
  |true=>rw[q]at h;cases h
  |false=>
   rw[q]at h;cases h;simp only[abc]at q;have hn:n≠0:=fun e=>by rw[e]at q;cases q.1
   have hc:c≠0:=fun e=>by rw[e]at q;cases q.2
   obtain⟨b,o,rfl⟩:=hx.sliceAddr;obtain⟨i,hr,hcase⟩:=hx.sliceInv;rcases hcase with⟨_,rfl⟩|⟨_,c',rfl,q2,_⟩|⟨_,q2,_⟩|⟨_,q2,_⟩
   ·exact xv (Lib.run_unsafeSliceData_row w ats ty _ n c hc) (.ptr _ _ _ hr)
   ·exact xv (Lib.run_unsafeSliceData_row w ats ty _ n c' (by omega)) (.ptr _ _ _ hr)
   ·omega
   omega
 ·have:=hx.of_flat 1 rfl;subst this;cases h;exact xv (Lib.run_unsafeSliceData_nil w ats ty _ _) (.flat 1 _ rfl)
 cases h
theorem Dp{l m:List Value}(h:cd ρ l m)(hf:l.all dw=true):m=l:=h.of_flat 8 fun u hu=>by
 rw[aa3]at hf;exact hf u hu
theorem Ea{b:Builtin}{ats:Array TypeId}{ty:TypeId}{cs:Array Bool}{args args':List Value}{r:XR}(hH:HR P ρ W.get w)(ha:cd ρ args args')(h:fv P W b ats ty args=some r):dS P ρ W w (builtin b ats ty cs args'.toArray) r:=by
 unfold fv at h;split at h
 ·cases ha with
  |cons _ x' _ _ hx hs=>
   cases hs;exact OC hH hx h
 ·cases ha with
  |cons _ v' _ _ hv hs=>
   cases hs with
   |cons _ x' _ _ hx hs=>
    cases hs;rename_i v x;cases hn:mt (gU P ats[1]?)with
    |false=>rw[hn]at h;cases h
    |true=>rw[hn]at h;exact GA hH hv hx hn h
 ·cases ha with
  |cons _ v' _ _ hv hs=>
   cases hs with
   |cons _ x' _ _ hx hs=>
    cases hs;exact Lk hH hv hx h
 ·cases ha with
  |cons _ v' _ _ hv hs=>
   cases hs with
   |cons _ x' _ _ hx hs=>
    cases hs;exact Gv hH hv hx h
 ·cases ha with
  |cons _ x' _ _ hx hs=>
   cases hs;exact HU hH hx h
 ·cases hf:args.all dw with
  |false=>rw[hf]at h;cases h
  |true=>rw[hf]at h;rw[Dp ha hf];exact Im h
 ·cases hf:args.all dw with
  |false=>rw[hf]at h;cases h
  |true=>rw[hf]at h;rw[Dp ha hf];exact Im h
 ·cases ha with
  |cons _ x' _ _ hx hs=>
   cases hs;exact QE hx h
 ·cases ha with
  |cons _ v' _ _ hv hs=>
   cases hs with
   |cons _ x' _ _ hx hs=>
    cases hs;exact vU hH hv hx h
 cases h
theorem Nm{c:Call}{ty:TypeId}{r:XR}(hH:HR P ρ W.get w)(hE:Ev ρ fr e)(h:tj P fr W ty c.args.toList c.argTypes c.callee=some r):dS P ρ W w (do let d <-resolve e c ty;invoke d.target d.args) r:=by
 obtain⟨cl,args,ats⟩:=c;unfold tj at h;split at h
 ·rename_i b hb;simp only at hb;subst hb;cases ha:evs fr args.toList with
  |none=>simp only[ha]at h;cases h
  |some vs=>
   simp only[ha]at h;have hvs:=om hE ha;have:=Ea (cs:=args.map fun|.const _=>true|_=>false) hH hvs h;rw[aaK]at this;exact this
 ·rename_i f hf;simp only at hf;subst hf;unfold wL at h;split at h
  ·rename_i g a cap vs hfe ha;cases h;obtain⟨xs',cs',hx,h1,h2⟩:=(hE f _ hfe).funcInv;have hvs:=om hE ha;refine⟨xs'++(args.map e).toList++cs',?_,(h1.append hvs).append h2⟩;show((Deferred.ofValue (e f) (args.map e)) >>= fun d=>invoke d.target d.args).run P w=_;rw[hx];show(callFunc g ((xs'.toArray++args.map e)++cs'.toArray)).run P w=_;congr 2;apply Array.ext';simp
  ·rename_i l a cap vs hfe ha;obtain⟨i,hr,hx⟩:=(hE f _ hfe).yieldInv;cases q:(a.isEmpty&&cap.isEmpty)with
   |false=>rw[q]at h;cases h
   |true=>
    rw[q]at h;cases h;have hvs:=om hE ha;refine⟨i,(args.map e).toList,hr,?_,hvs⟩;show((Deferred.ofValue (e f) (args.map e)) >>= fun d=>invoke d.target d.args).run P w=_;rw[hx];show(Instr.yield i.b (#[]++args.map e)).run P w=_;congr 2;apply Array.ext';simp
  cases h
 cases h
theorem Kr{c:Call}{ty:TypeId}{r:XR}(hE:Ev ρ fr e)(h:vT fr c.args.toList c.callee=some r):dS P ρ W w (do pure (.defer (<-resolve e c ty))) r:=by
 obtain⟨cl,args,ats⟩:=c;unfold vT at h;split at h
 ·rename_i f hf;simp only at hf;subst hf;unfold Bu at h;split at h
  ·rename_i g a cap vs hfe ha;cases h;obtain⟨xs',cs',hx,h1,h2⟩:=(hE f _ hfe).funcInv;have hvs:=om hE ha;refine⟨xs'++(args.map e).toList,cs',?_,h1.append hvs,h2⟩;show((Deferred.ofValue (e f) (args.map e)) >>= fun d=>pure (Next.defer d)).run P w=_;rw[hx];show Result.ok (Next.defer ⟨.fn (.func g) cs'.toArray,xs'.toArray++args.map e⟩) w=_;congr 3;apply Array.ext';simp
  cases h
 cases h
theorem HJ{x:Operand}{r:XR}(hE:Ev ρ fr e)(h:Ct (ev fr x)=some r):dS P ρ W w (do pure (.value (<-Instr.panic (e x)))) r:=by
 unfold Ct at h;split at h
 ·rename_i t v hx;cases h;have hv:=hE x _ hx;obtain⟨v',hxe,_⟩:=hv.ifaceInv;refine⟨e x,?_,hv⟩;rw[hxe];rfl
 cases h
theorem uZ{o:Oper}{r:XR}(hH:HR P ρ W.get w)(hE:Ev ρ fr e)(h:dq P fr W o.type o.op=some r):dS P ρ W w (execOp e o) r:=by
 obtain⟨dst,op,type,pos,after,guard⟩:=o;simp only at h;cases op<;>simp only[dq]at h<;>first|cases h|skip
 case move x=>exact⟨e x,.inl rfl,fun v hv=>hE x v hv⟩
 case assign x=>exact⟨e x,.inl rfl,fun v hv=>hE x v hv⟩
 case pick c a b=>exact M3 hE h
 case alloc t=>exact IM hH h
 case box t x=>
  cases hx:ev fr x with
  |none=>rw[hx]at h;cases h
  |some v=>rw[hx]at h;exact PE hH (hE x v hx) h
 case build t ps=>
  cases hp:evP fr ps.toList with
  |none=>rw[hp]at h;cases h
  |some l=>
   rw[hp]at h;have:=KF (w:=w) (W:=W) (hE.evP hp) h;have e1:(ps.toList.map fun(i,x)=>(i,e x)).toArray=ps.map fun(i,x)=>(i,e x):=by apply Array.ext';simp
   rw[e1]at this;exact this
 case buildSlice t n ps=>
  have:=yw hH hE h;have e1:(ps.toList.map fun(i,x)=>(i,e x)).toArray=ps.map fun(i,x)=>(i,e x):=by apply Array.ext';simp
  rw[e1]at this;exact this
 case insert t m k v=>exact xb hH hE h
 case load t a=>exact Nd hH hE h
 case store t a x=>exact Ij hH hE h
 case nilCheck x=>refine Cu (x:=x) (fun a ha=>?_) hE h;simp only[execOp,ha]
 case binOp op t x y yt=>exact OV hE h
 case unOp op t x=>exact TI hE h
 case convert s d x=>exact DN hH hE h
 case sliceToArrayPointer t x=>exact Qp hE h
 case makeInterface t x=>exact IK hE h
 case makeFunc f a c=>exact CU hE h
 case makeMap t r=>exact Ee hH hE h
 case makeSlice t l c=>exact AE hH hE h
 case slice t x lo hi mx=>exact JU hH hE h
 case fieldAddr s x f=>exact AD hE h
 case field t x f=>exact Hy hE h
 case indexAddr t x i=>exact AB hE h
 case index t x i=>exact JP hE h
 case lookup t m k ok=>exact Hk hH hE h
 case mapUpdate t m k v=>exact xb hH hE h
 case mapEntry t m k=>exact CW hH hE h
 case entryStore t m s x=>exact yA hH hE h
 case range t x=>exact IV hH hE h
 case next it s=>exact L3 hH hE h
 case entry it=>exact Ka hH hE h
 case typeAssert x xt t ok=>exact GU hE h
 case extract t i=>exact En hE h
 case call c=>exact Nm hH hE h
 case defer c=>exact Kr hE h
 case panic x=>exact HJ hE h
end
end Go.Proofs.YthlkgmdkabelpaaGreat.X
