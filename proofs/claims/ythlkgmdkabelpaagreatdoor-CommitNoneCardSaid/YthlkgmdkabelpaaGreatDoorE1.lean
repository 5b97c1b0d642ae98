/-
  An executable abstract machine: blocks by names, capacities of appended rows left open, drawn regions carried out in the text's order and checked for what stands in no order. Definitions alone. Over any program. No condition.
-/
import Derived.Test.YthlkgmdkabelpaaGreatDoorW
import Derived.Still
import Derived.OrdersIn
import Derived.RangeFuncIn
namespace Go.Proofs.YthlkgmdkabelpaaGreatDoor.X
open Go Go.RowKit
set_option linter.unusedVariables false

/-- a tree by the digits of a number -/
inductive PT (α : Type) where
  | lf
  | nd (l : PT α) (v : Option α) (r : PT α)
def PT.get {α : Type} : PT α → Nat → Option α
  | .lf, _ => none
  | .nd l v r, n => bif Nat.beq n 0 then v else bif Nat.beq (n % 2) 1 then l.get (n / 2) else r.get (n / 2 - 1)
def PT.set {α : Type} : PT α → Nat → Option α → PT α
  | .lf, _, _ => .lf
  | .nd l v r, n, x => bif Nat.beq n 0 then .nd l x r else bif Nat.beq (n % 2) 1 then .nd (l.set (n / 2) x) v r else .nd l v (r.set (n / 2 - 1) x)
def PT.full {α : Type} : Nat → PT α
  | 0 => .lf
  | k + 1 => .nd (PT.full k) none (PT.full k)

/-- values without addresses -/
def flatN : Nat → Value → Bool
  | 0, _ => false
  | _ + 1, .bool _ => true
  | _ + 1, .int _ _ => true
  | _ + 1, .string _ => true
  | _ + 1, .pointer none => true
  | _ + 1, .slice none _ _ => true
  | _ + 1, .map none => true
  | _ + 1, .nilFunc => true
  | _ + 1, .nilIface => true
  | _ + 1, .func (.func _) f c => f.isEmpty && c.isEmpty
  | n + 1, .iface _ v => flatN n v
  | n + 1, .agg cs => cs.toList.all (flatN n)
  | n + 1, .tuple cs => cs.toList.all (flatN n)
  | _ + 1, _ => false
abbrev flatV (v : Value) : Bool := flatN 8 v

abbrev XF := PT Value
inductive XObj where
  | cells (c : List Value) (e : TypeId) (fr : Nat × Nat)
  | map (es : List MapEntry) (clock : Nat)
  | iter (m : Nat) (since : Nat) (seen : List Nat) (stepped : Nat)
  | loop (st : LoopState) (pend : Option Code) (tm : XF) (N : Nat) (ps : List Tmp) (asg body : Code) (defers : Nat)
  | defd (taken : Bool)
structure XW where
  heap : PT XObj
  next : Nat
  log : List Nat
  nlog : Nat
def XW.get (W : XW) (n : Nat) : Option XObj := bif Nat.blt n W.next then W.heap.get n else none
def XW.put (W : XW) (n : Nat) (o : Option XObj) : XW := ⟨W.heap.set n o, W.next, n :: W.log, W.nlog + 1⟩
def XW.push (W : XW) (o : XObj) : XW := ⟨W.heap.set W.next (some o), W.next + 1, W.log, W.nlog⟩
def XW.empty : XW := ⟨PT.full 14, 0, [], 0⟩

/-- caps from here on are open -/
def openCap : Nat := 4611686018427387904
def isOpen (c : Nat) : Bool := Nat.ble 2305843009213693952 c

/-- what an operation comes to: a value, the heap left alone; a new object, and its value by its name; a value, the heap changed; a call; a panic; .. -/
inductive XR where
  | val (v : Option Value)
  | new (o : XObj) (k : Nat → Value)
  | mod (v : Value) (W : XW)
  | enter (f : FuncId) (args : List Value)
  | pan (v : Value)
  | defer (f : FuncId) (args : List Value) (cap : List Value)
  | round (l : Nat) (args : List Value)

def ev (fr : XF) : Operand → Option Value
  | .tmp t => fr.get t
  | .const v => bif flatV v then some v else none
  | .global _ => none
  | .func f => some (.func (.func f) #[] #[])
def evs (fr : XF) : List Operand → Option (List Value)
  | [] => some []
  | x :: l => match ev fr x, evs fr l with
    | some v, some vs => some (v :: vs)
    | _, _ => none

/-- a computation that needs no world -/
def pureS {α : Type} (P : Program) : Sem α → Option α
  | .pure a => some a
  | .program k => pureS P (k P)
  | .mark _ k => pureS P k
  | .choose q k => bif q.forced then pureS P (k 0) else none
  | _ => none

def sz (P : Program) (t : TypeId) : Option Nat := (P.info? t).map (·.size)
def zeroOf (P : Program) (t : TypeId) : Option Value :=
  match P.info? t with
  | some i => match i.zero with
    | some z => bif flatV z then some z else none
    | none => none
  | none => none
def aggT (P : Program) (t : TypeId) : Option Bool :=
  match P.underlying t with
  | some (.struct _) => some true
  | some (.array _ _) => some true
  | some _ => some false
  | none => none
def oneC : Value → Bool
  | .agg _ => false
  | .tuple _ => false
  | _ => true

/-- cells of a variable of type t -/
def cut (P : Program) (t : TypeId) (c : List Value) (o : Nat) : Option Value :=
  match aggT P t, sz P t with
  | some true, some s => let l := (c.drop o).take s; bif Nat.beq l.length s then some (.agg l.toArray) else none
  | some false, _ => c[o]?
  | _, _ => none
def loadX (P : Program) (W : XW) (t : TypeId) : Value → Option Value
  | .pointer (some ⟨n, o, none⟩) => match W.get n with
    | some (.cells c _ _) => cut P t c o
    | _ => none
  | _ => none
def inFr (fr : Nat × Nat) (o s : Nat) : Bool := !(Nat.ble fr.2 fr.1 || Nat.ble fr.2 o || Nat.ble (o + s) fr.1)
def wr (c : List Value) (o : Nat) (vs : List Value) : List Value := c.take o ++ (vs ++ c.drop (o + vs.length))
def storeX (W : XW) (n o : Nat) (vs : List Value) : Option XW :=
  match W.get n with
  | some (.cells c e fr) => bif Nat.ble (o + vs.length) c.length && !inFr fr o vs.length && vs.all oneC then some (W.put n (some (.cells (wr c o vs) e fr))) else none
  | _ => none

def fillX (place : Nat → Option (Nat × Nat)) (cells : List Value) : List (Nat × Value) → Option (List Value)
  | [] => some cells
  | (i, v) :: rest => match place i with
    | none => none
    | some (off, size) => bif Nat.beq v.cells.size size && Nat.ble (off + size) cells.length then fillX place (wr cells off v.cells.toList) rest else none
def evP (fr : XF) : List (Nat × Operand) → Option (List (Nat × Value))
  | [] => some []
  | (i, x) :: l => match ev fr x, evP fr l with
    | some v, some vs => some ((i, v) :: vs)
    | _, _ => none
def rep (z : List Value) : Nat → List Value
  | 0 => []
  | n + 1 => z ++ rep z n

def placesX (P : Program) : List Field → Option (List (Nat × Nat))
  | [] => some []
  | f :: l => match sz P f.type, placesX P l with
    | some s, some r => some ((f.offset, s) :: r)
    | _, _ => none
def aggO : Option (List Value) → Option Value
  | some cs => some (.agg cs.toArray)
  | none => none
def bldS (z : Value) (ps : List (Nat × Value)) : Option (List (Nat × Nat)) → Option Value
  | some pl => aggO (fillX (fun i => pl[i]?) z.cells.toList ps)
  | none => none
def bldA (z : Value) (ps : List (Nat × Value)) : Option Nat → Option Value
  | some s => aggO (fillX (fun i => some (i * s, s)) z.cells.toList ps)
  | none => none
def buildX (P : Program) (ps : List (Nat × Value)) : Option Value → Option TypeDesc → Option Value
  | some z, some (.struct fs) => bldS z ps (placesX P fs.toList)
  | some z, some (.array _ e) => bldA z ps (sz P e)
  | _, _ => none

def val (v : Value) : Option XR := some (.val (some v))
def newV (o : XObj) : Option XR := some (.new o fun n => .pointer (some ⟨n, 0, none⟩))
def newS (o : XObj) (len cap : Nat) : Option XR := some (.new o fun n => .slice (some ⟨n, 0, none⟩) len cap)
def newAt (W : XW) (o : XObj) (len cap : Nat) : Option XR := some (.mod (.slice (some ⟨W.next, 0, none⟩) len cap) (W.push o))

def bound (fr : XF) (d : Nat) : Option Operand → Option Nat
  | none => some d
  | some x => match ev fr x with
    | some (.int _ (.ofNat n)) => some n
    | _ => none

/-- elements that an append or a copy takes: n elements of s cells -/
def srcX (W : XW) (s n : Nat) : Value → Option (List Value)
  | .slice none _ _ => bif Nat.beq n 0 then some [] else none
  | .slice (some ⟨b, o, none⟩) _ _ => bif Nat.beq n 0 then some [] else match W.get b with
    | some (.cells c _ _) => let l := (c.drop o).take (n * s); bif Nat.beq l.length (n * s) then some l else none
    | _ => none
  | .string t => let l := t.data.toList.map fun b => Value.int .u8 b.toNat; some (l.take n)
  | _ => none
def lenX : Value → Option Nat
  | .slice _ n _ => some n
  | .string s => some s.size
  | _ => none

def modO (v : Value) : Option XW → Option XR
  | some W => some (.mod v W)
  | none => none
def frCut (fr : Nat × Nat) (o : Nat) : Nat × Nat := bif Nat.beq fr.1 0 then (0, fr.2 - o) else (1, 1)
/-- an open slice's row lies, and has this element type -/
def rowIs (W : XW) (cap : Nat) (e : TypeId) : Option Addr → Bool
  | none => !isOpen cap
  | some a => !isOpen cap || (match W.get a.block with
    | some (.cells _ e' _) => Nat.beq e e'
    | _ => false)
def okNeed (by_ need : Nat) : Bool := Nat.ble (need * by_) 1099511627776 && Nat.ble need 1099511627776
def app4 (W : XW) (b o len n cap s by_ : Nat) (e : TypeId) (src : List Value) : Option XObj → Option XR
  | some (.cells c e' fr) => bif isOpen cap && Nat.beq e e' && Nat.ble (o + len * s) c.length && okNeed by_ (len + n) && !inFr fr (o + len * s) (n * s) && (Nat.beq fr.1 0 || Nat.ble fr.2 fr.1) && Nat.beq (o % s) 0 then newAt (W.put b none) (.cells ((c.drop o).take (len * s) ++ src) e (frCut fr o)) (len + n) openCap else none
  | _ => none
def rowLen : Option XObj → Nat
  | some (.cells c _ _) => c.length
  | _ => 0
def app5 (W : XW) (e : TypeId) (src : List Value) (need by_ : Nat) : Option (List Value) → Option XR
  | some old => bif okNeed by_ need then newAt W (.cells (old ++ src) e (0, 0)) need openCap else none
  | none => none
def app3 (W : XW) (len n cap s by_ : Nat) (e : TypeId) (src : List Value) : Option Addr → Option XR
  | none => bif Nat.beq cap 0 && Nat.beq len 0 && okNeed by_ n then newAt W (.cells src e (0, 0)) n openCap else none
  | some ⟨b, o, none⟩ => bif isOpen cap || Nat.ble (len + n) cap then
      bif Nat.ble (o + (len + n) * s) (rowLen (W.get b)) && rowIs W cap e (some ⟨b, o, none⟩) then modO (.slice (some ⟨b, o, none⟩) (len + n) cap) (storeX W b (o + len * s) src)
      else app4 W b o len n cap s by_ e src (W.get b)
    else app5 W e src (len + n) by_ (srcX W s len (.slice (some ⟨b, o, none⟩) len cap))
  | _ => none
def app2 (W : XW) (e : TypeId) (s n by_ : Nat) (src : List Value) : Value → Option XR
  | .slice base len cap => bif Nat.beq n 0 then (bif Nat.ble len cap then val (.slice base len cap) else none) else bif Nat.blt 0 s then app3 W len n cap s by_ e src base else none
  | _ => none
def app1 (W : XW) (e : TypeId) (s n by_ : Nat) (v : Value) : Option (List Value) → Option XR
  | some src => bif Nat.beq src.length (n * s) && src.all oneC then app2 W e s n by_ src v else none
  | none => none
def appS (W : XW) (e : TypeId) (v x : Value) : Option TypeInfo → Option Value → Option Nat → Option XR
  | some i, some z, some n => bif Nat.beq i.size z.cells.size then app1 W e i.size n i.bytes v (srcX W i.size n x) else none
  | _, _, _ => none
def appendX (P : Program) (W : XW) (v x : Value) : Option TypeDesc → Option XR
  | some (.slice e) => appS W e v x (P.info? e) (zeroOf P e) (lenX x)
  | _ => none

def adv (a : Option Addr) (d : Nat) : Option Addr := a.map fun a => ⟨a.block, a.off + d, a.spot⟩
def slS (t : ByteArray) : Option Nat → Option Nat → Option Operand → Option XR
  | some l, some h, none => bif Nat.ble l h && Nat.ble h t.size then val (.string (t.extract l h)) else none
  | _, _, _ => none
def slL (ok : Bool) (a : Option Addr) (len cap : Nat) : Option Nat → Option Nat → Option Nat → Option XR
  | some s, some l, some h => bif ok && Nat.ble l h && Nat.ble h len && (isOpen cap || Nat.ble len cap) && (Nat.beq (len) 0 || Nat.blt 0 s) then val (.slice (bif !isOpen cap && Nat.beq cap l then a else adv a (l * s)) (h - l) (bif isOpen cap then cap else cap - l)) else none
  | _, _, _ => none
def slM (a : Option Addr) (len : Nat) : Option Nat → Option Nat → Option Nat → Option Nat → Option XR
  | some s, some l, some h, some m => bif Nat.ble l h && Nat.ble h m && Nat.ble m len && Nat.ble m 16777216 then val (.slice (bif Nat.beq m l then a else adv a (l * s)) (h - l) (m - l)) else none
  | _, _, _, _ => none
def slA (b o n : Nat) : Option Nat → Option Nat → Option Nat → Option Operand → Option XR
  | some s, some l, some h, none => bif Nat.ble l h && Nat.ble h n && Nat.ble n 16777216 then val (.slice (some (bif Nat.beq n l then ⟨b, o, none⟩ else ⟨b, o + l * s, none⟩)) (h - l) (n - l)) else none
  | _, _, _, _ => none
def sliceX (P : Program) (fr : XF) (W : XW) (v : Value) (lo hi mx : Option Operand) : Option TypeDesc → Option XR
  | some .string => match v with
    | .string t => slS t (bound fr 0 lo) (bound fr t.size hi) mx
    | _ => none
  | some (.slice e) => match v with
    | .slice a len cap => match mx with
      | none => slL (rowIs W cap e a) a len cap (sz P e) (bound fr 0 lo) (bound fr len hi)
      | some m => bif hi.isSome && (isOpen cap || Nat.ble len cap) then slM a len (sz P e) (bound fr 0 lo) (bound fr len hi) (bound fr 0 (some m)) else none
    | _ => none
  | some (.array n e) => match v with
    | .pointer (some ⟨b, o, none⟩) => slA b o n (sz P e) (bound fr 0 lo) (bound fr n hi) mx
    | _ => none
  | _ => none

def mapGet (W : XW) : Value → Option (List MapEntry × Nat)
  | .map none => some ([], 0)
  | .map (some r) => match W.get r with
    | some (.map es c) => some (es, c)
    | _ => none
  | _ => none
def keyOk (P : Program) (kt : TypeId) (k : Value) (emp : Bool) : Bool := flatV k && (pureS P (Instr.checkKey emp 10000 kt k)).isSome
def findX (P : Program) (kt : TypeId) (k : Value) (es : List MapEntry) : Option (Option (Nat × Value)) := bif es.all (fun e => flatV e.key) then pureS P (Instr.findKey kt k es) else none

def eqX (P : Program) (t : TypeId) (x y : Value) : Option Bool :=
  match P.underlying t, x, y with
  | some (.pointer _), .pointer none, .pointer (some _) => some false
  | some (.pointer _), .pointer (some _), .pointer none => some false
  | some (.interface _), .nilIface, .iface _ _ => some false
  | some (.interface _), .iface _ _, .nilIface => some false
  | some (.slice _), .slice none _ _, .slice (some _) _ _ => some false
  | some (.slice _), .slice (some _) _ _, .slice none _ _ => some false
  | some (.map _ _), .map none, .map (some _) => some false
  | some (.map _ _), .map (some _), .map none => some false
  | some (.func _ _ _), .nilFunc, .func _ _ _ => some false
  | some (.func _ _ _), .func _ _ _, .nilFunc => some false
  | _, _, _ => none

def byteIn (n : Nat) : Option (List UInt8) → Option (List UInt8)
  | some r => bif Nat.blt n 256 then some (UInt8.ofNat n :: r) else none
  | none => none
def bytesOf : List Value → Option (List UInt8)
  | [] => some []
  | v :: l => match v with
    | .int .u8 (.ofNat n) => byteIn n (bytesOf l)
    | _ => none

def lenMap : Option (List MapEntry × Nat) → Option XR
  | some (es, _) => val (goInt es.length)
  | none => none
def lenB (W : XW) (x : Value) : Option TypeDesc → Option XR
  | some (.slice _) => match x with
    | .slice _ n _ => val (goInt n)
    | _ => none
  | some (.map _ _) => lenMap (mapGet W x)
  | some .string => match x with
    | .string s => val (goInt s.size)
    | _ => none
  | some (.array n _) => val (goInt n)
  | _ => none
def cpy3 (W : XW) (k : Nat) (src : List Value) : Option Addr → Option XR
  | some ⟨b, o, none⟩ => modO (goInt k) (storeX W b o src)
  | _ => none
def cpy2 (W : XW) (k : Nat) (base : Option Addr) : Option (List Value) → Option XR
  | some src => bif Nat.beq k 0 then val (goInt 0) else cpy3 W k src base
  | none => none
def cpy1 (W : XW) (base : Option Addr) (n : Nat) (x : Value) : Option Nat → Option Nat → Option XR
  | some s, some m => cpy2 W (Nat.min m n) base (srcX W s (Nat.min m n) x)
  | _, _ => none
def cpyB (P : Program) (W : XW) (d x : Value) : Option TypeDesc → Option XR
  | some (.slice e) => match d with
    | .slice base n _ => cpy1 W base n x (sz P e) (lenX x)
    | _ => none
  | _ => none
def del2 (W : XW) (r : Nat) (es : List MapEntry) (c : Nat) : Option (Option (Nat × Value)) → Option XR
  | some (some (i, _)) => some (.mod (.tuple #[]) (W.put r (some (.map (es.eraseIdx i) c))))
  | some none => val (.tuple #[])
  | none => none
def del1 (P : Program) (W : XW) (r : Nat) (kt : TypeId) (k : Value) : Option XObj → Option XR
  | some (.map es c) => bif keyOk P kt k es.isEmpty then del2 W r es c (findX P kt k es) else none
  | _ => none
def delB (P : Program) (W : XW) (m k : Value) : Option TypeDesc → Option XR
  | some (.map kt _) => match m with
    | .map (some r) => del1 P W r kt k (W.get r)
    | _ => none
  | _ => none
def clr1 (W : XW) (n : Nat) : Option Addr → Option Value → Option XR
  | some ⟨b, o, none⟩, some z => modO (.tuple #[]) (storeX W b o (rep z.cells.toList n))
  | _, _ => none
def clrB (P : Program) (W : XW) (x : Value) : Option TypeDesc → Option XR
  | some (.slice e) => match x with
    | .slice base n _ => bif Nat.beq n 0 then val (.tuple #[]) else clr1 W n base (zeroOf P e)
    | _ => none
  | _ => none
def usd : Value → Option XR
  | .slice (some a) n c => bif Nat.beq n 0 || Nat.beq c 0 then none else val (.pointer (some a))
  | .slice none _ _ => val (.pointer none)
  | _ => none
def ust2 (W : XW) (b n : Nat) (c : List Value) (e : TypeId) (fr : Nat × Nat) : Option (List UInt8) → Option XR
  | some bs => some (.mod (.string ⟨bs.toArray⟩) (W.put b (some (.cells c e (0, Nat.max fr.2 n)))))
  | none => none
def ust1 (P : Program) (W : XW) (b n : Nat) (pe : TypeId) : Option XObj → Option XR
  | some (.cells c e fr) => bif Nat.ble n c.length && Nat.beq e pe && Nat.beq fr.1 0 && Nat.beq (P.cellsOf pe) 1 && Nat.ble n 1099511627776 then ust2 W b n c e fr (bytesOf (c.take n)) else none
  | _ => none
def ustB (P : Program) (W : XW) (p : Value) (n : Value) : Option TypeDesc → Option XR
  | some (.pointer pe) => match p, n with
    | .pointer none, .int _ (.ofNat 0) => val (.string .empty)
    | .pointer (some ⟨b, 0, none⟩), .int _ (.ofNat (n + 1)) => ust1 P W b (n + 1) pe (W.get b)
    | _, _ => none
  | _ => none
def notInt : Option TypeDesc → Bool
  | some (.int _) => false
  | some _ => true
  | none => false
def undO (P : Program) : Option TypeId → Option TypeDesc
  | some t => P.underlying t
  | none => none
def valO : Option Value → Option XR
  | some v => some (.val (some v))
  | none => none
def valF : Option Value → Option XR
  | some v => bif flatV v then some (.val (some v)) else none
  | none => none
def builtinX (P : Program) (W : XW) (b : Builtin) (ats : Array TypeId) (type : TypeId) (args : List Value) : Option XR :=
  match b, args with
  | .len, [x] => lenB W x (undO P ats[0]?)
  | .append, [v, x] => bif notInt (undO P ats[1]?) then appendX P W v x (undO P ats[0]?) else none
  | .copy, [d, x] => cpyB P W d x (undO P ats[0]?)
  | .delete, [m, k] => delB P W m k (undO P ats[0]?)
  | .clear, [x] => clrB P W x (undO P ats[0]?)
  | .min, l => bif l.all flatV then valF (pureS P (Builtin.min_ ats type l.toArray)) else none
  | .max, l => bif l.all flatV then valF (pureS P (Builtin.max_ ats type l.toArray)) else none
  | .unsafeSliceData, [x] => usd x
  | .unsafeString, [p, n] => ustB P W p n (undO P ats[0]?)
  | _, _ => none

def keyStays (old new : Value) : Bool := flatV old && Instr.sameBits 10000 old new

def boxX (e : TypeId) : Option Value → Option XR
  | some v => newV (.cells v.cells.toList e (0, 0))
  | none => none
def allocX (e : TypeId) : Option Value → Option XR
  | some z => newV (.cells z.cells.toList e (0, 0))
  | none => none
def pickX (fr : XF) (a b : Operand) : Option Value → Option XR
  | some (.bool t) => some (.val (ev fr (bif t then a else b)))
  | _ => none
def bldX (P : Program) (t : TypeId) : Option (List (Nat × Value)) → Option XR
  | some l => valO (buildX P l (zeroOf P t) (P.underlying t))
  | none => none
def bsl2 (e : TypeId) (n s zs : Nat) : Option (List Value) → Option XR
  | some cs => bif Nat.ble (n * s) 16777216 && Nat.beq (n * s) (n * zs) && Nat.ble n 16777216 then newS (.cells cs e (0, 0)) n n else none
  | none => none
def bsl1 (e : TypeId) (n : Nat) : Option Nat → Option Value → Option (List (Nat × Value)) → Option XR
  | some s, some z, some l => bsl2 e n s z.cells.size (fillX (fun i => some (i * s, s)) (rep z.cells.toList n) l)
  | _, _, _ => none
def bslX (P : Program) (fr : XF) (n : Nat) (ps : List (Nat × Operand)) : Option TypeDesc → Option XR
  | some (.slice e) => bsl1 e n (sz P e) (zeroOf P e) (evP fr ps)
  | _ => none
def ldX (P : Program) (W : XW) (t : TypeId) : Option Value → Option XR
  | some p => valO (loadX P W t p)
  | none => none
def stX (W : XW) : Option Value → Option Value → Option Nat → Option XR
  | some (.pointer (some ⟨n, o, none⟩)), some v, some s => bif Nat.beq v.cells.size s then modO undef (storeX W n o v.cells.toList) else none
  | _, _, _ => none
def nilX : Option Value → Option XR
  | some (.pointer (some a)) => val (.pointer (some a))
  | _ => none
def eqW : BinOp → Option Bool → Option XR
  | .eql, some r => val (.bool r)
  | .neq, some r => val (.bool (!r))
  | _, _ => none
def binS (op : BinOp) (t : TypeId) (x y : Operand) (a b : Value) : Sem Value := do Go.eqGuard op t x y a b; Go.binOp op t a b
def binX (P : Program) (op : BinOp) (t : TypeId) (x y : Operand) : Option Value → Option Value → Option XR
  | some a, some b => bif flatV a && flatV b then valF (pureS P (binS op t x y a b)) else eqW op (eqX P t a b)
  | _, _ => none
def unX (P : Program) (op : UnOp) : Option Value → Option XR
  | some a => bif flatV a then valF (pureS P (Op.unary op a)) else none
  | none => none
def strBytes (e : TypeId) : Option Value → Option TypeDesc → Option Nat → Option XR
  | some (.string t), some (.int .u8), some 1 => newS (.cells (t.data.toList.map fun b => Value.int .u8 b.toNat) e (1, 1)) t.size openCap
  | _, _, _ => none
def strO : Option (List UInt8) → Option XR
  | some bs => val (.string ⟨bs.toArray⟩)
  | none => none
def bytesO : Option (List Value) → Option (List UInt8)
  | some l => bytesOf l
  | none => none
def bytesStr (W : XW) : Option Value → Option TypeDesc → Option XR
  | some (.slice a n c), some (.int .u8) => strO (bytesO (srcX W 1 n (.slice a n c)))
  | _, _ => none
def convF (P : Program) (s d : TypeId) : Option Value → Option XR
  | some a => bif flatV a then valF (pureS P (Go.convert s d a)) else none
  | none => none
def convX (P : Program) (W : XW) (s d : TypeId) (v : Option Value) : Option TypeDesc → Option TypeDesc → Option XR
  | some .string, some (.slice e) => strBytes e v (P.underlying e) (sz P e)
  | some (.slice e), some .string => bytesStr W v (P.underlying e)
  | some _, some _ => convF P s d v
  | _, _ => none
def s2aX : Option TypeDesc → Option Value → Option XR
  | some (.array n _), some (.slice (some a) len _) => bif Nat.ble n len && Nat.blt 0 n then val (.pointer (some a)) else none
  | _, _ => none
def ifaceX (t : TypeId) : Option Value → Option TypeDesc → Option XR
  | some _, some (.interface _) => none
  | some v, some _ => val (.iface t v)
  | _, _ => none
def mkfX : Fn → Option (List Value) → Option (List Value) → Option XR
  | .func g, some xs, some cs => val (.func (.func g) xs.toArray cs.toArray)
  | _, _, _ => none
def newM : Option XR := some (.new (.map [] 0) fun n => .map (some n))
def mkmX : Option (Option Value) → Option TypeDesc → Option XR
  | none, _ => newM
  | some (some (.int _ _)), some (.map _ _) => newM
  | _, _ => none
def mks1 (e : TypeId) (l c : Nat) : Option TypeInfo → Option Value → Option XR
  | some i, some z => bif Nat.ble l c && Nat.ble (i.bytes * c) 1048576 && Nat.ble c 1048576 && Nat.beq i.size z.cells.size then newS (.cells (rep z.cells.toList c) e (0, 0)) l c else none
  | _, _ => none
def mksX (P : Program) : Option TypeDesc → Option Value → Option Value → Option XR
  | some (.slice e), some (.int .i64 (.ofNat l)), some (.int .i64 (.ofNat c)) => mks1 e l c (P.info? e) (zeroOf P e)
  | _, _, _ => none
def slcX (P : Program) (fr : XF) (W : XW) (t : TypeId) (lo hi mx : Option Operand) : Option Value → Option XR
  | some v => sliceX P fr W v lo hi mx (P.underlying t)
  | none => none
def fadd (n o d : Nat) : Option Nat → Option XR
  | some (_ + 1) => val (.pointer (some ⟨n, o + d, none⟩))
  | _ => none
def fad1 (P : Program) (n o : Nat) : Option Field → Option XR
  | some fd => fadd n o fd.offset (sz P fd.type)
  | none => none
def fadX (P : Program) (f : Nat) : Option TypeDesc → Option Value → Option XR
  | some (.struct fs), some (.pointer (some ⟨n, o, none⟩)) => fad1 P n o fs[f]?
  | _, _ => none
def fld1 (P : Program) (cs : List Value) : Option Field → Option XR
  | some fd => valO (cut P fd.type cs fd.offset)
  | none => none
def fldX (P : Program) (f : Nat) : Option TypeDesc → Option Value → Option XR
  | some (.struct fs), some (.agg cs) => fld1 P cs.toList fs[f]?
  | _, _ => none
def iad1 (b o i n : Nat) : Option Nat → Option XR
  | some s => bif Nat.blt i n then val (.pointer (some ⟨b, o + i * s, none⟩)) else none
  | none => none
def iadX (P : Program) : Option TypeDesc → Option Value → Option Value → Option XR
  | some (.array n e), some (.pointer (some ⟨b, o, none⟩)), some (.int _ (.ofNat i)) => iad1 b o i n (sz P e)
  | some (.slice e), some (.slice (some ⟨b, o, none⟩) n _), some (.int _ (.ofNat i)) => iad1 b o i n (sz P e)
  | _, _, _ => none
def idx1 (P : Program) (e : TypeId) (cs : List Value) (i n : Nat) : Option Nat → Option XR
  | some s => bif Nat.blt i n then valO (cut P e cs (i * s)) else none
  | none => none
def byteO : Option UInt8 → Option XR
  | some b => val (.int .u8 b.toNat)
  | none => none
def idxX (P : Program) : Option TypeDesc → Option Value → Option Value → Option XR
  | some (.array n e), some (.agg cs), some (.int _ (.ofNat i)) => idx1 P e cs.toList i n (sz P e)
  | some .string, some (.string s), some (.int _ (.ofNat i)) => byteO s.data.toList[i]?
  | _, _, _ => none
def okV (ok : Bool) (v : Value) (b : Bool) : Value := bif ok then .tuple #[v, .bool b] else v
def lku2 (ok : Bool) (z : Value) : Option (Option (Nat × Value)) → Option XR
  | some (some (_, v)) => val (okV ok v true)
  | some none => val (okV ok z false)
  | none => none
def lku1 (P : Program) (kt : TypeId) (kv : Value) (ok : Bool) : Option (List MapEntry × Nat) → Option Value → Option XR
  | some (es, _), some z => bif keyOk P kt kv es.isEmpty then lku2 ok z (findX P kt kv es) else none
  | _, _ => none
def lkuX (P : Program) (W : XW) (ok : Bool) : Option TypeDesc → Option Value → Option Value → Option XR
  | some (.map kt e), some mv, some kv => lku1 P kt kv ok (mapGet W mv) (zeroOf P e)
  | _, _, _ => none
def upd3 (W : XW) (r : Nat) (es : List MapEntry) (c i : Nat) (kv v : Value) : Option MapEntry → Option XR
  | some en => bif keyStays en.key kv then some (.mod undef (W.put r (some (.map (es.set i ⟨kv, v, en.born⟩) c)))) else none
  | none => none
def upd2 (W : XW) (r : Nat) (es : List MapEntry) (c : Nat) (kv v : Value) : Option (Option (Nat × Value)) → Option XR
  | some (some (i, _)) => upd3 W r es c i kv v es[i]?
  | some none => some (.mod undef (W.put r (some (.map (es ++ [⟨kv, v, c⟩]) (c + 1)))))
  | none => none
def upd1 (P : Program) (W : XW) (r : Nat) (kt : TypeId) (kv v : Value) : Option XObj → Option XR
  | some (.map es c) => bif keyOk P kt kv false then upd2 W r es c kv v (findX P kt kv es) else none
  | _ => none
def updX (P : Program) (W : XW) : Option TypeDesc → Option Value → Option Value → Option Value → Option XR
  | some (.map kt _), some (.map (some r)), some kv, some v => upd1 P W r kt kv v (W.get r)
  | _, _, _, _ => none
def men3 (W : XW) (r : Nat) (es : List MapEntry) (c i : Nat) (kv v : Value) : Option MapEntry → Option XR
  | some en => bif keyStays en.key kv then some (.mod (.tuple #[v, goInt en.born]) (W.put r (some (.map (es.set i ⟨kv, en.val, en.born⟩) c)))) else none
  | none => none
def men2 (W : XW) (r : Nat) (es : List MapEntry) (c : Nat) (kv z : Value) : Option (Option (Nat × Value)) → Option XR
  | some (some (i, v)) => men3 W r es c i kv v es[i]?
  | some none => some (.mod (.tuple #[z, goInt c]) (W.put r (some (.map (es ++ [⟨kv, z, c⟩]) (c + 1)))))
  | none => none
def men1 (P : Program) (W : XW) (r : Nat) (kt : TypeId) (kv : Value) : Option XObj → Option Value → Option XR
  | some (.map es c), some z => bif keyOk P kt kv false then men2 W r es c kv z (findX P kt kv es) else none
  | _, _ => none
def menX (P : Program) (W : XW) : Option TypeDesc → Option Value → Option Value → Option XR
  | some (.map kt e), some (.map (some r)), some kv => men1 P W r kt kv (W.get r) (zeroOf P e)
  | _, _, _ => none
def ens3 (W : XW) (r : Nat) (es : List MapEntry) (c i : Nat) (v : Value) : Option MapEntry → Option XR
  | some en => some (.mod undef (W.put r (some (.map (es.set i ⟨en.key, v, en.born⟩) c))))
  | none => none
def ens2 (W : XW) (r : Nat) (es : List MapEntry) (c : Nat) (v : Value) : Option Nat → Option XR
  | some i => ens3 W r es c i v es[i]?
  | none => none
def ens1 (W : XW) (r : Nat) (born : Int) (v : Value) : Option XObj → Option XR
  | some (.map es c) => ens2 W r es c v (es.findIdx? (fun e => (e.born : Int) == born))
  | _ => none
def ensX (W : XW) : Option Value → Option Value → Option Value → Option XR
  | some (.map (some r)), some (.int _ born), some v => ens1 W r born v (W.get r)
  | _, _, _ => none
def rng1 (m : Nat) : Option XObj → Option XR
  | some (.map _ c) => newV (.iter m c [] c)
  | _ => none
def rngX (W : XW) : Option TypeDesc → Option Value → Option XR
  | some (.map _ _), some (.map (some m)) => rng1 m (W.get m)
  | _, _ => none
def nxt3 (W : XW) (r m since c : Nat) (seen : List Nat) : List MapEntry → Option XR
  | [] => val (.tuple #[.bool false])
  | [e] => bif Nat.blt e.born since then some (.mod (.tuple #[.bool true, e.key, e.val]) (W.put r (some (.iter m since (seen ++ [e.born]) c)))) else none
  | _ => none
def notIn (seen : List Nat) (e : MapEntry) : Bool := !(seen.any fun n => Nat.beq n e.born)
def nxt2 (W : XW) (r m since last : Nat) (seen : List Nat) : Option XObj → Option XR
  | some (.map es c) => bif !seen.isEmpty && !es.isEmpty && es.all (fun e => Nat.ble last e.born) then none else nxt3 W r m since c seen (es.filter (notIn seen))
  | _ => none
def nxt1 (W : XW) (r : Nat) : Option XObj → Option XR
  | some (.iter m since seen last) => nxt2 W r m since last seen (W.get m)
  | _ => none
def nxtX (W : XW) : Bool → Option Value → Option XR
  | false, some (.pointer (some ⟨r, 0, none⟩)) => nxt1 W r (W.get r)
  | _, _ => none
def entO : Option MapEntry → Option XR
  | some e => val (.tuple #[e.key, e.val])
  | none => none
def ent2 (stepped : Nat) : Option XObj → Option Nat → Option XR
  | some (.map es c), some st => bif Nat.beq c stepped then entO (es.find? (fun e => Nat.beq e.born st)) else none
  | _, _ => none
def ent1 (W : XW) : Option XObj → Option XR
  | some (.iter m _ seen stepped) => ent2 stepped (W.get m) seen.getLast?
  | _ => none
def entX (W : XW) : Option Value → Option XR
  | some (.pointer (some ⟨r, 0, none⟩)) => ent1 W (W.get r)
  | _ => none
def asr1 : Bool → Option Value → Option XR
  | true, some z => val (.tuple #[z, .bool false])
  | _, _ => none
def asrX (P : Program) (t : TypeId) (ok : Bool) : Option Value → Option TypeDesc → Option XR
  | some _, some (.interface _) => none
  | some (.iface u v), some _ => bif Nat.beq u t then val (okV ok v true) else asr1 ok (zeroOf P t)
  | _, _ => none
def extX (i : Nat) : Option Value → Option XR
  | some (.tuple vs) => valO vs.toList[i]?
  | _ => none
def callV : Option Value → Option (List Value) → Option XR
  | some (.func (.func g) a cap), some args => some (.enter g (a.toList ++ args ++ cap.toList))
  | some (.func (.yield l) a cap), some args => bif a.isEmpty && cap.isEmpty then some (.round l args) else none
  | _, _ => none
def bltX (P : Program) (W : XW) (b : Builtin) (ats : Array TypeId) (type : TypeId) : Option (List Value) → Option XR
  | some args => builtinX P W b ats type args
  | none => none
def calX (P : Program) (fr : XF) (W : XW) (type : TypeId) (args : List Operand) (ats : Array TypeId) : Callee → Option XR
  | .builtin b => bltX P W b ats type (evs fr args)
  | .value f => callV (ev fr f) (evs fr args)
  | _ => none
def defV : Option Value → Option (List Value) → Option XR
  | some (.func (.func g) a cap), some args => some (.defer g (a.toList ++ args) cap.toList)
  | _, _ => none
def defX (fr : XF) (args : List Operand) : Callee → Option XR
  | .value f => defV (ev fr f) (evs fr args)
  | _ => none
def panX : Option Value → Option XR
  | some (.iface t v) => some (.pan (.iface t v))
  | _ => none
def reserveX (fr : XF) : Option Operand → Option (Option Value)
  | none => none
  | some x => some (ev fr x)
def xop (P : Program) (fr : XF) (W : XW) (type : TypeId) : Op → Option XR
  | .move x => some (.val (ev fr x))
  | .assign x => some (.val (ev fr x))
  | .pick c a b => pickX fr a b (ev fr c)
  | .alloc e => allocX e (zeroOf P e)
  | .box e x => boxX e (ev fr x)
  | .build t ps => bldX P t (evP fr ps.toList)
  | .buildSlice t n ps => bslX P fr n ps.toList (P.underlying t)
  | .load t a => ldX P W t (ev fr a)
  | .store t a x => stX W (ev fr a) (ev fr x) (sz P t)
  | .nilCheck x => nilX (ev fr x)
  | .binOp op t x y _ => binX P op t x y (ev fr x) (ev fr y)
  | .unOp op _ x => unX P op (ev fr x)
  | .convert s d x => convX P W s d (ev fr x) (P.underlying s) (P.underlying d)
  | .sliceToArrayPointer t x => s2aX (P.underlying t) (ev fr x)
  | .makeInterface t x => ifaceX t (ev fr x) (P.underlying t)
  | .makeFunc f a c => mkfX f (evs fr a.toList) (evs fr c.toList)
  | .makeMap t r => mkmX (reserveX fr r) (P.underlying t)
  | .makeSlice t l c => mksX P (P.underlying t) (ev fr l) (ev fr c)
  | .slice t x lo hi mx => slcX P fr W t lo hi mx (ev fr x)
  | .fieldAddr s x f => fadX P f (P.underlying s) (ev fr x)
  | .field t x f => fldX P f (P.underlying t) (ev fr x)
  | .indexAddr t x i => iadX P (P.underlying t) (ev fr x) (ev fr i)
  | .index t x i => idxX P (P.underlying t) (ev fr x) (ev fr i)
  | .lookup t m k ok => lkuX P W ok (P.underlying t) (ev fr m) (ev fr k)
  | .mapUpdate t m k x => updX P W (P.underlying t) (ev fr m) (ev fr k) (ev fr x)
  | .insert t m k x => updX P W (P.underlying t) (ev fr m) (ev fr k) (ev fr x)
  | .mapEntry t m k => menX P W (P.underlying t) (ev fr m) (ev fr k)
  | .entryStore _ m s x => ensX W (ev fr m) (ev fr s) (ev fr x)
  | .range t x => rngX W (P.underlying t) (ev fr x)
  | .next it s => nxtX W s (ev fr it)
  | .entry it => entX W (ev fr it)
  | .typeAssert x _ t ok => asrX P t ok (ev fr x) (P.underlying t)
  | .extract t i => extX i (ev fr t)
  | .call c => calX P fr W type c.args.toList c.argTypes c.callee
  | .defer c => defX fr c.args.toList c.callee
  | .panic x => panX (ev fr x)
  | _ => none

inductive XExit where
  | norm
  | exit (id : Nat)
  | ret
  | pan (v : Value)
inductive XDef where
  | call (f : FuncId) (args cap : List Value)
  | mark (r : Nat)
structure XS where
  fr : XF
  W : XW
  ds : List XDef
inductive XEnd where
  | ret (v : Value)
  | pan (v : Value)

/-- what is known of some functions: of a call; of a deferred call (the value of the panic that goes on, before and behind) -/
structure Hooks where
  call : FuncId → Option (List Value → XW → Option (Value × XW))
  defd : FuncId → Option (List Value → Option Value → XW → Option (Option Value × XW))

def putX (N : Nat) (fr : XF) (d : Option Tmp) (v : Option Value) : Option XF :=
  match d with
  | none => some fr
  | some t => bif Nat.blt t N then some (fr.set t v) else none
def wantV (w : Bool) : Option Value → Option Bool
  | some (.bool b) => some (b == w)
  | some _ => some false
  | none => none
def wantX (ops : Array Oper) (fr : XF) (o : Oper) : Option Bool :=
  match o.guard with
  | none => some true
  | some (j, w) => match (ops[j]?).bind (·.dst) with
    | some t => wantV w (fr.get t)
    | none => none
def setAll : XF → Nat → List Value → XF
  | fr, _, [] => fr
  | fr, n, v :: l => setAll (fr.set n (some v)) (n + 1) l
def frOf (l : List Value) : XF := setAll (PT.full 9) 0 l
def resV (P : Program) (W : XW) (fr : XF) : ResultVar → Option Value
  | .tmp t => fr.get t
  | .cell a t => match fr.get a with
    | some p => loadX P W t p
    | none => none
def resX (P : Program) (W : XW) (fr : XF) : List ResultVar → Option (List Value)
  | [] => some []
  | r :: l => match resV P W fr r, resX P W fr l with
    | some v, some vs => some (v :: vs)
    | _, _ => none
def oneOr : List Value → Value
  | [v] => v
  | l => .tuple l.toArray

inductive XT where
  | code (N : Nat) (rd : Option Nat) (c : Code) (s : XS)
  | call (f : FuncId) (args : List Value) (W : XW)
inductive XO where
  | code (e : XExit) (s : XS)
  | fin (e : XEnd) (W : XW)

/-- the arguments of a round -/
def putArgs (N : Nat) (fr : XF) : List Tmp → List Value → Option XF
  | [], [] => some fr
  | t :: ts, v :: vs => match putX N fr (some t) (some v) with
    | some fr' => putArgs N fr' ts vs
    | none => none
  | _, _ => none

def settleX (H : Hooks) : List XDef → Option Value → XW → Option (Option Value × XW)
  | [], p, W => some (p, W)
  | .mark r :: ds, p, W => match W.get r with
    | some (.defd false) => settleX H ds p (W.put r (some (.defd true)))
    | _ => none
  | .call f args cap :: ds, p, W => match H.defd f with
    | some h => match h (args ++ cap) p W with
      | some (p', W') => settleX H ds p' W'
      | none => none
    | none => none

def enterX (W : XW) : Option Nat → Option (Nat × List XDef × XW)
  | none => some (W.next, [XDef.mark W.next], W.push (.defd false))
  | some l => match W.get l with
    | some (.loop _ _ _ _ _ _ _ d) => some (d, [], W)
    | _ => none
def isBusy : LoopState → Bool
  | .busy => true
  | _ => false
abbrev XK := XT → Option XO
def seqK (k : XS → Option XO) : Option XO → Option XO
  | some (.code .norm s) => k s
  | r => r
def condK (k : Bool → Option XO) : Option Value → Option XO
  | some (.bool t) => k t
  | _ => none
def blockK (id : Nat) : Option XO → Option XO
  | some (.code (.exit i) s) => bif Nat.beq i id then some (.code .norm s) else some (.code (.exit i) s)
  | r => r
def pendK (s : XS) : Option Code → Option XO
  | none => some (.code .norm s)
  | some .ret => some (.code .ret s)
  | some (.exit id) => some (.code (.exit id) s)
  | _ => none
def loopEnd (l : Nat) (fr : XF) (ds : List XDef) (W : XW) : Option XObj → Option XO
  | some (.loop st pend tm N ps asg body d) => bif isBusy st then none else pendK ⟨fr, W.put l (some (.loop .exhausted pend tm N ps asg body d)), ds⟩ pend
  | _ => none
def rfK3 (l : Nat) (fr : XF) (ds : List XDef) : Option XO → Option XO
  | some (.fin (.ret _) W) => loopEnd l fr ds W (W.get l)
  | _ => none
def rfK1 (R : XK) (g : FuncId) (a cap : List Value) (N : Nat) (ps : List Tmp) (asg body : Code) (fr : XF) (ds : List XDef) : Option (Nat × List XDef × XW) → Option XO
  | some (d, mk, W) => rfK3 W.next fr (mk ++ ds) (R (.call g (a ++ [Value.func (.yield W.next) #[] #[]] ++ cap) (W.push (.loop .ready none fr N ps asg body d))))
  | none => none
def rfK (R : XK) (N : Nat) (rd : Option Nat) (ps : List Tmp) (asg body : Code) (s : XS) : Option Value → Option XO
  | some (.func (.func g) a cap) => rfK1 R g a.toList cap.toList N ps asg body s.fr s.ds (enterX s.W rd)
  | _ => none

/-- one operation: on, or out of the region -/
inductive O1 where
  | on (s : XS)
  | out (v : Value) (s : XS)
def onK (W : XW) (ds : List XDef) : Option XF → Option O1
  | some fr => some (.on ⟨fr, W, ds⟩)
  | none => none
def callK (N : Nat) (fr : XF) (d : Option Tmp) (ds : List XDef) : Option XO → Option O1
  | some (.fin (.ret v) W) => onK W ds (putX N fr d (some v))
  | some (.fin (.pan v) W) => some (.out v ⟨fr, W, ds⟩)
  | _ => none
def jumpOf : XExit → Option (LoopState × Option Code × Bool)
  | .norm => some (.ready, none, true)
  | .ret => some (.done, some .ret, false)
  | .exit id => some (.done, some (.exit id), false)
  | .pan _ => none
def rdK5 (N : Nat) (fr : XF) (d : Option Tmp) (ds : List XDef) (lp : Nat) (W : XW) : Option (LoopState × Option Code × Bool) → Option XObj → Option O1
  | some (st, pd, r), some (.loop _ _ tm N' ps asg body df) => onK (W.put lp (some (.loop st pd tm N' ps asg body df))) ds (putX N fr d (some (.bool r)))
  | _, _ => none
def rdK4 (N : Nat) (fr : XF) (d : Option Tmp) (ds : List XDef) (lp : Nat) : Option XO → Option O1
  | some (.code e s) => rdK5 N fr d ds lp s.W (jumpOf e) (s.W.get lp)
  | _ => none
def rdK3 (R : XK) (N : Nat) (fr : XF) (d : Option Tmp) (ds : List XDef) (lp : Nat) (N' : Nat) (body : Code) (s : XS) : Option XObj → Option O1
  | some (.loop .ready pend tm N2 ps asg body2 df) => rdK4 N fr d ds lp (R (.code N' (some lp) body ⟨s.fr, s.W.put lp (some (.loop .busy pend tm N2 ps asg body2 df)), s.ds⟩))
  | _ => none
def rdK2 (R : XK) (N : Nat) (fr : XF) (d : Option Tmp) (ds : List XDef) (lp : Nat) (N' : Nat) (body : Code) : Option XO → Option O1
  | some (.code .norm s) => rdK3 R N fr d ds lp N' body s (s.W.get lp)
  | _ => none
def rdK1 (R : XK) (N : Nat) (fr : XF) (d : Option Tmp) (ds : List XDef) (lp : Nat) (W : XW) (N' : Nat) (asg body : Code) : Option XF → Option O1
  | some fr1 => rdK2 R N fr d ds lp N' body (R (.code N' (some lp) asg ⟨fr1, W, []⟩))
  | none => none
def rdK (R : XK) (N : Nat) (fr : XF) (d : Option Tmp) (ds : List XDef) (lp : Nat) (args : List Value) (W : XW) : Option XObj → Option O1
  | some (.loop .ready _ tm N' ps asg body _) => rdK1 R N fr d ds lp W N' asg body (putArgs N' tm ps args)
  | _ => none
def dfK (N : Nat) (fr : XF) (d : Option Tmp) (W : XW) (ds : List XDef) : Option Nat → Option O1
  | none => onK W ds (putX N fr d (some undef))
  | some _ => none
def opK (R : XK) (N : Nat) (rd : Option Nat) (s : XS) (d : Option Tmp) : Option XR → Option O1
  | some (.val v) => onK s.W s.ds (putX N s.fr d v)
  | some (.new o k) => onK (s.W.push o) s.ds (putX N s.fr d (some (k s.W.next)))
  | some (.mod v W) => onK W s.ds (putX N s.fr d (some v))
  | some (.pan v) => some (.out v s)
  | some (.defer f args cap) => dfK N s.fr d s.W (.call f args cap :: s.ds) rd
  | some (.enter f args) => callK N s.fr d s.ds (R (.call f args s.W))
  | some (.round lp args) => rdK R N s.fr d s.ds lp args s.W (s.W.get lp)
  | none => none
def wantK (P : Program) (R : XK) (N : Nat) (rd : Option Nat) (s : XS) (o : Oper) : Option Bool → Option O1
  | some true => opK R N rd s o.dst (xop P s.fr s.W o.type o.op)
  | some false => onK s.W s.ds (putX N s.fr o.dst (some undef))
  | none => none
def op1 (P : Program) (R : XK) (N : Nat) (rd : Option Nat) (all : Array Oper) (s : XS) (o : Oper) : Option O1 := wantK P R N rd s o (wantX all s.fr o)
def opsK (k : XS → Option XO) : Option O1 → Option XO
  | some (.on s) => k s
  | some (.out v s) => some (.code (.pan v) s)
  | none => none
def opsX (P : Program) (R : XK) (N : Nat) (rd : Option Nat) (all : Array Oper) : List Oper → XS → Option XO
  | [], s => some (.code .norm s)
  | o :: l, s => opsK (opsX P R N rd all l) (op1 P R N rd all s o)

/-- a drawn region: each operation, with the state ahead of it and behind it -/
structure XRec where
  o : Oper
  s : XS
  s' : XS
def trcK (o : Oper) (s s' : XS) : Option (List XRec × XS) → Option (List XRec × XS)
  | some (l, t) => some (⟨o, s, s'⟩ :: l, t)
  | none => none
def trc1 (k : XS → Option (List XRec × XS)) (o : Oper) (s : XS) : Option O1 → Option (List XRec × XS)
  | some (.on s') => trcK o s s' (k s')
  | _ => none
def traceX (P : Program) (R : XK) (N : Nat) (rd : Option Nat) (all : Array Oper) : List Oper → XS → Option (List XRec × XS)
  | [], s => some ([], s)
  | o :: l, s => trc1 (traceX P R N rd all l) o s (op1 P R N rd all s o)
def edgesOf (o : Oper) : List Nat := (o.after.toList.filter (fun e => Region.binds .any e)).map (·.on)
def maskOf (acc : List Nat) : List Nat → Nat
  | [] => 0
  | e :: l => (2 ^ e ||| acc.getD e 0) ||| maskOf acc l
def masksFrom : List Oper → List Nat → List Nat
  | [], acc => acc
  | o :: l, acc => masksFrom l (acc ++ [maskOf acc (edgesOf o)])
def masks (ops : Array Oper) : List Nat := masksFrom ops.toList []
/-- the names, older than the operation, that it has changed -/
def modsOf (r : XRec) : List Nat := (r.s'.W.log.take (r.s'.W.nlog - r.s.W.nlog)).filter fun n => Nat.blt n r.s.W.next
def ordB (ms : List Nat) (i j : Nat) : Bool := (ms.getD j 0).testBit i || (ms.getD i 0).testBit j
/-- what is changed by those that stand in no order with i -/
def hides (ms : List Nat) (i : Nat) : List XRec → Nat → List Nat
  | [], _ => []
  | r :: l, j => bif Nat.beq i j || ordB ms i j then hides ms i l (j + 1) else modsOf r ++ hides ms i l (j + 1)
def hideAll (W : XW) : List Nat → XW
  | [] => W
  | n :: l => hideAll (W.put n none) l
/-- operations that may be carried out where some names are hidden -/
def calmB : Callee → Bool
  | .builtin .len => true
  | _ => false
def calmOp : Op → Bool
  | .move _ => true
  | .assign _ => true
  | .pick _ _ _ => true
  | .alloc _ => true
  | .box _ _ => true
  | .build _ _ => true
  | .buildSlice _ _ _ => true
  | .load _ _ => true
  | .nilCheck _ => true
  | .binOp _ _ _ _ _ => true
  | .unOp _ _ _ => true
  | .convert _ _ _ => true
  | .sliceToArrayPointer _ _ => true
  | .makeInterface _ _ => true
  | .makeFunc _ _ _ => true
  | .makeMap _ _ => true
  | .makeSlice _ _ _ => true
  | .slice _ _ _ _ _ => true
  | .fieldAddr _ _ _ => true
  | .field _ _ _ => true
  | .indexAddr _ _ _ => true
  | .index _ _ _ => true
  | .lookup _ _ _ _ => true
  | .typeAssert _ _ _ _ => true
  | .extract _ _ => true
  | .call c => calmB c.callee
  | _ => false
def calm : Option XR → Bool
  | some (.val _) => true
  | some (.new _ _) => true
  | _ => false
/-- those that change something and stand in no order with i -/
def umods (ms : List Nat) (i : Nat) : List XRec → Nat → List (Nat × XRec)
  | [], _ => []
  | r :: l, j => bif Nat.beq i j || ordB ms i j || (modsOf r).isEmpty then umods ms i l (j + 1) else (j, r) :: umods ms i l (j + 1)
def altW (W V : XW) : List Nat → XW
  | [] => W
  | n :: l => altW (W.put n (V.get n)) V l
def sameInt : Option XR → Option XR → Bool
  | some (.val (some (.int k a))), some (.val (some (.int k' b))) => decide (k = k') && decide (a = b)
  | _, _ => false
/-- names changed between q and r -/
def betw (q r : XRec) : List Nat := r.s.W.log.take (r.s.W.nlog - q.s'.W.nlog)
def altOk (P : Program) (r : XRec) (i : Nat) : List (Nat × XRec) → Bool
  | [(j, q)] => sameInt (xop P r.s.fr r.s.W r.o.type r.o.op) (xop P r.s.fr (altW r.s.W (bif Nat.blt i j then q.s'.W else q.s.W) (modsOf q)) r.o.type r.o.op) && (Nat.blt i j || (betw q r).all fun n => (modsOf q).all fun m => !(Nat.beq n m))
  | _ => false
def calmK (P : Program) (r : XRec) (i : Nat) (u : List Nat) (us : List (Nat × XRec)) : Option Bool → Bool
  | some true => u.isEmpty || (u.all fun n => Nat.blt n r.s.W.next || Nat.ble r.s'.W.next n) && (calmOp r.o.op && calm (xop P r.s.fr (hideAll r.s.W u) r.o.type r.o.op) || altOk P r i us)
  | some false => true
  | none => false
def okFrom (P : Program) (all : Array Oper) (ms : List Nat) (rs : List XRec) : List XRec → Nat → Bool
  | [], _ => true
  | r :: l, i => calmK P r i (hides ms i rs 0) (umods ms i rs 0) (wantX all r.s.fr r.o) && okFrom P all ms rs l (i + 1)
def defersStay : List XRec → Nat → Bool
  | [], _ => true
  | r :: l, n => Nat.beq r.s'.ds.length n && defersStay l n
def quietL (rs : List XRec) : Bool := rs.all fun r => (modsOf r).isEmpty
def okD (P : Program) (all : Array Oper) (n : Nat) (rs : List XRec) : Bool :=
  Region.lexB .any all && defersStay rs n && (quietL rs || okFrom P all (masks all) rs rs 0)
def drawK (P : Program) (all : Array Oper) (n : Nat) : Option (List XRec × XS) → Option XO
  | some (rs, s) => bif okD P all n rs then some (.code .norm s) else none
  | none => none

def codeX (P : Program) (R : XK) (N : Nat) (rd : Option Nat) (s : XS) : Code → Option XO
  | .skip => some (.code .norm s)
  | .ret => some (.code .ret s)
  | .exit id => some (.code (.exit id) s)
  | .seq a b => seqK (fun s => R (.code N rd b s)) (R (.code N rd a s))
  | .cond c a b => condK (fun t => R (.code N rd (bif t then a else b) s)) (ev s.fr c)
  | .block id b => blockK id (R (.code N rd b s))
  | .loop b => seqK (fun s => R (.code N rd (.loop b) s)) (R (.code N rd b s))
  | .region _ ops false => opsX P R N rd ops ops.toList s
  | .region _ ops true => drawK P ops s.ds.length (traceX P R N rd ops ops.toList s)
  | .rangeFunc f ps asg body => rfK R N rd ps.toList asg body s (ev s.fr f)
  | _ => none
def endOf : XExit → Option (Option Value)
  | .norm => some none
  | .ret => some none
  | .pan v => some (some v)
  | .exit _ => none
def finO (W : XW) : Option (List Value) → Option XO
  | some vs => some (.fin (.ret (oneOr vs)) W)
  | none => none
def finK (P : Program) (fn : Func) (fr : XF) : Option (Option Value × XW) → Option XO
  | some (some v, W) => some (.fin (.pan v) W)
  | some (none, W) => finO W (resX P W fr fn.results.toList)
  | none => none
def endK (P : Program) (H : Hooks) (fn : Func) (s : XS) : Option (Option Value) → Option XO
  | some p => finK P fn s.fr (settleX H s.ds p s.W)
  | none => none
def bodyK (P : Program) (H : Hooks) (fn : Func) : Option XO → Option XO
  | some (.code e s) => endK P H fn s (endOf e)
  | _ => none
def fnK (P : Program) (H : Hooks) (R : XK) (fn : Func) (args : List Value) (W : XW) : Option Code → Option XO
  | some c => bif Nat.ble args.length fn.ntmps then bodyK P H fn (R (.code fn.ntmps none c ⟨frOf args, W, []⟩)) else none
  | none => none
def notNum (fn : Func) : Bool := !(fn.name == "runtime.NumGoroutine")
def funK (P : Program) (H : Hooks) (R : XK) (args : List Value) (W : XW) : Option Func → Option XO
  | some fn => bif notNum fn then fnK P H R fn args W fn.body else none
  | none => none
def hookO : Option (Value × XW) → Option XO
  | some (v, W) => some (.fin (.ret v) W)
  | none => none
def callX (P : Program) (H : Hooks) (R : XK) (f : FuncId) (args : List Value) (W : XW) : Option (List Value → XW → Option (Value × XW)) → Option XO
  | some h => hookO (h args W)
  | none => funK P H R args W P.funcs[f]?
def stepX (P : Program) (H : Hooks) (R : XK) : XT → Option XO
  | .code N rd c s => codeX P R N rd s c
  | .call f args W => callX P H R f args W (H.call f)
def xrun (P : Program) (H : Hooks) : Nat → XT → Option XO
  | 0 => fun _ => none
  | n + 1 => stepX P H (xrun P H n)
end Go.Proofs.YthlkgmdkabelpaaGreatDoor.X
