/-
  Packed by program (tools/pack.py) out of the texts GSched GSched2 GAdd GChunk GBlock GSum GRef GRSum SHash. No condition.
-/
import Derived.Test.YthlkgmdkabelpaaGreatZL
import Derived.Deep.MidRow
import Derived.Deep.WholeRow
import Derived.RangeFuncNested
import Derived.RangeFuncBound
import Derived.RangeFuncCalls
import Derived.RangeFuncLeaves
import Derived.Shelf.Abstract
import Derived.Shelf.RegionOpen
import Derived.OwnWalkIn
import Derived.TacticsInMore
import Derived.LoopNIn
import Derived.LoopIn
import Derived.Deep.RegionHeld3
import Derived.ProofKit
import Derived.OpenShut
import Derived.Deep.Slices
import Derived.Deep.Fields
set_option linter.all false
namespace Go.Proofs.YthlkgmdkabelpaaGreat
open Go Go.RowKit
def G0(l:List aA):List Value:=l.map uv
theorem E6(l:List aA):∀v∈G0 l,v.oneCell'=true:=by
 intro v hv;simp only[G0,List.mem_map]at hv;obtain⟨x,_,rfl⟩:=hv;rfl
def bA(l:List aA):Array Value:=(G0 l).toArray
theorem jT(l:List aA):(bA l).size=l.length:=by simp[bA,G0]
theorem iz(l:List aA):(bA l).all (·.oneCell')=true:=all_oneCell_toArray (E6 l)
theorem FQ(l:List aA)(i:Nat)(h:i<l.length):(bA l)[i]?=some (.int .u32 (uw (co l i))):=by
 simp[bA,G0,co,uv,acE,abS h]
section
variable {P:Program}
theorem jv{ops:Array Oper}{rest:List Oper}{o:Oper}{a:Act}{w:World}{Q:Exit->Act->World->Prop}(hg:o.guard=none)(t:TypeId)(parts:Array (Nat×Operand))(ho:o.op=.build t parts)
 (cells:Array Value) (hf:P.built t (parts.map fun(i,x)=>(i,a.eval x)).toList=some cells)
 (h:wpList P ops Q rest (a.put o.dst (.agg cells)) w):wpList P ops Q (o::rest) a w:=
 wpList_build hg t parts ho (by rw[hf];rfl) (by rw[hf];exact h)
theorem gp{ops:Array Oper}{rest:List Oper}{o:Oper}{a:Act}{w:World}{Q:Exit->Act->World->Prop}(hgd:o.guard=none)(ty:TypeId)(x y:Operand)(ho:o.op=.store ty x y)
 (old cells:Array Value) (hx:a.eval x=.pointer (some ⟨w.heap.size,0,none⟩)) (hy:a.eval y=.agg cells)
 (hi:(P.info? ty).map (·.size)=some cells.size) (hold:old.size=cells.size) (h1:cells.all (·.oneCell')=true)
 (h:wpList P ops Q rest (a.put o.dst undef) (w.alloc (.cells cells ty))):wpList P ops Q (o::rest) a (w.alloc (.cells old ty)):=
 wpList_store_row hgd ty x y ho w.heap.size cells hx hy ty old (heap_alloc_last w _) hi hold h1 (by rw[World.setRow_alloc_new];exact h)
end
theorem dV{w:World}{o o':Obj}:((w.alloc o).alloc o').heap[w.heap.size+1]?=some o':=by
 have e:=bw (w:=w.alloc o) (o:=o');rw[World.size_alloc]at e;exact e
theorem eE{w:World}{o o':Obj}:((w.alloc o).alloc o').heap[w.heap.size]?=some o:=by
 rw[Below.heap_alloc _ _ _ (by simp)];exact bw
theorem vj:(#[Value.int IntKind.u32 0,Value.int IntKind.u32 0,Value.int IntKind.u32 0,Value.int IntKind.u32 0,Value.int IntKind.u32 0,Value.int IntKind.u32 0,Value.int IntKind.u32 0,Value.int IntKind.u32 0,Value.int IntKind.u32 0,Value.int IntKind.u32 0,Value.int IntKind.u32 0,Value.int IntKind.u32 0,Value.int IntKind.u32 0,Value.int IntKind.u32 0,Value.int IntKind.u32 0,Value.int IntKind.u32 0,Value.int IntKind.u32 0,Value.int IntKind.u32 0,Value.int IntKind.u32 0,Value.int IntKind.u32 0,Value.int IntKind.u32 0,Value.int IntKind.u32 0,Value.int IntKind.u32 0,Value.int IntKind.u32 0,Value.int IntKind.u32 0,Value.int IntKind.u32 0,Value.int IntKind.u32 0,Value.int IntKind.u32 0,Value.int IntKind.u32 0,Value.int IntKind.u32 0,Value.int IntKind.u32 0,Value.int IntKind.u32 0,Value.int IntKind.u32 0,Value.int IntKind.u32 0,Value.int IntKind.u32 0,Value.int IntKind.u32 0,Value.int IntKind.u32 0,Value.int IntKind.u32 0,Value.int IntKind.u32 0,Value.int IntKind.u32 0,Value.int IntKind.u32 0,Value.int IntKind.u32 0,Value.int IntKind.u32 0,Value.int IntKind.u32 0,Value.int IntKind.u32 0,Value.int IntKind.u32 0,Value.int IntKind.u32 0,Value.int IntKind.u32 0,Value.int IntKind.u32 0,Value.int IntKind.u32 0,Value.int IntKind.u32 0,Value.int IntKind.u32 0,Value.int IntKind.u32 0,Value.int IntKind.u32 0,Value.int IntKind.u32 0,Value.int IntKind.u32 0,Value.int IntKind.u32 0,Value.int IntKind.u32 0,Value.int IntKind.u32 0,Value.int IntKind.u32 0,Value.int IntKind.u32 0,Value.int IntKind.u32 0,Value.int IntKind.u32 0,Value.int IntKind.u32 0]:Array Value)=bA (List.replicate 64 0):=by kernel_rfl
theorem nT(l:List aA)(h:l.length=64):(Tryz.prog.info? 169).map (·.size)=some (bA l).size:=by rw[jT,h];kernel_rfl
theorem qm(l:List aA)(h:l.length=8):(Tryz.prog.info? 118).map (·.size)=some (bA l).size:=by rw[jT,h];kernel_rfl
set_option maxRecDepth 100000 in
theorem Iw(w:World):Calls Tryz.prog 96 #[] w fun e w'=>e=.returned (.agg (bA kc))/\ak aO w w':=by
 go_enter Tryz.func96,Tryz.ntmps96
 go_wp2_with (first
  |(refine jv rfl _ _ rfl (bA kc) (by kernel_rfl) ?_)
  |(refine gp rfl _ _ _ rfl _ (bA kc) rfl rfl (nT kc rfl) rfl (iz kc) ?_))
 refine bodyPost_ret (results_cell_row rfl _ _ w.heap.size _ (bA kc) (0,0) _ rfl bw Tryz.underlying169 rfl (nT kc rfl)) rfl ⟨rfl,(ak.refl _ _).alloc _⟩
set_option maxRecDepth 100000 in
theorem E3(w:World):Calls Tryz.prog 92 #[] w fun e w'=>e=.returned (.agg (bA kc))/\ak aO w w':=by
 go_enter Tryz.func92,Tryz.ntmps92
 go_wp2_with (first
  |(refine jv rfl _ _ rfl (bA kc) (by kernel_rfl) ?_)
  |(refine gp rfl _ _ _ rfl _ (bA kc) rfl rfl (nT kc rfl) rfl (iz kc) ?_))
 refine bodyPost_ret (results_cell_row rfl _ _ w.heap.size _ (bA kc) (0,0) _ rfl bw Tryz.underlying169 rfl (nT kc rfl)) rfl ⟨rfl,(ak.refl _ _).alloc _⟩
set_option maxRecDepth 100000 in
theorem LC(w:World):Calls Tryz.prog 56 #[] w fun e w'=>e=.returned (.agg (bA iv))/\ak aO w w':=by
 go_enter Tryz.func56,Tryz.ntmps56
 go_wp2_with (first
  |(refine jv rfl _ _ rfl (bA iv) (by kernel_rfl) ?_)
  |(refine gp rfl _ _ _ rfl _ (bA iv) rfl rfl (qm iv rfl) rfl (iz iv) ?_))
 refine bodyPost_ret (results_cell_row rfl _ _ w.heap.size _ (bA iv) (0,0) _ rfl bw Tryz.underlying118 rfl (qm iv rfl)) rfl ⟨rfl,(ak.refl _ _).alloc _⟩
theorem MD(b:UInt8):(b.toNat:Int)%(4294967296:Int)=uw (D1 b):=by rw[<-P9,IntKind.wrap_u32]
theorem N9(g o n cap:Nat)(x y z t:UInt8)(w:World)(hn:4<=n)(h0:w.cell? ⟨g,o,none⟩=some (.int .u8 (x.toNat:Int)))(h1:w.cell? ⟨g,o+1,none⟩=some (.int .u8 (y.toNat:Int)))
 (h2:w.cell? ⟨g,o+2,none⟩=some (.int .u8 (z.toNat:Int))) (h3:w.cell? ⟨g,o+3,none⟩=some (.int .u8 (t.toNat:Int))) :
 Calls Tryz.prog 115 #[.slice (some ⟨g,o,none⟩) n cap] w fun e w'=>e=.returned (.int .u32 (uw (Jm x y z t)))/\ak aO w w':=by
 have hn0:(0:Int)<(n:Int):=by omega
 have hn1:(1:Int)<(n:Int):=by omega
 have hn2:(2:Int)<(n:Int):=by omega
 have hn3:(3:Int)<(n:Int):=by omega
 go_enter Tryz.func115,Tryz.ntmps115
 go_wp2_with fail
 go_quiet (fail)
 go_wp2_with fail
 go_ret
 refine⟨?_,(ak.refl aO w).drewN _⟩;simp only[MD,LA,JW,P5,fg];rfl
def oQ(w:World)(g off:Nat)(b:List UInt8):Prop:=∀j,j<64->w.cell? ⟨g,off+j,none⟩=some (.int .u8 ((b.getD j 0).toNat:Int))
theorem oQ.keep{S:Nat->Prop}{w w':World}{g off:Nat}{b:List UInt8}(h:oQ w g off b)(hk:ak S w w')(hs:¬S g):oQ w' g off b:=
 fun j hj=>hk.cell (h j hj) hs
def bD(b:List UInt8)(k:Nat):List aA:=cN b k++List.replicate (64-k) 0
theorem jC(b:List UInt8)(k:Nat)(h:k<=64):(bD b k).length=64:=by simp[bD,dq];omega
theorem fK(b:List UInt8)(k i:Nat)(h:i<k):co (bD b k) i=co (cN b k) i:=by
 unfold co bD;rw[abV,abV,acz (by rw[dq];exact h)]
theorem kP(b:List UInt8)(k:Nat)(h:k<64):(bA (bD b k)).setIfInBounds k (.int .u32 (uw (kl b (cN b k))))=bA (bD b (k+1)):=by
 have e:bD b (k+1)=(bD b k).set k (kl b (cN b k)):=by unfold bD;rw[adg _ _ (by rw[dq];omega),dq,Nat.sub_self];rw[show 64-k=(64-(k+1))+1 by omega,List.replicate_succ,List.set_cons_zero];simp[cN]
 rw[e];unfold bA G0;rw[List.map_set];simp[uv]
def DS(w:World)(g:Nat)(b:List UInt8)(i:Value)(wr:World):Prop:=
 ∃k:Nat,i=.int .i64 (k:Int)/\k<=64/\wr.heap[g]?=some (.cells (bA (bD b k)) 169 (0,0))/\ak (fun x=>x=g) w wr
theorem aZ{w:World}{g:Nat}{l:List aA}{t:TypeId}(h:w.heap[g]?=some (.cells (bA l) t (0,0)))(i:Nat)(hi:i<l.length):w.cell? ⟨g,i,none⟩=some (.int .u32 (uw (co l i))):=by
 rw[bm h,FQ l i hi]
theorem QB(a b c d:aA):(uw a+uw b+uw c+uw d)%(4294967296:Int)=uw (a+b+c+d):=by
 rw[<-eZ,<-eZ,<-eZ,IntKind.wrap_u32,IntKind.wrap_u32,IntKind.wrap_u32];omega
set_option maxRecDepth 100000 in
set_option maxHeartbeats 1000000 in
theorem Cg(g off cap:Nat)(b:List UInt8)(w:World)(hb:oQ w g off b)(hc:64<=cap) :
 Calls Tryz.prog 95 #[.slice (some ⟨g,off,none⟩) 64 cap] w fun e w'=>e=.returned (.agg (bA (cN b 64)))/\ak aO w w':=by
 have hgl:g<w.heap.size:=World.block_lt_of_cell? w _ (hb 0 (by omega));obtain⟨w2,hw2⟩:∃w2,w2=(w.alloc (.cells (bA (List.replicate 64 0)) 169)).alloc (.cells (bA (List.replicate 64 0)) 169):=⟨_,rfl⟩;have hz:=vj;have k2:ak aO w w2:=by rw[hw2];exact((ak.refl _ _).alloc _).alloc _
 have hb2:=hb.keep k2 (fun e=>e);have h0:w2.heap[w.heap.size]?=some (.cells (bA (List.replicate 64 0)) 169 (0,0)):=by rw[hw2,Below.heap_alloc _ _ _ (by simp)];exact bw
 have h1:w2.heap[w.heap.size+1]?=some (.cells (bA (bD b 0)) 169 (0,0)):=by rw[hw2];have e:=bw (w:=w.alloc (.cells (bA (List.replicate 64 0)) 169)) (o:=.cells (bA (List.replicate 64 0)) 169);rw[World.size_alloc]at e;exact e
 have HB:=Lib.hid hb2;have H0:=Lib.hid h0;have H1:=Lib.hid h1;have K2:=Lib.hid k2;have HZ:=Lib.hid hz;have HW2:=Lib.hid hw2;have HC:=Lib.hid hc;clear hb hb2 h0 h1 k2 hz hw2 hc
 go_enter Tryz.func95,Tryz.ntmps95
 go_wp2_with fail
 rw[HZ.out,<-HW2.out]
 go_loopw [9] (DS w2 (w.heap.size+1) b) (fun i _=>64-(intOf i).toNat)
 case atStart=>exact⟨0,rfl,by omega,H1.out,ak.refl _ _⟩
 obtain⟨k,rfl,hk,hr,hkr⟩:=hrel;by_cases hlt:k<64
 ·by_cases h16:k<16
  ·have hbr:=HB.out.keep hkr (fun e=>by omega);have hne:¬cap=4*k:=by have:=HC.out;omega
   have hk0:(0:Int)<=(k:Int):=by omega
   have hk1:(k:Int)<16:=by omega
   have hk64:(k:Int)<64:=by omega
   have HBR:=Lib.hid hbr;have HR:=Lib.hid hr;have HKR:=Lib.hid hkr;clear hbr hr hkr
   go_wp2_with fail
   have e4:∀j,j<4->wr.cell? ⟨g,off+4*k+j,none⟩=some (.int .u8 ((b.getD (4*k+j) 0).toNat:Int)):=fun j hj=>by
    have:=HBR.out (4*k+j) (by omega);rwa [<-adb]at this
   refine(N9 g (off+4*k) (64-4*k) (cap-4*k) _ _ _ _ wr (by omega) (e4 0 (by omega)) (e4 1 (by omega)) (e4 2 (by omega)) (e4 3 (by omega))).mono ?_;rintro e w3 ⟨rfl,k3⟩;have hr3:=k3.heap HR.out (fun e=>e);have hc3:=aZ hr3 k (by rw[jC b k (by omega)];exact hlt);have hf3:=dS hr3 k;have HR3:=Lib.hid hr3;have K3:=Lib.hid k3;clear hr3 k3 e4
   go_wp2_with fail
   go_roundw
   case rel=>refine⟨k+1,by simp,by omega,?_,(HKR.out.trans (K3.out.any' _)).setCell (fun _=>rfl) _⟩;rw[eu HR3.out,<-kP b k hlt];unfold kl;rw[dq,if_pos h16];rfl
   case measure=>simp[intOf];omega
  have g15:=fK b k (k-15) (by omega);have g2:=fK b k (k-2) (by omega);have g16:=fK b k (k-16) (by omega);have g7:=fK b k (k-7) (by omega);have hl:=jC b k (by omega);have c15:=aZ hr (k-15) (by rw[hl];omega);have c2:=aZ hr (k-2) (by rw[hl];omega);have c16:=aZ hr (k-16) (by rw[hl];omega);have c7:=aZ hr (k-7) (by rw[hl];omega);have ck:=aZ hr k (by rw[hl];omega);have cf:=dS hr k;have hnx:kl b (cN b k)=co (bD b k) (k-16)+U6 (co (bD b k) (k-15))+co (bD b k) (k-7)+TY (co (bD b k) (k-2)):=by unfold kl;rw[dq,if_neg h16,g15,g2,g16,g7]
  clear g15 g2 g16 g7 hl;obtain⟨i15,h15⟩:∃i,i=k-15:=⟨_,rfl⟩;obtain⟨i2,h2⟩:∃i,i=k-2:=⟨_,rfl⟩;obtain⟨i16,hi16⟩:∃i,i=k-16:=⟨_,rfl⟩;obtain⟨i7,h7⟩:∃i,i=k-7:=⟨_,rfl⟩;rw[<-h15]at c15 hnx;rw[<-h2]at c2 hnx;rw[<-hi16]at c16 hnx;rw[<-h7]at c7 hnx;obtain⟨a15,e15⟩:∃x,x=co (bD b k) i15:=⟨_,rfl⟩;obtain⟨a2,e2⟩:∃x,x=co (bD b k) i2:=⟨_,rfl⟩;obtain⟨a16,e16⟩:∃x,x=co (bD b k) i16:=⟨_,rfl⟩;obtain⟨a7,e7⟩:∃x,x=co (bD b k) i7:=⟨_,rfl⟩;rw[<-e15]at c15 hnx;rw[<-e2]at c2 hnx;rw[<-e16]at c16 hnx;rw[<-e7]at c7 hnx;clear e15 e2 e16 e7;have hk0:(0:Int)<=(k:Int):=by omega
  have hk1:¬(k:Int)<16:=by omega
  have hk16:(16:Int)<=(k:Int):=by omega
  have hk64:(k:Int)<64:=by omega
  have p15:(0:Int)<=(i15:Int)/\(i15:Int)<64:=by omega
  have p2:(0:Int)<=(i2:Int)/\(i2:Int)<64:=by omega
  have p16:(0:Int)<=(i16:Int)/\(i16:Int)<64:=by omega
  have p7:(0:Int)<=(i7:Int)/\(i7:Int)<64:=by omega
  have w15:IntKind.i64.wrap ((k:Int)-15)=(i15:Int):=by rw[IntWalk.i64_in _ (by omega)];omega
  have wi2:IntKind.i64.wrap ((k:Int)-2)=(i2:Int):=by rw[IntWalk.i64_in _ (by omega)];omega
  have w16:IntKind.i64.wrap ((k:Int)-16)=(i16:Int):=by rw[IntWalk.i64_in _ (by omega)];omega
  have w7:IntKind.i64.wrap ((k:Int)-7)=(i7:Int):=by rw[IntWalk.i64_in _ (by omega)];omega
  have HR:=Lib.hid hr;have HKR:=Lib.hid hkr;have HNX:=Lib.hid hnx;clear hr hkr hnx h15 h2 hi16 h7
  go_wp2_with fail
  go_quiet (fail)
  go_wp2_with fail
  refine(Xm a15 _).mono ?_;rintro e w3 ⟨rfl,rfl⟩
  go_wp2_with fail
  refine(Qw a15 _).mono ?_;rintro e w3 ⟨rfl,rfl⟩
  go_wp2_with fail
  refine(Qi a2 _).mono ?_;rintro e w3 ⟨rfl,rfl⟩
  go_wp2_with fail
  refine(Re a2 _).mono ?_;rintro e w3 ⟨rfl,rfl⟩
  go_wp2_with fail
  go_region
  go_wp2_with fail
  go_roundw
  case rel=>refine⟨k+1,by simp,by omega,?_,((HKR.out.drewN _).setCell (fun _=>rfl) _)⟩;simp only[PF,K0,nK];have hh:(wr.drewN (nq+1)).heap[w.heap.size+1]?=some (.cells (bA (bD b k)) 169 (0,0)):=HR.out;rw[QB,eu hh,<-kP b k hlt,HNX.out];rfl
  case measure=>simp[intOf];omega
 obtain rfl:k=64:=by omega
 have e64:bD b 64=cN b 64:=by simp[bD]
 rw[e64]at hr;have h0:=hkr.heap H0.out (fun e=>by omega);have hl:(cN b 64).length=64:=dq b 64;have hs:=nT _ hl;have HR:=Lib.hid hr;have HKR:=Lib.hid hkr;have HH0:=Lib.hid h0;have HS:=Lib.hid hs;have HL:=Lib.hid hl;clear hr hkr h0 hs hl e64 hlt
 go_wp2_with (first
  |(refine wpList_load_row rfl _ _ rfl (w.heap.size+1) rfl _ (bA (cN b 64)) (0,0) _ HR.out Tryz.underlying169 rfl HS.out ?_)
  |(refine wpList_store_row rfl _ _ _ rfl w.heap.size (bA (cN b 64)) rfl rfl _ _ HH0.out HS.out (by rw[jT,jT,HL.out];rfl) (iz _) ?_))
 refine bodyPost_ret (results_cell_row rfl _ _ w.heap.size _ (bA (cN b 64)) (0,0) _ rfl (setRow_heap _ _ _ _ _ _ HH0.out) Tryz.underlying169 rfl HS.out) rfl ⟨rfl,?_⟩;have hk:=HKR.out.mono (T:=fun x=>x=w.heap.size\/x=w.heap.size+1) (fun _ _ e=>.inr e);have hk2:ak (fun x=>x=w.heap.size\/x=w.heap.size+1) w2 (wr.setRow w.heap.size (bA (cN b 64))):=
  hk.trans ⟨rfl,rfl,rfl,by simp,fun j hj hn=>setRow_other _ _ _ _ (fun e=>hn (.inl e))⟩
 exact K2.out.trans' hk2 (fun j hj e=>by omega)
theorem y7(a b:aA):(uw a+uw b)%(4294967296:Int)=uw (a+b):=by
 rw[<-eZ,IntKind.wrap_u32]
theorem Qe(a b c d e:aA):(uw a+uw b+uw c+uw d+uw e)%(4294967296:Int)=uw (a+b+c+d+e):=by
 rw[<-eZ,<-eZ,<-eZ,<-eZ,IntKind.wrap_u32,IntKind.wrap_u32,IntKind.wrap_u32,IntKind.wrap_u32];omega
def WW(w:World)(T:List aA)(s:S8)(a b c d e f g h i:Value)(wr:World):Prop:=
 ∃k:Nat,i=.int .i64 (k:Int)/\k<=64/\a=.int .u32 (uw (fH T s k).a)/\b=.int .u32 (uw (fH T s k).b)/\c=.int .u32 (uw (fH T s k).c)/\d=.int .u32 (uw (fH T s k).d) /\
  e=.int .u32 (uw (fH T s k).e)/\f=.int .u32 (uw (fH T s k).f)/\g=.int .u32 (uw (fH T s k).g)/\h=.int .u32 (uw (fH T s k).h)/\ak aO w wr
theorem tw{P:Program}(T e:TypeId)(n:Nat)(hu:P.underlying T=some (.array n e))(hsz:(P.info? e).map (·.size)=some 1)(hue:P.underlying e=some (.int .u32))(l:List aA)(k:Nat)(hk:k<n)(hl:l.length=n)(w:World) :
 (Instr.index T (.agg (bA l)) (.int .i64 (k:Int))).run P w=.ok (.int .u32 (uw (co l k))) w:=by
 cases hq:P.info? e with
 |none=>simp[hq]at hsz
 |some i=>
  have hi:i.size=1:=by simpa[hq]using hsz
  have h1:(bA l)[k]?=some (.int .u32 (uw (co l k))):=FQ l k (by omega);have h2:k<(bA l).size:=by rw[jT];omega
  have h3:(bA l)[k]=.int .u32 (uw (co l k)):=by rw[acl h2]at h1;exact Option.some.inj h1
  have hagg:(isAgg e).run P w=.ok false w:=by unfold isAgg;rw[abU,run_underlying hue w];rfl
  simp[Instr.index,asIntOf,run_underlying hu,sizeOf,typeInfo,hq,hi,hk,part,h1,hagg]
def rP(s t:S8)(k:Nat):List aA:=(List.range 8).map fun i=>if i<k then co s.list i+co t.list i else co s.list i
theorem vX(s t:S8)(k:Nat):(rP s t k).length=8:=by simp[rP]
theorem EB(s t:S8)(k:Nat)(h:k<8):co (rP s t k) k=co s.list k:=by
 unfold rP;rw[co,abV];simp[h]
theorem AS(s t:S8)(k:Nat)(h:k<8):(bA (rP s t k)).setIfInBounds k (.int .u32 (uw (co s.list k+co t.list k)))=bA (rP s t (k+1)):=by
 match k,h with
 |0,_=>rfl
 |1,_=>rfl
 |2,_=>rfl
 |3,_=>rfl
 |4,_=>rfl
 |5,_=>rfl
 |6,_=>rfl
 |7,_=>rfl
def GO(w:World)(sb:Nat)(s t:S8)(i:Value)(wr:World):Prop:=
 ∃k:Nat,i=.int .i64 (k:Int)/\k<=8/\wr.heap[sb]?=some (.cells (bA (rP s t k)) 118 (0,0))/\ak (fun x=>x=sb) w wr
set_option maxRecDepth 100000 in
set_option maxHeartbeats 1000000 in
theorem RW(sb g off cap:Nat)(s:S8)(b:List UInt8)(w:World)(hs:w.heap[sb]?=some (.cells (bA s.list) 118 (0,0)))(hb:oQ w g off b)(hc:64<=cap)(hne:g≠sb) :
 Calls Tryz.prog 58 #[.pointer (some ⟨sb,0,none⟩),.slice (some ⟨g,off,none⟩) 64 cap] w fun e w'=>e=.returned (.tuple #[]) /\
  w'.heap[sb]?=some (.cells (bA (dw s b).list) 118 (0,0))/\ak (fun x=>x=sb) w w':=by
 have HS:=Lib.hid hs;have HB:=Lib.hid hb;have HNE:=Lib.hid hne;have hsl:sb<w.heap.size:=fy hs;obtain⟨T,hT⟩:∃T,T=cN b 64:=⟨_,rfl⟩;have hlT:T.length=64:=by rw[hT];exact dq b 64
 have HT:=Lib.hid hT;have HL:=Lib.hid hlT;clear hs hb hne hT hlT
 go_enter Tryz.func58,Tryz.ntmps58
 go_wp2_with fail
 refine(Cg g off cap b w HB.out hc).mono ?_;rintro e w1 ⟨rfl,k1⟩;have K1:=Lib.hid k1;have z1:=k1.size;clear k1;rw[<-HT.out]
 go_wp2_with fail
 refine(Iw w1).mono ?_;rintro e w2 ⟨rfl,k2⟩;have K2:=Lib.hid k2;have z2:=k2.size;clear k2;obtain⟨w3,hw3⟩:∃w3,w3=((((w2.alloc (.cells (bA (List.replicate 64 0)) 169)).alloc (.cells (bA (List.replicate 64 0)) 169)).setRow w2.heap.size (bA T)).setRow (w2.heap.size+1) (bA kc)):=⟨_,rfl⟩;have HW3:=Lib.hid hw3;have hT3:w3.heap[w2.heap.size]?=some (.cells (bA T) 169 (0,0)):=by rw[hw3,setRow_other _ _ _ _ (by omega)];exact setRow_heap _ _ _ _ _ _ eE
 have hK3:w3.heap[w2.heap.size+1]?=some (.cells (bA kc) 169 (0,0)):=by rw[hw3];exact setRow_heap _ _ (bA (List.replicate 64 0)) _ _ _ (by rw[setRow_other _ _ _ _ (by omega)];exact dV)
 have k3:ak aO w2 w3:=by
  rw[hw3];exact⟨rfl,rfl,rfl,by simp only[setRow_size,World.size_alloc];omega,fun j hj _=>by
   rw[setRow_other _ _ _ _ (by omega),setRow_other _ _ _ _ (by omega),Below.heap_alloc _ _ _ (by simp;omega),Below.heap_alloc _ _ _ hj]⟩
 have hs3:=(((K1.out.trans K2.out).trans k3)).heap HS.out (fun e=>e);have K3:=Lib.hid (((K1.out.trans K2.out).trans k3));have HT3:=Lib.hid hT3;have HK3:=Lib.hid hK3;have HS3:=Lib.hid hs3;have hl8:s.list.length=8:=rfl;have c0:=aZ hs3 0 (by rw[hl8];omega);have c1:=aZ hs3 1 (by rw[hl8];omega);have c2:=aZ hs3 2 (by rw[hl8];omega);have c3:=aZ hs3 3 (by rw[hl8];omega);have c4:=aZ hs3 4 (by rw[hl8];omega);have c5:=aZ hs3 5 (by rw[hl8];omega);have c6:=aZ hs3 6 (by rw[hl8];omega);have c7:=aZ hs3 7 (by rw[hl8];omega);clear hw3 hT3 hK3 k3 hs3 hl8
 go_wp2_with (first
  |(refine wpList_store_row rfl _ _ _ rfl w2.heap.size (bA T) rfl rfl 169 _ eE (nT _ HL.out) (by rw[jT,HL.out];rfl) (iz _) ?_)
  |(refine wpList_store_row rfl _ _ _ rfl (w2.heap.size+1) (bA kc) rfl rfl 169 (bA (List.replicate 64 0)) (by rw[setRow_other _ _ _ _ (by omega),vj];exact dV) (nT _ rfl) (by rfl) (iz _) ?_))
 rw[vj,<-HW3.out]
 go_frame
 go_quiet (fail)
 obtain⟨w4,hw4⟩:∃w4,w4=w3.drewN nq:=⟨_,rfl⟩;have K4:=Lib.hid (show ak aO w3 w4 by rw[hw4];exact(ak.refl _ _).drewN _);rw[<-hw4];clear hw4 c0 c1 c2 c3 c4 c5 c6 c7
 go_wp2_with fail
 go_loopw [6,7,8,9,10,11,12,13,54] (WW w4 T s) (fun _ _ _ _ _ _ _ _ i _=>64-(intOf i).toNat)
 case atStart=>exact⟨0,rfl,by omega,rfl,rfl,rfl,rfl,rfl,rfl,rfl,rfl,ak.refl _ _⟩
 obtain⟨k,rfl,hk,rfl,rfl,rfl,rfl,rfl,rfl,rfl,rfl,hkr⟩:=hrel;by_cases hlt:k<64
 ·have ct:=aZ ((K4.out.trans hkr).heap HT3.out (fun e=>e)) k (by rw[HL.out];exact hlt);have ck:=aZ ((K4.out.trans hkr).heap HK3.out (fun e=>e)) k hlt;obtain⟨t,ht⟩:∃t,t=fH T s k:=⟨_,rfl⟩;rw[<-ht];obtain⟨xt,hxt⟩:∃x,x=co T k:=⟨_,rfl⟩;obtain⟨xk,hxk⟩:∃x,x=co kc k:=⟨_,rfl⟩;rw[<-hxt]at ct;rw[<-hxk]at ck;obtain⟨ta,tb,tc,td,te,tf,tg,th⟩:=t;have hk0:(0:Int)<=(k:Int):=by omega
  have hk1:(k:Int)<64:=by omega
  have hsg:¬(IntKind.u32.signed=true):=by decide
  have hmx:IntKind.u32.max=4294967295:=by decide
  have HR:=Lib.hid ht;have HX:=Lib.hid hxt;have HY:=Lib.hid hxk;have HKR:=Lib.hid hkr;clear ht hxt hxk hkr
  go_wp2_with fail
  go_quiet ((go_at_call 97;exact Calls.quiet_of_same ((JL te _).mono fun _ _ h=>⟨h.1,h.2.symm⟩)))
  go_wp2_with fail
  refine(L2 ta _).mono ?_;rintro e w5 ⟨rfl,rfl⟩
  go_wp2_with fail
  go_roundw
  case rel=>
   have e1:fH T s (k+1)=KD ⟨ta,tb,tc,td,te,tf,tg,th⟩ xk xt:=by rw[HR.out,HX.out,HY.out];rfl
   refine⟨k+1,by simp,by omega,?_,?_,?_,?_,?_,?_,?_,?_,HKR.out.trans ((ak.refl aO wr).drewN _)⟩;all_goals
    rw[e1];try simp only[Mn,JX,nK,Qe,y7]
    try rfl
  case measure=>simp[intOf];omega
 obtain rfl:k=64:=by omega
 obtain⟨t,ht⟩:∃t,t=fH T s 64:=⟨_,rfl⟩;rw[<-ht];obtain⟨ta,tb,tc,td,te,tf,tg,th⟩:=t;have hsr:=(K4.out.trans hkr).heap HS3.out (fun e=>e);have HSR:=Lib.hid hsr;have HR:=Lib.hid ht;have HKR:=Lib.hid (K4.out.trans hkr);clear hsr ht hkr hlt
 go_wp2_with fail
 obtain⟨wo,rfl⟩:∃wo:World,wo=wr:=⟨_,rfl⟩
 go_loopw [114] (GO wo sb s ⟨ta,tb,tc,td,te,tf,tg,th⟩) (fun i _=>8-(intOf i).toNat)
 case atStart=>exact⟨0,rfl,by omega,HSR.out,ak.refl _ _⟩
 obtain⟨k,rfl,hk,hr,hkr⟩:=hrel;by_cases hlt:k<8
 ·have hix:=tw (P:=Tryz.prog) 118 117 8 Tryz.underlying118 (by kernel_rfl) Tryz.underlying117 [ta,tb,tc,td,te,tf,tg,th] k hlt rfl;have hix2:∀w,(Instr.index 118 (.agg #[.int .u32 (uw ta),.int .u32 (uw tb),.int .u32 (uw tc),.int .u32 (uw td),.int .u32 (uw te),.int .u32 (uw tf),.int .u32 (uw tg),.int .u32 (uw th)]) (.int .i64 (k:Int))).run Tryz.prog w=.ok (.int .u32 (uw (co [ta,tb,tc,td,te,tf,tg,th] k))) w:=hix;obtain⟨x,hx⟩:∃x,x=co [ta,tb,tc,td,te,tf,tg,th] k:=⟨_,rfl⟩;rw[<-hx]at hix2;have ck:=aZ hr k (by rw[vX];exact hlt);rw[EB _ _ _ hlt]at ck;have cf:=dS hr k;obtain⟨y,hy⟩:∃y,y=co s.list k:=⟨_,rfl⟩;rw[<-hy]at ck;have hk0:(0:Int)<=(k:Int):=by omega
  have hk1:(k:Int)<8:=by omega
  have HX:=Lib.hid hx;have HY:=Lib.hid hy;have HRR:=Lib.hid hr;have HKR2:=Lib.hid hkr;clear hix hx hy hr hkr
  go_wp2_with fail
  go_region
  go_wp2_with fail
  go_roundw
  case rel=>refine⟨k+1,by simp,by omega,?_,((HKR2.out.setCell (fun _=>rfl) _)).drew⟩;show(wr.setCell _ _).heap[sb]?=_;rw[y7,eu HRR.out,<-AS _ _ _ hlt,HX.out,HY.out];rfl
  case measure=>simp[intOf];omega
 obtain rfl:k=8:=by omega
 have HRR:=Lib.hid hr;have HKR2:=Lib.hid hkr;clear hr hkr hlt
 go_wp2_with fail
 go_end0
 refine⟨rfl,?_,?_⟩
 ·rw[HRR.out];have e:dw s b=sS s ⟨ta,tb,tc,td,te,tf,tg,th⟩:=by rw[HR.out,HT.out];rfl
  rw[e];rfl
 exact(((K3.out.trans HKR.out).any' _).trans HKR2.out)
open Go.Shelf
attribute [local go_sem] Oper.semAt_some
def nO(N k:Nat)(pre:List (Fin N)):Prop:=pre.map (·.val)=List.range k
theorem Bx{N k:Nat}{pre:List (Fin N)}(h:nO N k pre):pre.length=k:=by
 have:=congrArg List.length h;simpa using this
theorem EZ{N k:Nat}{pre:List (Fin N)}(h:nO N k pre)(x:Fin N)(hx:x.val=k):nO N (k+1) (pre++[x]):=by
 unfold nO at *;rw[acn,h,List.range_succ];simp[hx]
def xh(b:Nat){N:Nat}(x:Fin N):Array Value:=#[.slice (some ⟨b,64*x.val,none⟩) 64 64]
def Ju(a1:Act)(w1:World):Exit->Act->World->Prop
 |.normal,a',w'=>a'=a1/\w'=w1
 |_,_,_=>False
theorem FC{F:Fence}{n:Nat}{P:Program}{c:Code}{Q:Exit->Act->World->Prop}{a:Act}{w:World}{a1:Act}{w1:World}
 (h:c.wpIn F n P (Ju a1 w1) a w) (hk:Q .normal a1 w1):c.wpIn F n P Q a w:=
 wpIn_mono h (by intro e a w h;cases e<;>first|(obtain⟨rfl,rfl⟩:=h;exact hk)|exact h.elim)
theorem iC{P:Program}{c:Code}{Q:Exit->Act->World->Prop}{a:Act}{w:World}{a1:Act}{w1:World}
 (h:c.wp P (Ju a1 w1) a w) (hk:Q .normal a1 w1):c.wp P Q a w:=
 Code.wp_mono (by intro e a w h;cases e<;>first|(obtain⟨rfl,rfl⟩:=h;exact hk)|exact h.elim) h
theorem OC{F:Fence}{n:Nat}{P:Program}{c:Code}{Q:Exit->Act->World->Prop}{a:Act}{w:World}{a1:Act}{w1:World}
 (h:c.wpIn F n P (fun e a' w'=>e=.normal/\a'=a1/\w'=w1) a w) (hk:Q .normal a1 w1):c.wpIn F n P Q a w:=
 wpIn_mono h (by rintro _ _ _ ⟨rfl,rfl,rfl⟩;exact hk)
set_option maxRecDepth 100000 in
set_option maxHeartbeats 2000000 in
theorem MB(F:Fence)(n:Nat)(hf:F.fn 94)(hro:F.round=none)(hn:1<=n)(l Bs Bn b cap N:Nat)(T:Nat->Prop)(hN:N<=2199023255552)(hcap:64*N<=cap)
 (hTs:¬T Bs) (hTn:¬T Bn) (J Jx:List (Fin N)->World->Prop)
 (hY:∀pre x W,J pre W->pre.length<N->YieldAt F (n-1) Tryz.prog l (xh b x) W fun e W'=>
  (e=.returned (.bool true)/\J (pre++[x]) W'/\ak T W W')\/(e=.returned (.bool false)/\Jx (pre++[x]) W'))
 (hJd:∀pre W,J pre W->J pre W.drew)
 (W:World) (hBs:W.cell? ⟨Bs,0,none⟩=some (.slice (some ⟨b,0,none⟩) (64*N) cap)) (hBn:W.cell? ⟨Bn,0,none⟩=some (.int .i64 64)) (h0:J [] W) :
 CallsIn F n Tryz.prog 94 #[.func (.yield l) #[] #[],.pointer (some ⟨Bs,0,none⟩),.pointer (some ⟨Bn,0,none⟩)] W fun e W'=>(∃v,e=.returned v) /\
  ((∃ys,nO N N ys/\J ys W')\/(∃pre,True/\Jx pre W')):=by
 refine callsIn_of_wp Tryz.func94 rfl hf ?_ hro;simp only[Tryz.ntmps94,List.size_toArray,List.length_cons,List.length_nil,Nat.reduceAdd,Nat.reduceSub,Array.replicate_succ,Array.replicate_zero,List.push_toArray,List.append_toArray,List.nil_append,List.cons_append]
 gi_wp2
 gi_loopw [4] (fun i wr=>∃k:Nat,k<=N/\i=.int .i64 ((64*k:Nat):Int)/\(∃pre,nO N k pre/\J pre wr)/\ak T W wr)
  (fun i _=>64*N-(intOf i).toNat)
 case atStart=>exact⟨0,abW _,rfl,⟨[],rfl,h0⟩,ak.refl _ _⟩
 obtain⟨k,hk,rfl,⟨pre,hpre,hJs⟩,hkr⟩:=hrel;have c1:=hkr.cell hBs hTs;have c2:=hkr.cell hBn hTn;have hle:=Bx hpre;by_cases hlt:k<N
 ·obtain⟨i,hi⟩:∃i,i=64*k:=⟨_,rfl⟩;obtain⟨fn,tmps,assign,body,hy,hR⟩:=hY pre ⟨k,hlt⟩ wr.drew (hJd _ _ hJs) (by omega);unfold xh at hy;simp only[<-hi]at hy;obtain⟨L,hL⟩:∃L,L=64*N:=⟨_,rfl⟩;rw[<-hi];rw[<-hL]at c1;have hi0:(0:Int)<=(i:Int):=by omega
  have hi1:(i:Int)<(L:Int):=by omega
  have hi2:(i:Int)<=(L:Int):=by omega
  have hic:¬cap=i:=by omega
  have hsub:(L:Int)-(i:Int)=((L-i:Nat):Int):=by omega
  have h64:(64:Int)<=((L-i:Nat):Int):=by omega
  have hmin:(if((L-i:Nat):Int)<64 then((L-i:Nat):Int)else 64)=(64:Int):=if_neg (by omega);have hic2:(i:Int)+64<=(cap:Int):=by omega
  have hi3:(i:Int)<=140737488355328:=by omega
  have e64:((i:Int)+64).toNat-i=64:=by omega
  have hn64:¬((i:Int)+64).toNat=i:=by omega
  have HI:=Lib.hid hi;have HL:=Lib.hid hL;have HK:=Lib.hid hkr;have HP:=Lib.hid hpre;have HLE:=Lib.hid hle;clear hi hL hkr hpre hle hBs hBn hk
  gi_wp2
  apply OC
  ·gi_region
   all_goals exact⟨rfl,rfl,rfl⟩
  gi_wp2
  refine hR.mono ?_;rintro e W3 (⟨rfl,hJ3,hk3⟩|⟨rfl,hJx3⟩)
  ·have c3:W3.cell? ⟨Bn,0,none⟩=some (.int .i64 64):=hk3.cell (w:=wr.drew) c2 hTn;clear c1 c2
   gi_wp2
   go_roundw
   case rel=>exact⟨k+1,by omega,by rw[HI.out];go_num,⟨_,EZ HP.out ⟨k,hlt⟩ rfl,hJ3⟩,(HK.out.drew).trans hk3⟩
   case measure=>have:=HL.out;have:=HI.out;simp[intOf];omega
  gi_wp2
  refine bodyPost_ret (results_none rfl _ _ _) rfl ?_;exact⟨⟨_,rfl⟩,.inr ⟨_,trivial,hJx3⟩⟩
 obtain rfl:k=N:=by omega
 gi_wp2
 go_end0
 exact⟨⟨_,rfl⟩,.inl ⟨_,hpre,hJs⟩⟩
theorem kR{P:Program}(T:TypeId)(hu:P.underlying T=some .string)(b:List UInt8)(x:Int)(i:Nat)(hx:x=(i:Int))(hi:i<b.length)(w:World) :
 (Instr.index T (.string (str b)) (.int .i64 x)).run P w=.ok (.int .u8 ((b.getD i 0).toNat:Int)) w:=by
 subst hx;have hs:=dO b;have h1:(str b)[i]?=some (b.getD i 0):=by show(if h:i<(str b).size then some (str b)[i]else none)=_;rw[dif_pos (by omega),abV,abS hi];rfl
 simp[Instr.index,asIntOf,run_underlying hu,h1]
theorem vu(w:World)(g k i:Nat)(v x:Value)(h:¬(k=i))(hc:w.cell? ⟨g,i,none⟩=some x):(w.setCell ⟨g,k,none⟩ v).cell? ⟨g,i,none⟩=some x:=
 (World.cell?_setCell_other _ _ _ _ (fun e=>h (by cases e;rfl))).trans hc
theorem DB:(#[Value.int IntKind.u32 0,Value.int IntKind.u32 0,Value.int IntKind.u32 0,Value.int IntKind.u32 0,Value.int IntKind.u32 0,Value.int IntKind.u32 0,Value.int IntKind.u32 0,Value.int IntKind.u32 0]:Array Value)=bA (List.replicate 8 0):=by kernel_rfl
theorem PH(s:S8):s.list.length=8:=rfl
theorem Bu{P:Program}{ops:Array Oper}{rest:List Oper}{o:Oper}{a:Act}{w:World}{Q:Exit->Act->World->Prop}(hgd:o.guard=none)(ty:TypeId)(x y:Operand)(ho:o.op=.store ty x y)
 (g:Nat) (v0 v1 v2 v3 v4 v5 v6 v7:Value) (hx:a.eval x=.pointer (some ⟨g,0,none⟩)) (hy:a.eval y=.agg #[v0,v1,v2,v3,v4,v5,v6,v7])
 (t:TypeId) (old:Array Value) (hg:w.heap[g]?=some (.cells old t (0,0))) (hi:(P.info? ty).map (·.size)=some 8) (hold:old.size=8)
 (h0:v0.oneCell'=true) (h1:v1.oneCell'=true) (h2:v2.oneCell'=true) (h3:v3.oneCell'=true) (h4:v4.oneCell'=true) (h5:v5.oneCell'=true) (h6:v6.oneCell'=true) (h7:v7.oneCell'=true)
 (h:wpList P ops Q rest (a.put o.dst undef) (w.setRow g #[v0,v1,v2,v3,v4,v5,v6,v7])):wpList P ops Q (o::rest) a w:=
 wpList_store_row hgd ty x y ho g #[v0,v1,v2,v3,v4,v5,v6,v7] hx hy t old hg hi hold (by simp[h0,h1,h2,h3,h4,h5,h6,h7]) h
theorem QR(a b c d e f g:aA):(uw a+uw b+uw c+uw d+uw e+(uw f+uw g))%(4294967296:Int)=uw (a+b+c+d+e+(f+g)):=by
 rw[<-eZ,<-eZ,<-eZ,<-eZ,<-eZ,<-eZ];simp only[IntKind.wrap_u32];omega
theorem SF(z a b c d e:aA):(uw z+(uw a+uw b+uw c+uw d+uw e))%(4294967296:Int)=uw (z+(a+b+c+d+e)):=by
 rw[<-eZ,<-eZ,<-eZ,<-eZ,<-eZ];simp only[IntKind.wrap_u32];omega
def Vn(w:World)(g:Nat)(T:List aA)(s:S8)(i:Value)(wr:World):Prop:=
 ∃k:Nat,i=.int .i64 (k:Int)/\k<=64/\wr.heap[g]?=some (.cells (bA (fH T s k).list) 118 (0,0))/\ak (fun x=>x=g) w wr
set_option maxRecDepth 100000 in
set_option maxHeartbeats 4000000 in
theorem Mg(s:S8)(b:List UInt8)(w:World)(hb:b.length=64) :
 Calls Tryz.prog 54 #[.agg (bA s.list),.string (str b)] w fun e w'=>e=.returned (.agg (bA (dw s b).list))/\ak aO w w':=by
 obtain⟨w1,hw1⟩:∃w1,w1=(w.alloc (.cells (bA s.list) 118)).alloc (.cells (bA (List.replicate 8 0)) 118):=⟨_,rfl⟩;have k1:ak aO w w1:=by rw[hw1];exact((ak.refl _ _).alloc _).alloc _
 have z1:w1.heap.size=w.heap.size+2:=by rw[hw1];simp
 have h10:w1.heap[w.heap.size]?=some (.cells (bA s.list) 118 (0,0)):=by rw[hw1];exact eE
 have h11:w1.heap[w.heap.size+1]?=some (.cells (bA (List.replicate 8 0)) 118 (0,0)):=by rw[hw1];exact dV
 have HW1:=Lib.hid hw1;have K1:=Lib.hid k1;have Z1:=Lib.hid z1;have H10:=Lib.hid h10;have H11:=Lib.hid h11;have HB:=Lib.hid hb;clear hw1 k1 z1 h10 h11 hb
 go_enter Tryz.func54,Tryz.ntmps54
 go_wp2_with fail
 rw[DB,<-HW1.out];refine(E3 w1).mono ?_;rintro e w2 ⟨rfl,k2⟩;have K2:=Lib.hid k2;have z2:=k2.size;clear k2;obtain⟨w4,hw4⟩:∃w4,w4=(w2.alloc (.cells (bA kc) 169)).alloc (.cells (bA (List.replicate 64 0)) 169):=⟨_,rfl⟩;have k4:ak aO w2 w4:=by rw[hw4];exact((ak.refl _ _).alloc _).alloc _
 have h40:w4.heap[w2.heap.size]?=some (.cells (bA kc) 169 (0,0)):=by rw[hw4];exact eE
 have h41:w4.heap[w2.heap.size+1]?=some (.cells (bA (bD b 0)) 169 (0,0)):=by rw[hw4];exact dV
 have z4:w4.heap.size=w2.heap.size+2:=by rw[hw4];simp
 have HW4:=Lib.hid hw4;have K4:=Lib.hid k4;have H40:=Lib.hid h40;have H41:=Lib.hid h41;have Z4:=Lib.hid z4;clear hw4 k4 h40 h41 z4
 go_wp2_with (first
  |(refine gp rfl _ _ _ rfl _ (bA kc) rfl rfl (nT kc rfl) rfl (iz kc) ?_))
 rw[vj,<-HW4.out]
 go_loopw [7] (DS w4 (w2.heap.size+1) b) (fun i _=>64-(intOf i).toNat)
 case atStart=>exact⟨0,rfl,by omega,H41.out,ak.refl _ _⟩
 obtain⟨k,rfl,hk,hr,hkr⟩:=hrel;by_cases hlt:k<64
 ·by_cases h16:k<16
  ·have hb64:=HB.out;have hx0:=kR (P:=Tryz.prog) 9 Tryz.underlying9 b (4*(k:Int)) (4*k) (by omega) (by omega);have hx1:=kR (P:=Tryz.prog) 9 Tryz.underlying9 b (4*(k:Int)+1) (4*k+1) (by omega) (by omega);have hx2:=kR (P:=Tryz.prog) 9 Tryz.underlying9 b (4*(k:Int)+2) (4*k+2) (by omega) (by omega);have hx3:=kR (P:=Tryz.prog) 9 Tryz.underlying9 b (4*(k:Int)+3) (4*k+3) (by omega) (by omega);obtain⟨y0,hy0⟩:∃y,y=b.getD (4*k) 0:=⟨_,rfl⟩;obtain⟨y1,hy1⟩:∃y,y=b.getD (4*k+1) 0:=⟨_,rfl⟩;obtain⟨y2,hy2⟩:∃y,y=b.getD (4*k+2) 0:=⟨_,rfl⟩;obtain⟨y3,hy3⟩:∃y,y=b.getD (4*k+3) 0:=⟨_,rfl⟩;rw[<-hy0]at hx0;rw[<-hy1]at hx1;rw[<-hy2]at hx2;rw[<-hy3]at hx3;have hq0:IntKind.i64.wrap (4*(k:Int))=4*(k:Int):=IntWalk.i64_in _ (by omega);have hq1:IntKind.i64.wrap (4*(k:Int)+1)=4*(k:Int)+1:=IntWalk.i64_in _ (by omega);have hq2:IntKind.i64.wrap (4*(k:Int)+2)=4*(k:Int)+2:=IntWalk.i64_in _ (by omega);have hq3:IntKind.i64.wrap (4*(k:Int)+3)=4*(k:Int)+3:=IntWalk.i64_in _ (by omega);have hk0:(0:Int)<=(k:Int):=by omega
   have hk1:(k:Int)<16:=by omega
   have hk64:(k:Int)<64:=by omega
   have ck:=aZ hr k (by rw[jC b k (by omega)];exact hlt);have cf:=dS hr k;have hnx:kl b (cN b k)=Jm y0 y1 y2 y3:=by unfold kl;rw[dq,if_pos h16,hy0,hy1,hy2,hy3];rfl
   have HR:=Lib.hid hr;have HKR:=Lib.hid hkr;have HNX:=Lib.hid hnx;clear hr hkr hnx hy0 hy1 hy2 hy3 hb64
   go_wp2_with fail
   apply iC
   ·go_region
    all_goals exact⟨rfl,rfl⟩
   go_wp2_with fail
   go_roundw
   case rel=>refine⟨k+1,by simp,by omega,?_,((HKR.out.setCell (fun _=>rfl) _)).drew⟩;show(wr.setCell _ _).heap[w2.heap.size+1]?=_;simp only[MD,LA,JW,P5,fg];rw[eu HR.out,<-kP b k hlt,HNX.out];rfl
   case measure=>simp[intOf];omega
  have g15:=fK b k (k-15) (by omega);have g2:=fK b k (k-2) (by omega);have g16:=fK b k (k-16) (by omega);have g7:=fK b k (k-7) (by omega);have hl:=jC b k (by omega);have c15:=aZ hr (k-15) (by rw[hl];omega);have c2:=aZ hr (k-2) (by rw[hl];omega);have c16:=aZ hr (k-16) (by rw[hl];omega);have c7:=aZ hr (k-7) (by rw[hl];omega);have ck:=aZ hr k (by rw[hl];omega);have cf:=dS hr k;have hnx:kl b (cN b k)=co (bD b k) (k-16)+U6 (co (bD b k) (k-15))+co (bD b k) (k-7)+TY (co (bD b k) (k-2)):=by unfold kl;rw[dq,if_neg h16,g15,g2,g16,g7]
  clear g15 g2 g16 g7 hl;obtain⟨i15,h15⟩:∃i,i=k-15:=⟨_,rfl⟩;obtain⟨i2,h2⟩:∃i,i=k-2:=⟨_,rfl⟩;obtain⟨i16,hi16⟩:∃i,i=k-16:=⟨_,rfl⟩;obtain⟨i7,h7⟩:∃i,i=k-7:=⟨_,rfl⟩;rw[<-h15]at c15 hnx;rw[<-h2]at c2 hnx;rw[<-hi16]at c16 hnx;rw[<-h7]at c7 hnx;obtain⟨a15,e15⟩:∃x,x=co (bD b k) i15:=⟨_,rfl⟩;obtain⟨a2,e2⟩:∃x,x=co (bD b k) i2:=⟨_,rfl⟩;obtain⟨a16,e16⟩:∃x,x=co (bD b k) i16:=⟨_,rfl⟩;obtain⟨a7,e7⟩:∃x,x=co (bD b k) i7:=⟨_,rfl⟩;rw[<-e15]at c15 hnx;rw[<-e2]at c2 hnx;rw[<-e16]at c16 hnx;rw[<-e7]at c7 hnx;obtain⟨vk,evk⟩:∃x,x=Value.int .u32 (uw (co (bD b k) k)):=⟨_,rfl⟩;rw[<-evk]at ck;clear e15 e2 e16 e7 evk;have hk0:(0:Int)<=(k:Int):=by omega
  have hk1:¬(k:Int)<16:=by omega
  have hk16:(16:Int)<=(k:Int):=by omega
  have hk64:(k:Int)<64:=by omega
  have p15:(0:Int)<=(i15:Int)/\(i15:Int)<64:=by omega
  have p2:(0:Int)<=(i2:Int)/\(i2:Int)<64:=by omega
  have p16:(0:Int)<=(i16:Int)/\(i16:Int)<64:=by omega
  have p7:(0:Int)<=(i7:Int)/\(i7:Int)<64:=by omega
  have w15:(k:Int)-15=(i15:Int):=by omega
  have wi2:(k:Int)-2=(i2:Int):=by omega
  have w16:IntKind.i64.wrap ((k:Int)-16)=(i16:Int):=by rw[IntWalk.i64_in _ (by omega)];omega
  have w7:IntKind.i64.wrap ((k:Int)-7)=(i7:Int):=by rw[IntWalk.i64_in _ (by omega)];omega
  have n16:¬(k=i16):=by omega
  have n7:¬(k=i7):=by omega
  have HR:=Lib.hid hr;have HKR:=Lib.hid hkr;have HNX:=Lib.hid hnx;clear hr hkr hnx h15 h2 hi16 h7
  go_wp2_with fail
  apply iC
  ·go_region_held3 (fun w'=>w'.cell? ⟨w2.heap.size+1,i16,none⟩=some (.int .u32 (uw a16))/\w'.cell? ⟨w2.heap.size+1,i7,none⟩=some (.int .u32 (uw a7))) (first|(simp only[World.cell?_drew];exact⟨c16,c7⟩)|(simp only[World.cell?_drew];exact⟨vu _ _ _ _ _ _ n16 c16,vu _ _ _ _ _ _ n7 c7⟩))
    (first
     |(go_at_call_of 93 (7:Int);refine(ZY a15 _).mono ?_;rintro e w' ⟨rfl,rfl⟩)
     |(go_at_call_of 93 (18:Int);refine(Vd a15 _).mono ?_;rintro e w' ⟨rfl,rfl⟩)
     |(go_at_call_of 93 (17:Int);refine(Uj a2 _).mono ?_;rintro e w' ⟨rfl,rfl⟩)
     |(go_at_call_of 93 (19:Int);refine(Xg a2 _).mono ?_;rintro e w' ⟨rfl,rfl⟩))
   all_goals exact⟨rfl,rfl⟩
  go_wp2_with fail
  go_roundw
  case rel=>refine⟨k+1,by simp,by omega,?_,(((((HKR.out.setCell (fun _=>rfl) _).drew).drew).drew).drew).drew⟩;show(wr.setCell _ _).heap[w2.heap.size+1]?=_;simp only[PF,K0,nK];rw[eu HR.out,<-kP b k hlt,HNX.out];rfl
  case measure=>simp[intOf];omega
 obtain rfl:k=64:=by omega
 have e64:bD b 64=cN b 64:=by simp[bD]
 rw[e64]at hr;obtain⟨T,hT⟩:∃T,T=cN b 64:=⟨_,rfl⟩;rw[<-hT]at hr;have hlT:T.length=64:=by rw[hT];exact dq b 64
 have q1:=Z1.out;have q4:=Z4.out;have hs0:=(hkr.heap ((K2.out.trans K4.out).heap H10.out (fun e=>e)) (fun e=>by omega));have hs1:=(hkr.heap ((K2.out.trans K4.out).heap H11.out (fun e=>e)) (fun e=>by omega));have hkc:=hkr.heap H40.out (fun e=>by omega);obtain⟨wo,rfl⟩:∃wo:World,wo=wr:=⟨_,rfl⟩;obtain⟨w6,hw6⟩:∃w6,w6=wo.alloc (.cells (bA s.list) 118):=⟨_,rfl⟩;have k6:ak aO wo w6:=by rw[hw6];exact(ak.refl _ _).alloc _
 have hv6:w6.heap[wo.heap.size]?=some (.cells (bA (fH T s 0).list) 118 (0,0)):=by rw[hw6];exact bw
 have hr6:=k6.heap hr (fun e=>e);have hs6:=k6.heap hs0 (fun e=>e);have ht6:=k6.heap hs1 (fun e=>e);have hk6:=k6.heap hkc (fun e=>e);have qo:w4.heap.size<=wo.heap.size:=hkr.size;have hkw:ak aO w wo:=by have a1:=((K1.out.trans K2.out).trans K4.out);exact a1.trans' hkr (fun j hj e=>by have:=k6.size;have:=K1.out.size;omega)
 have HS0:=Lib.hid hs0;have HR6:=Lib.hid hr6;have HS6:=Lib.hid hs6;have HT6:=Lib.hid ht6;have HK6:=Lib.hid hk6;have HV6:=Lib.hid hv6;have HW6:=Lib.hid hw6;have K6:=Lib.hid k6;have HKW:=Lib.hid hkw;have HT:=Lib.hid hT;have HLT:=Lib.hid hlT;have QQ:=Lib.hid (show w.heap.size+1<w2.heap.size/\w2.heap.size+1<wo.heap.size by omega);clear hr hkr hs0 hs1 hkc hw6 k6 hv6 hr6 hs6 ht6 hk6 hkw hT hlT e64 hlt hk q1 q4 qo
 go_wp2_with (first
  |(refine wpList_load_row rfl _ _ rfl w.heap.size rfl _ (bA s.list) (0,0) _ HS0.out Tryz.underlying118 rfl (qm _ rfl) ?_)
  |(refine gp rfl _ _ _ rfl _ (bA s.list) rfl rfl (qm _ rfl) rfl (iz _) ?_))
 rw[<-HW6.out]
 go_loopw [11] (Vn w6 wo.heap.size T s) (fun i _=>64-(intOf i).toNat)
 case atStart=>exact⟨0,rfl,by omega,HV6.out,ak.refl _ _⟩
 obtain⟨k,rfl,hk,hr,hkr⟩:=hrel;by_cases hlt:k<64
 ·have hq:=QQ.out;have ct:=aZ (hkr.heap HR6.out (fun e=>by omega)) k (by rw[HLT.out];exact hlt);have ck:=aZ (hkr.heap HK6.out (fun e=>by omega)) k hlt;obtain⟨t,ht⟩:∃t,t=fH T s k:=⟨_,rfl⟩;rw[<-ht]at hr;obtain⟨xt,hxt⟩:∃x,x=co T k:=⟨_,rfl⟩;obtain⟨xk,hxk⟩:∃x,x=co kc k:=⟨_,rfl⟩;rw[<-hxt]at ct;rw[<-hxk]at ck;obtain⟨ta,tb,tc,td,te,tf,tg,th⟩:=t;have hl8:(S8.list ⟨ta,tb,tc,td,te,tf,tg,th⟩).length=8:=rfl;have c0:wr.cell? ⟨wo.heap.size,0,none⟩=some (.int .u32 (uw ta)):=aZ hr 0 (by rw[hl8];omega);have c1:wr.cell? ⟨wo.heap.size,1,none⟩=some (.int .u32 (uw tb)):=aZ hr 1 (by rw[hl8];omega);have c2:wr.cell? ⟨wo.heap.size,2,none⟩=some (.int .u32 (uw tc)):=aZ hr 2 (by rw[hl8];omega);have c3:wr.cell? ⟨wo.heap.size,3,none⟩=some (.int .u32 (uw td)):=aZ hr 3 (by rw[hl8];omega);have c4:wr.cell? ⟨wo.heap.size,4,none⟩=some (.int .u32 (uw te)):=aZ hr 4 (by rw[hl8];omega);have c5:wr.cell? ⟨wo.heap.size,5,none⟩=some (.int .u32 (uw tf)):=aZ hr 5 (by rw[hl8];omega);have c6:wr.cell? ⟨wo.heap.size,6,none⟩=some (.int .u32 (uw tg)):=aZ hr 6 (by rw[hl8];omega);have c7:wr.cell? ⟨wo.heap.size,7,none⟩=some (.int .u32 (uw th)):=aZ hr 7 (by rw[hl8];omega);have hk0:(0:Int)<=(k:Int):=by omega
  have hk1:(k:Int)<64:=by omega
  have hsg:¬(IntKind.u32.signed=true):=by decide
  have hmx:IntKind.u32.max=4294967295:=by decide
  have HR:=Lib.hid hr;have HTT:=Lib.hid ht;have HX:=Lib.hid hxt;have HY:=Lib.hid hxk;have HKR:=Lib.hid hkr;clear ht hxt hxk hkr hr hq hl8
  go_wp2_with fail
  go_quiet ((first
   |(go_at_call_of 93 (6:Int);exact Calls.quiet_of ((YR te _).mono fun _ _ h=>⟨h.1,1,by rw[<-h.2];rfl⟩))
   |(go_at_call_of 93 (11:Int);exact Calls.quiet_of ((Xl te _).mono fun _ _ h=>⟨h.1,1,by rw[<-h.2];rfl⟩))
   |(go_at_call_of 93 (25:Int);exact Calls.quiet_of ((Uz te _).mono fun _ _ h=>⟨h.1,1,by rw[<-h.2];rfl⟩))))
  obtain⟨w7,hw7⟩:∃w7,w7=wr.drewN nq:=⟨_,rfl⟩;rw[<-hw7];have d0:w7.cell? ⟨wo.heap.size,0,none⟩=some (.int .u32 (uw ta)):=by rw[hw7];exact c0
  have d1:w7.cell? ⟨wo.heap.size,1,none⟩=some (.int .u32 (uw tb)):=by rw[hw7];exact c1
  have d2:w7.cell? ⟨wo.heap.size,2,none⟩=some (.int .u32 (uw tc)):=by rw[hw7];exact c2
  have d3:w7.cell? ⟨wo.heap.size,3,none⟩=some (.int .u32 (uw td)):=by rw[hw7];exact c3
  have d4:w7.cell? ⟨wo.heap.size,4,none⟩=some (.int .u32 (uw te)):=by rw[hw7];exact c4
  have d5:w7.cell? ⟨wo.heap.size,5,none⟩=some (.int .u32 (uw tf)):=by rw[hw7];exact c5
  have d6:w7.cell? ⟨wo.heap.size,6,none⟩=some (.int .u32 (uw tg)):=by rw[hw7];exact c6
  have d7:w7.cell? ⟨wo.heap.size,7,none⟩=some (.int .u32 (uw th)):=by rw[hw7];exact c7
  have hr7:w7.heap[wo.heap.size]?=some (.cells (bA (S8.list ⟨ta,tb,tc,td,te,tf,tg,th⟩)) 118 (0,0)):=by rw[hw7];exact HR.out
  have k7:ak (fun x=>x=wo.heap.size) w6 w7:=by rw[hw7];exact HKR.out.drewN _
  have HR7:=Lib.hid hr7;have K7:=Lib.hid k7;clear hw7 c0 c1 c2 c3 c4 c5 c6 c7 ct ck hr7 k7
  go_wp2_with fail
  go_quiet ((first
   |(go_at_call_of 93 (2:Int);exact Calls.quiet_of ((ZA ta _).mono fun _ _ h=>⟨h.1,1,by rw[<-h.2];rfl⟩))
   |(go_at_call_of 93 (13:Int);exact Calls.quiet_of ((V3 ta _).mono fun _ _ h=>⟨h.1,1,by rw[<-h.2];rfl⟩))
   |(go_at_call_of 93 (22:Int);exact Calls.quiet_of ((We ta _).mono fun _ _ h=>⟨h.1,1,by rw[<-h.2];rfl⟩))))
  obtain⟨w8,hw8⟩:∃w8,w8=w7.drewN nq:=⟨_,rfl⟩;rw[<-hw8];have f0:w8.cell? ⟨wo.heap.size,0,none⟩=some (.int .u32 (uw ta)):=by rw[hw8];exact d0
  have f1:w8.cell? ⟨wo.heap.size,1,none⟩=some (.int .u32 (uw tb)):=by rw[hw8];exact d1
  have f2:w8.cell? ⟨wo.heap.size,2,none⟩=some (.int .u32 (uw tc)):=by rw[hw8];exact d2
  have f3:w8.cell? ⟨wo.heap.size,3,none⟩=some (.int .u32 (uw td)):=by rw[hw8];exact d3
  have f4:w8.cell? ⟨wo.heap.size,4,none⟩=some (.int .u32 (uw te)):=by rw[hw8];exact d4
  have f5:w8.cell? ⟨wo.heap.size,5,none⟩=some (.int .u32 (uw tf)):=by rw[hw8];exact d5
  have f6:w8.cell? ⟨wo.heap.size,6,none⟩=some (.int .u32 (uw tg)):=by rw[hw8];exact d6
  have f7:w8.cell? ⟨wo.heap.size,7,none⟩=some (.int .u32 (uw th)):=by rw[hw8];exact d7
  have hr8:w8.heap[wo.heap.size]?=some (.cells (bA (S8.list ⟨ta,tb,tc,td,te,tf,tg,th⟩)) 118 (0,0)):=by rw[hw8];exact HR7.out
  have k8:ak (fun x=>x=wo.heap.size) w6 w8:=by rw[hw8];exact K7.out.drewN _
  have hi8:(Tryz.prog.info? 118).map (·.size)=some 8:=by kernel_rfl
  have HR8:=Lib.hid hr8;have K8:=Lib.hid k8;have HI8:=Lib.hid hi8;clear hw8 d0 d1 d2 d3 d4 d5 d6 d7 hr8 k8 hi8
  go_wp2_with (refine Bu rfl _ _ _ rfl wo.heap.size _ _ _ _ _ _ _ _ rfl rfl _ _ HR8.out HI8.out rfl rfl rfl rfl rfl rfl rfl rfl rfl ?_)
  clear f0 f1 f2 f3 f4 f5 f6 f7
  go_wp2_with fail
  go_roundw
  case rel=>
   have e1:fH T s (k+1)=KD ⟨ta,tb,tc,td,te,tf,tg,th⟩ xk xt:=by rw[HTT.out,HX.out,HY.out];rfl
   refine⟨k+1,by simp,by omega,?_,K8.out.trans ⟨rfl,rfl,rfl,by simp,fun j hj hn=>setRow_other _ _ _ _ hn⟩⟩;rw[setRow_heap _ _ _ _ _ _ HR8.out,e1];simp only[Mn,JX,nK,QR,SF];rfl
  case measure=>simp[intOf];omega
 obtain rfl:k=64:=by omega
 have hq:=QQ.out;obtain⟨t,ht⟩:∃t,t=fH T s 64:=⟨_,rfl⟩;rw[<-ht]at hr;have hs2:=hkr.heap HS6.out (fun e=>by omega);have ht2:=hkr.heap HT6.out (fun e=>by omega);have hm0:rP s t 0=s.list:=rfl;rw[<-hm0]at hs2;obtain⟨wp,rfl⟩:∃wp:World,wp=wr:=⟨_,rfl⟩;have hkp:ak aO w wp:=(HKW.out.trans K6.out).trans' hkr (fun j hj e=>by have:=HKW.out.size;omega);have HR:=Lib.hid hr;have HS2:=Lib.hid hs2;have HT2:=Lib.hid ht2;have HTT:=Lib.hid ht;have HKP:=Lib.hid hkp;clear hr hs2 ht2 ht hkp hkr hlt hk hm0
 go_wp2_with fail
 go_loopw [16] (GO wp w.heap.size s t) (fun i _=>8-(intOf i).toNat)
 case atStart=>exact⟨0,rfl,by omega,HS2.out,ak.refl _ _⟩
 obtain⟨k,rfl,hk,hr,hkr⟩:=hrel;by_cases hlt:k<8
 ·have ck:=aZ hr k (by rw[vX];exact hlt);rw[EB _ _ _ hlt]at ck;have cx:=aZ (hkr.heap HR.out (fun e=>by omega)) k (by show k<8;exact hlt);have cf:=dS hr k;obtain⟨y,hy⟩:∃y,y=co s.list k:=⟨_,rfl⟩;obtain⟨x,hx⟩:∃x,x=co t.list k:=⟨_,rfl⟩;rw[<-hy]at ck;rw[<-hx]at cx;have hk0:(0:Int)<=(k:Int):=by omega
  have hk1:(k:Int)<8:=by omega
  have HX:=Lib.hid hx;have HY:=Lib.hid hy;have HRR:=Lib.hid hr;have HKR2:=Lib.hid hkr;clear hx hy hr hkr hq
  go_wp2_with fail
  apply iC
  ·go_region
   all_goals exact⟨rfl,rfl⟩
  go_wp2_with fail
  go_roundw
  case rel=>refine⟨k+1,by simp,by omega,?_,((HKR2.out.setCell (fun _=>rfl) _)).drew⟩;show(wr.setCell _ _).heap[w.heap.size]?=_;rw[y7,eu HRR.out,<-AS _ _ _ hlt,HX.out,HY.out]
  case measure=>simp[intOf];omega
 obtain rfl:k=8:=by omega
 have hz:=hkr.heap HT2.out (fun e=>by omega);have hfin:rP s t 8=(dw s b).list:=by
  have e:dw s b=sS s t:=by rw[HTT.out,HT.out];rfl
  rw[e];rfl
 obtain⟨L,hL⟩:∃L,L=(dw s b).list:=⟨_,rfl⟩;have hL8:L.length=8:=by rw[hL];exact PH _
 rw[hfin,<-hL]at hr;have HLL:=Lib.hid hL;have hsz8:=qm L hL8;have ho8:(bA (List.replicate 8 0)).size=(bA L).size:=by rw[jT,jT,hL8];rfl
 have HRR:=Lib.hid hr;have HKR2:=Lib.hid hkr;have HZ:=Lib.hid hz;have HSZ:=Lib.hid hsz8;have HO8:=Lib.hid ho8;clear hr hkr hlt hz hfin hL hL8 hsz8 ho8
 go_wp2_with (first
  |(refine wpList_load_row rfl _ _ rfl w.heap.size rfl _ (bA L) (0,0) _ HRR.out Tryz.underlying118 rfl HSZ.out ?_)
  |(refine wpList_store_row rfl _ _ _ rfl (w.heap.size+1) (bA L) rfl rfl _ _ HZ.out HSZ.out HO8.out (iz _) ?_))
 refine bodyPost_ret (results_cell_row rfl _ _ (w.heap.size+1) _ (bA L) (0,0) _ rfl (setRow_heap _ _ _ _ _ _ HZ.out) Tryz.underlying118 rfl HSZ.out) rfl ⟨by rw[HLL.out],?_⟩;have c1:=(HKP.out.any' (fun x=>w.heap.size<=x)).trans (HKR2.out.mono (fun k _ e=>by omega));have c2:ak (fun x=>w.heap.size<=x) w (wr.setRow (w.heap.size+1) (bA L)):=
  c1.trans ⟨rfl,rfl,rfl,by simp,fun j hj hn=>setRow_other _ _ _ _ (fun e=>hn (by omega))⟩
 exact c2.mono (fun k hk e=>by omega)
attribute [local go_sem] Oper.semAt_some
theorem Ho(x:aA):uw x/(16777216:Int)%(256:Int)=((ko x 24).toNat:Int):=by rw[WO,<-ql,IntKind.wrap_u8]
theorem GI(x:aA):uw x/(65536:Int)%(256:Int)=((ko x 16).toNat:Int):=by rw[Ug,<-ql,IntKind.wrap_u8]
theorem Ly(x:aA):uw x/(256:Int)%(256:Int)=((ko x 8).toNat:Int):=by rw[Zc,<-ql,IntKind.wrap_u8]
theorem LZ(x:aA):uw x%(256:Int)=((ko x 0).toNat:Int):=by rw[<-Il,IntKind.wrap_u8]
theorem ux(x:aA)(w:World):Calls Tryz.prog 55 #[.int .u32 (uw x)] w fun e w'=>e=.returned (.slice (some ⟨w.heap.size,0,none⟩) 4 4)/\w'=w.alloc (.cells (an (cg x)).toArray 5):=by
 go_enter Tryz.func55,Tryz.ntmps55
 go_wp2
 go_ret
 refine⟨rfl,?_⟩;rw[Ho,GI,Ly,LZ];rfl
theorem LV(F:Fence)(n:Nat)(hf:F.fn 57)(hro:F.round=none)(a:Option Addr)(len cap:Nat)(w:World) :
 CallsIn F n Tryz.prog 57 #[.slice a len cap,.int .i64 64] w fun e w'=>e=.returned (.func (.func 94) #[] #[.pointer (some ⟨w.heap.size,0,none⟩),.pointer (some ⟨w.heap.size+1,0,none⟩)]) /\
  w'=(w.alloc (.cells #[.slice a len cap] 80)).alloc (.cells #[.int .i64 64] 3):=by
 refine callsIn_of_wp Tryz.func57 rfl hf ?_ hro;simp only[Tryz.ntmps57,List.size_toArray,List.length_cons,List.length_nil,Nat.reduceAdd,Nat.reduceSub,Array.replicate_succ,Array.replicate_zero,List.push_toArray,List.append_toArray,List.nil_append,List.cons_append]
 gi_wp2
 go_ret
 exact⟨rfl,rfl⟩
theorem FE(F:Fence)(n:Nat)(hf:F.fn 94)(hro:F.round=none)(hn:1<=n)(Bs Bn b cap N:Nat)(T:Nat->Prop)(hN:N<=2199023255552)(hcap:64*N<=cap)
 (hTs:¬T Bs) (hTn:¬T Bn) (w:World) (hBs:w.cell? ⟨Bs,0,none⟩=some (.slice (some ⟨b,0,none⟩) (64*N) cap)) (hBn:w.cell? ⟨Bn,0,none⟩=some (.int .i64 64)) :
 SeqStopsK F n Tryz.prog 94 #[.pointer (some ⟨Bs,0,none⟩),.pointer (some ⟨Bn,0,none⟩)] (xh b) (ak T) (nO N N) (fun _=>True) N w:=fun l J Jx W hW hJ _ hY h0=>
 MB F n hf hro hn l Bs Bn b cap N T hN hcap hTs hTn J Jx hY (fun pre W' hj=>hJ pre W' W'.drew none hj ⟨rfl,rfl,rfl,Nat.le_refl _,fun _ _ _=>rfl⟩ (fun r e=>by cases e)) W
  ((hW.cell (p:=⟨Bs,0,none⟩) (World.block_lt_of_cell? w _ hBs)).trans hBs) ((hW.cell (p:=⟨Bn,0,none⟩) (World.block_lt_of_cell? w _ hBn)).trans hBn) h0
def Pn(l:List UInt8):Value:=.agg (an l).toArray
theorem Wb:(Tryz.prog.info? 5).map (fun i=>(i.zero,i.size,i.bytes))=some (some (.int .u8 0),1,1):=by kernel_rfl
theorem VN(w:World)(x:aA):Src Tryz.prog 1 80 (.slice (some ⟨w.heap.size,0,none⟩) 4 4) (cg x).length (an (cg x)) (w.alloc (.cells (an (cg x)).toArray 5)):=
 Src.ofSlice _ Tryz.underlying80 _ _ _ _ rfl (fun j u hu=>by
  rw[bX,Nat.zero_add,bm bw];simpa using hu) (ja _)
def vN(n:Nat):aA:=BitVec.ofNat 32 (n/4294967296)
def x9(n:Nat):aA:=BitVec.ofNat 32 n
theorem iB(a b:Nat)(h:a%256=b%256):UInt8.ofNat a=UInt8.ofNat b:=by
 apply UInt8.toNat_inj.1;simp[UInt8.toNat_ofNat'];exact h
theorem Ja(n:Nat)(h:n<18446744073709551616):cg (vN n)++cg (x9 n)=pb n:=by
 have hh:(vN n).toNat=n/4294967296:=by unfold vN;rw[acY];omega
 have hl:(x9 n).toNat=n%4294967296:=by unfold x9;rw[acY]
 unfold cg pb ko gK;simp only[BitVec.toNat_ushiftRight,Nat.shiftRight_eq_div_pow,hh,hl,List.cons_append,List.nil_append];congr 1
 ·exact iB _ _ (by omega)
 congr 1
 ·exact iB _ _ (by omega)
 congr 1
 ·exact iB _ _ (by omega)
 congr 1
 ·exact iB _ _ (by omega)
 congr 1
 ·exact iB _ _ (by omega)
 congr 1
 ·exact iB _ _ (by omega)
 congr 1
 ·exact iB _ _ (by omega)
 congr 1;exact iB _ _ (by omega)
theorem Yx(n:Nat)(h:n<18446744073709551616):uw (vN n)=((n/4294967296:Nat):Int):=by unfold uw vN;rw[acY];omega
theorem Yu(n:Nat):uw (x9 n)=((n%4294967296:Nat):Int):=by unfold uw x9;rw[acY]
def lI(m:List UInt8){N:Nat}(pre:List (Fin N)):S8:=pre.foldl (fun s x=>dw s ((m.drop (64*x.val)).take 64)) (S8.of iv)
theorem DV(m:List UInt8){N:Nat}(pre:List (Fin N))(x:Fin N):lI m (pre++[x])=dw (lI m pre) ((m.drop (64*x.val)).take 64):=by simp[lI]
theorem E4(m:List UInt8){N:Nat}(pre:List (Fin N))(k:Nat)(h:nO N k pre):lI m pre=oa m k:=by
 have e:lI m pre=(pre.map (·.val)).foldl (fun s i=>dw s ((m.drop (64*i)).take 64)) (S8.of iv):=by unfold lI;rw[List.foldl_map]
 rw[e,h];clear e h
 induction k with
 |zero=>rfl
 |succ k ih=>rw[List.range_succ,List.foldl_append,ih];rfl
theorem zT{w w':World}{g:Nat}{cs:Array Value}{t:TypeId}{fr:Nat×Nat}(h:ak (fun x=>x=g) w w')(hg:w.heap[g]?=some (.cells cs t fr)):KeepsOthers w w':=
 ⟨h.size,fun k o hk ho=>h.heap hk (fun e=>by
  have e':k=g:=e;subst e';rw[hg]at hk;cases hk;cases ho)⟩
theorem IA{w:World}{b:Nat}{m:List UInt8}(h:w.rangeAt b 0 (an m))(i:Nat)(hi:64*i+64<=m.length):oQ w b (64*i) ((m.drop (64*i)).take 64):=by
 intro j hj;have hl:64*i+j<m.length:=by omega
 have:=h (64*i+j) (bv m[64*i+j]) (by simp[an,acE,abS hl]);rw[Nat.zero_add]at this;rw[this];have e:((m.drop (64*i)).take 64).getD j 0=m[64*i+j]:=by rw[abV,acw,if_pos hj,acC,abS hl];rfl
 rw[e];rfl
def gr(L:List aA)(k:Nat):List UInt8:=(L.take k).flatMap cg++List.replicate (32-4*k) 0
theorem vG(L:List aA):(L.flatMap cg).length=4*L.length:=by
 induction L with
 |nil=>rfl
 |cons x L ih=>rw[ab7,abP,ih];simp[cg];omega
theorem Bz(L:List aA)(k:Nat)(hL:L.length=8)(h:k<=8):(gr L k).length=32:=by
 unfold gr;rw[abP,vG,abR,acD];omega
theorem Nt(L:List aA)(k:Nat)(h:k<L.length):L.take (k+1)=L.take k++[co L k]:=by
 rw[List.take_succ_eq_append_getElem h];simp[co,abS h]
theorem E2(L:List aA)(k:Nat)(hL:L.length=8)(h:k<8) :
 (an (gr L k)).take (4*k)++an (cg (co L k))++(an (gr L k)).drop (4*k+4)=an (gr L (k+1)):=by
 have hl:((L.take k).flatMap cg).length=4*k:=by rw[vG,abR];omega
 have e1:(gr L k).take (4*k)=(L.take k).flatMap cg:=by unfold gr;rw[<-hl];exact List.take_left
 have e2:(gr L k).drop (4*k+4)=List.replicate (32-4*(k+1)) 0:=by unfold gr;rw[<-hl,List.drop_append,List.drop_replicate,acu (by omega),List.nil_append,hl];congr 1;omega
 unfold an;rw[<-List.map_take,<-List.map_drop,e1,e2,<-acn,<-acn];unfold gr;rw[Nt L k (by omega),acT];simp
theorem SW(L:List aA)(hL:L.length=8):gr L 8=L.flatMap cg:=by
 unfold gr;rw[<-hL,List.take_length];simp[hL]
def Wv(w:World)(ob:Nat)(L:List aA)(i:Value)(wr:World):Prop:=
 ∃k:Nat,i=.int .i64 (k:Int)/\k<=8/\wr.heap[ob]?=some (.cells (an (gr L k)).toArray 24 (0,0))/\ak (fun x=>x=ob) w wr
theorem yi{P:Program}(T e:TypeId)(n:Nat)(hu:P.underlying T=some (.array n e))(hsz:(P.info? e).map (·.size)=some 1)(g o:Nat)(x:Int)(k:IntKind)(hx:x=(o:Int))(ho:o<n)(w:World) :
 (Instr.sliceAt T (.pointer (some ⟨g,0,none⟩)) (some (.int k x)) none none).run P w=.ok (.slice (some ⟨g,o,none⟩) (n-o) (n-o)) w:=by
 subst hx;cases hq:P.info? e with
 |none=>simp[hq]at hsz
 |some i=>
  have hi:i.size=1:=by simpa[hq]using hsz
  have hle:(o:Int)<=n:=by omega
  have hne:¬n=o:=by omega
  simp[Instr.sliceAt,Instr.sureAddr,run_underlying hu,Instr.sliceBounds,Instr.sliceBound,asIntOf,sizeOf,typeInfo,hq,hi,hne,bX];intro hh;omega
set_option maxRecDepth 100000 in
set_option maxHeartbeats 2000000 in
theorem Ss(s:ByteArray)(w:World)(hs:s.size<=140737488351232):Calls Tryz.prog 28 #[.string s] w fun e w'=>e=.returned (Pn (dR s.data.toList))/\ak aO w w':=by
 obtain⟨i0,hi,hz0,hz1,hz2⟩:=info_parts Wb;have hzs:(Value.int .u8 0).cells.size=1:=rfl;obtain⟨w1,hw1⟩:∃w1,w1=w.alloc (.cells #[Value.int IntKind.u8 0,Value.int IntKind.u8 0,Value.int IntKind.u8 0,Value.int IntKind.u8 0,Value.int IntKind.u8 0,Value.int IntKind.u8 0,Value.int IntKind.u8 0,Value.int IntKind.u8 0,Value.int IntKind.u8 0,Value.int IntKind.u8 0,Value.int IntKind.u8 0,Value.int IntKind.u8 0,Value.int IntKind.u8 0,Value.int IntKind.u8 0,Value.int IntKind.u8 0,Value.int IntKind.u8 0,Value.int IntKind.u8 0,Value.int IntKind.u8 0,Value.int IntKind.u8 0,Value.int IntKind.u8 0,Value.int IntKind.u8 0,Value.int IntKind.u8 0,Value.int IntKind.u8 0,Value.int IntKind.u8 0,Value.int IntKind.u8 0,Value.int IntKind.u8 0,Value.int IntKind.u8 0,Value.int IntKind.u8 0,Value.int IntKind.u8 0,Value.int IntKind.u8 0,Value.int IntKind.u8 0,Value.int IntKind.u8 0] 24):=⟨_,rfl⟩;have k1:ak aO w w1:=by rw[hw1];exact(ak.refl _ _).alloc _
 have z1:w1.heap.size=w.heap.size+1:=by rw[hw1];simp
 have h1:w1.heap[w.heap.size]?=some (.cells (an (List.replicate 32 0)).toArray 24 (0,0)):=by rw[hw1];exact bw
 obtain⟨l,hl⟩:∃l,l=s.data.toList:=⟨_,rfl⟩;have hls:l.length=s.size:=by rw[hl];exact pX s
 obtain⟨r2,k2⟩:=zV w1 5 s;obtain⟨v2,hv2⟩:∃v,v=Value.slice (some ⟨w1.heap.size,0,none⟩) s.size (grownCap w1 s.size 0 5):=⟨_,rfl⟩;obtain⟨w2,hw2⟩:∃w2,w2=Lib.bytesWorld w1 5 s:=⟨_,rfl⟩;have hcv:=Lib.run_convert_string_bytes (P:=Tryz.prog) w1 9 80 5 s Tryz.underlying9 Tryz.underlying80 Tryz.underlying5;rw[<-hw2,<-hv2]at hcv;rw[<-hw2,<-hv2,<-hl]at r2;rw[<-hw2]at k2;have r3:mQ (w2.alloc (.cells #[.int .u8 128] 5)) w1.heap.size v2 l:=r2.keep ((ak.refl aO _).alloc _) (fun _ _ _ e=>e);have hx3:Src Tryz.prog 1 80 (.slice (some ⟨w2.heap.size,0,none⟩) 1 1) 1 (an [0x80]) (w2.alloc (.cells #[.int .u8 128] 5)):=
  Src.ofSlice _ Tryz.underlying80 _ _ _ _ rfl (fun j u hu=>by
   rw[bX,Nat.zero_add,bm bw];cases j with
   |zero=>simpa[an,bv]using hu
   |succ j=>simp[an]at hu) (ja _)
 obtain⟨v4,w4,hap4,r4,k4⟩:=lY (P:=Tryz.prog) _ 80 80 80 5 i0 _ Tryz.underlying80 hi hz0 hz1 hz2 hzs w1.heap.size v2 l r3 (by have:=k2.size;simp;omega) _ [0x80] hx3 (by simp;omega);have hb2:=r2.block;have K4:ak aO w1 w4:=k2.trans' (((ak.refl (fun k=>w1.heap.size<=k) w2).alloc _).trans' k4 (fun k _ e=>(hb2 k e).1)) (fun k hk e=>by omega);have hb4:=r4.block;obtain⟨n4,hn4⟩:∃n,n=(l++[0x80]).length:=⟨_,rfl⟩;obtain⟨g4,cap4,hv4,-,-,-,-,-⟩:=id r4;rw[<-hn4]at hv4;subst hv4;obtain⟨zn,hzn⟩:∃z,z=eH l.length:=⟨_,rfl⟩;have hz64:zn<64:=by rw[hzn];unfold eH;omega
 obtain⟨v5,w5,hap5,r5,k5⟩:=vp (P:=Tryz.prog) w4 80 3 80 5 i0 .i64 .i64 Tryz.underlying80 Tryz.underlying3 hi hz0 hz1 hz2 w1.heap.size (.slice (some ⟨g4,0,none⟩) n4 cap4) (l++[0x80]) r4 (by have:=K4.size;omega) zn (by simp;omega);have hb5:=r5.block;have K5:ak aO w1 w5:=K4.trans' k5 (fun k hk e=>by have:=(hb4 k e).1;omega);have HCV:=Lib.hid hcv;have HA4:=Lib.hid hap4;have HA5:=Lib.hid hap5;have R5:=Lib.hid r5;have KK5:=Lib.hid K5;have H1:=Lib.hid h1;have KK1:=Lib.hid k1;have HW1:=Lib.hid hw1;have HL:=Lib.hid hl;have HZN:=Lib.hid hzn;have HLS:=Lib.hid hls;have Z1:=Lib.hid z1;have hzm:(120-(n4:Int))%64=(zn:Int):=by
  have e4:n4=l.length+1:=by rw[hn4];simp
  rw[hzn,e4];unfold eH;omega
 have HZM:=Lib.hid (show(120-(n4:Int)%64)%64=(zn:Int) by omega);have hn0:(0:Int)<=(n4:Int):=by omega
 clear hcv hap4 hap5 r5 r4 K5 h1 k1 hw1 hl hzn hls z1 r2 k2 hw2 r3 hx3 k4 hb2 K4 hb4 k5 hb5 hv2 hn4;refine(callsIn_wide (n:=3)).1 ?_;refine callsIn_of_wp_marks Tryz.func28 rfl trivial ?_ rfl;simp only[Tryz.ntmps28,List.size_toArray,List.length_cons,List.length_nil,Nat.reduceAdd,Nat.reduceSub,Array.replicate_succ,Array.replicate_zero,List.push_toArray,List.append_toArray,List.nil_append,List.cons_append]
 gi_wp2_with (first
  |(refine sO _ rfl _ _ _ rfl _ rfl v2 w2 (by rw[<-HW1.out];exact HCV.out) ?_)
  |(gi_at_builtin;refine gE _ rfl _ _ _ _ rfl v2 _ rfl rfl _ w4 HA4.out ?_)
  |(gi_at_builtin;refine gE _ rfl _ _ _ _ rfl _ (.int .i64 ((120-(n4:Int)%64)%64)) rfl rfl v5 w5 (by rw[HZM.out];exact HA5.out) ?_))
 refine⟨trivial,?_⟩;rw[show(s.size:Int)*8/4294967296=uw (vN (8*l.length)) by rw[Yx _ (by have:=HLS.out;omega),HLS.out];omega];refine(callsIn_wide.2 (ux _ _)).mono ?_;rintro e w6 ⟨rfl,hw6⟩;have r6:mQ w6 w1.heap.size v5 (l++[0x80]++List.replicate zn 0):=by rw[hw6];exact R5.out.keep ((ak.refl aO _).alloc _) (fun _ _ _ e=>e)
 have k6:ak aO w1 w6:=by rw[hw6];exact KK5.out.alloc _
 have hx6:=VN w5 (vN (8*l.length));rw[<-hw6]at hx6;obtain⟨v7,w7,hap7,r7,k7⟩:=lY (P:=Tryz.prog) w6 80 80 80 5 i0 _ Tryz.underlying80 hi hz0 hz1 hz2 hzs w1.heap.size v5 _ r6 k6.size _ (cg (vN (8*l.length))) hx6 (by have:=HLS.out;simp[cg];omega);have hb5:=r6.block;have k7':ak aO w1 w7:=k6.trans' k7 (fun k hk e=>by have:=(hb5 k e).1;omega);have HA7:=Lib.hid hap7;have R7:=Lib.hid r7;have K7:=Lib.hid k7';clear hw6 r6 k6 hx6 hap7 r7 k7 hb5 k7'
 gi_wp2_with (first
  |(gi_at_builtin;refine gE _ rfl _ _ _ _ rfl v5 _ rfl rfl v7 w7 HA7.out ?_))
 refine⟨trivial,?_⟩;rw[show(s.size:Int)*8%4294967296=uw (x9 (8*l.length)) by rw[Yu,HLS.out];omega];refine(callsIn_wide.2 (ux _ _)).mono ?_;rintro e w8 ⟨rfl,hw8⟩;have r8:mQ w8 w1.heap.size v7 (l++[0x80]++List.replicate zn 0++cg (vN (8*l.length))):=by rw[hw8];exact R7.out.keep ((ak.refl aO _).alloc _) (fun _ _ _ e=>e)
 have k8:ak aO w1 w8:=by rw[hw8];exact K7.out.alloc _
 have hx8:=VN w7 (x9 (8*l.length));rw[<-hw8]at hx8;obtain⟨v9,w9,hap9,r9,k9⟩:=lY (P:=Tryz.prog) w8 80 80 80 5 i0 _ Tryz.underlying80 hi hz0 hz1 hz2 hzs w1.heap.size v7 _ r8 k8.size _ (cg (x9 (8*l.length))) hx8 (by have:=HLS.out;simp[cg];omega);have hb8:=r8.block;have k9':ak aO w1 w9:=k8.trans' k9 (fun k hk e=>by have:=(hb8 k e).1;omega);have hpad:l++[0x80]++List.replicate zn 0++cg (vN (8*l.length))++cg (x9 (8*l.length))=jl l:=by rw[acg (l++[0x80]++List.replicate zn 0),Ja _ (by have:=HLS.out;omega),HZN.out];rfl
 rw[hpad]at r9;obtain⟨m,hm⟩:∃m,m=jl l:=⟨_,rfl⟩;rw[<-hm]at r9;obtain⟨b,cap,hv9,hbB,hbw,hcap,-,hrg⟩:=r9;obtain⟨N,hN⟩:∃N,m.length=64*N:=⟨m.length/64,by have:=Dz l;rw[<-hm]at this;omega⟩;have hNb:N<=2199023255552:=by have h1:=qp l;rw[<-hm,hN,<-HZN.out]at h1;have h2:=HLS.out;omega
 rw[hN]at hv9 hcap;subst hv9;have HA9:=Lib.hid hap9;have K9:=Lib.hid k9';have HM:=Lib.hid hm;have HN:=Lib.hid hN;have HRG:=Lib.hid hrg;clear hw8 r8 k8 hx8 hap9 k9 hb8 k9' hpad hm hN hrg
 gi_wp2_with (first
  |(gi_at_builtin;refine gE _ rfl _ _ _ _ rfl v7 _ rfl rfl _ w9 HA9.out ?_))
 refine⟨trivial,?_⟩;refine(callsIn_wide.2 (LC w9)).mono ?_;rintro e w10 ⟨rfl,k10⟩;have K10:=Lib.hid k10;have z10:=k10.size;clear k10
 gi_wp2_with (first
  |(refine uI rfl _ _ _ rfl _ (bA iv) rfl rfl (qm iv rfl) rfl (iz iv) ?_))
 refine⟨trivial,?_⟩;obtain⟨w11,hw11⟩:∃w11,w11=w10.alloc (.cells (bA iv) 118):=⟨_,rfl⟩;have h11:w11.heap[w10.heap.size]?=some (.cells (bA iv) 118 (0,0)):=by rw[hw11];exact bw
 have k11:ak aO w10 w11:=by rw[hw11];exact(ak.refl _ _).alloc _
 have z11:w11.heap.size=w10.heap.size+1:=by rw[hw11];simp
 rw[<-hw11];have H11:=Lib.hid h11;have K11:=Lib.hid k11;have Z11:=Lib.hid z11;clear h11 k11 z11 hw11;refine(LV Fence.wide 2 trivial rfl _ _ _ _).mono ?_;rintro e _ ⟨rfl,rfl⟩;obtain⟨w12,hw12⟩:∃w12,w12=(w11.alloc (.cells #[.slice (some ⟨b,0,none⟩) (64*N) cap] 80)).alloc (.cells #[.int .i64 64] 3):=⟨_,rfl⟩;have k12:ak aO w11 w12:=by rw[hw12];exact((ak.refl _ _).alloc _).alloc _
 have z12:w12.heap.size=w11.heap.size+2:=by rw[hw12];simp
 have cs12:w12.cell? ⟨w11.heap.size,0,none⟩=some (.slice (some ⟨b,0,none⟩) (64*N) cap):=by rw[hw12,bm eE];rfl
 have cn12:w12.cell? ⟨w11.heap.size+1,0,none⟩=some (.int .i64 64):=by rw[hw12,bm dV];rfl
 have h12:w12.heap[w10.heap.size]?=some (.cells (bA iv) 118 (0,0)):=k12.heap H11.out (fun e=>e);have rg12:w12.rangeAt b 0 (an m):=by intro j x hx;rw[nJ (((K10.out.trans K11.out).trans k12)) hbw (fun e=>e)];exact HRG.out j x hx
 have HW12:=Lib.hid hw12;have K12:=Lib.hid k12;have Z12:=Lib.hid z12;have H12:=Lib.hid h12;have RG12:=Lib.hid rg12;have CS12:=Lib.hid cs12;have CN12:=Lib.hid cn12;clear hw12 k12 z12 h12 rg12 cs12 cn12
 gi_wp2_with fail
 rw[<-HW12.out];refine' wpIn_rangeFunc_ownF rfl (by omega) (gf:=94) (lb:=#[.pointer (some ⟨w11.heap.size,0,none⟩),.pointer (some ⟨w11.heap.size+1,0,none⟩)]) rfl trivial (enters_of Tryz.func94 (by kernel_rfl) rfl)
  (FE Fence.wide 2 trivial rfl (by omega) w11.heap.size (w11.heap.size+1) b cap N (fun x=>x=w10.heap.size\/w12.heap.size<=x) hNb hcap (by have:=Z12.out;have:=Z11.out;omega) (by have:=Z12.out;have:=Z11.out;omega) w12 CS12.out CN12.out)
  (fun h k=>h.trans k) (fun W l o o' hl ho hc hw=>(ak.refl _ W).grown (grownBy_putObj' W l o') (fun k e _=>by cases e;exact .inr hl)) (Below.refl _ _) (fun _=>rfl)
  (fun pre W=>W.heap[w10.heap.size]?=some (.cells (bA (lI m pre).list) 118 (0,0))/\ak (fun x=>x=w10.heap.size\/w12.heap.size<=x) w12 W)
  (fun _ _ _=>False)
  (fun pre W W' row hs hg hr=>⟨(hg.block _ (fy hs.1) (fun e=>by have:=(hr _ e.symm).1;have:=Z12.out;have:=Z11.out;omega)).trans hs.1,hs.2.grown hg (fun k e _=>.inr (hr k e).1)⟩)
  (fun _ _ _ _ _ hs _ _=>hs)
  ⟨H12.out,ak.refl _ _⟩
  _ ?assign ?body ?done ?stop
 case assign=>
  intro l x W K hK;unfold xh
  gi_wp2
  exact hK
 case body=>
  rintro l pre x W ⟨h1,h2⟩ hlen;have hbne:b≠w10.heap.size:=by omega
  have hbn2:¬(b=w10.heap.size\/w12.heap.size<=b):=by have:=Z12.out;have:=Z11.out;omega
  have rgW:W.rangeAt b 0 (an m):=by intro j v hv;have:=Z12.out;have:=Z11.out;rw[nJ h2 (by omega) hbn2];exact RG12.out j v hv
  have hbt:=IA rgW x.val (by have:=HN.out;have:=x.isLt;omega);have HBT:=Lib.hid hbt;have HH1:=Lib.hid h1;have HH2:=Lib.hid h2;clear hbt h1 h2 rgW hlen hbn2
  gi_wp2_with fail
  refine⟨trivial,?_⟩;refine(CallsIn.inRound l (callsIn_wide.2 (RW w10.heap.size b (64*x.val) 64 (lI m pre) _ W HH1.out HBT.out (Nat.le_refl _) hbne))).mono ?_;rintro e w' ⟨rfl,hst,hk⟩;have HST:=Lib.hid hst;have HK:=Lib.hid hk;clear hst hk
  gi_wp2
  exact⟨zT HK.out HH1.out,HK.out.mono (fun _ _ e=>.inl e),by rw[DV];exact HST.out,HH2.out.trans (HK.out.mono (fun _ _ e=>.inl e))⟩
 case done=>
  rintro D xs W hD hxs ⟨h1,h2⟩ hK;rw[E4 m xs N hxs]at h1;have HH1:=Lib.hid h1;have HH2:=Lib.hid h2;have HHK:=Lib.hid hK;clear h1 h2 hK hxs;obtain⟨L,hL⟩:∃L,L=(oa m N).list:=⟨_,rfl⟩;have hL8:L.length=8:=by rw[hL];rfl
  rw[<-hL]at HH1;obtain⟨w13,hw13⟩:∃w13,w13=W.alloc (.cells (an (List.replicate 32 0)).toArray 24):=⟨_,rfl⟩;have hz:(#[Value.int IntKind.u8 0,Value.int IntKind.u8 0,Value.int IntKind.u8 0,Value.int IntKind.u8 0,Value.int IntKind.u8 0,Value.int IntKind.u8 0,Value.int IntKind.u8 0,Value.int IntKind.u8 0,Value.int IntKind.u8 0,Value.int IntKind.u8 0,Value.int IntKind.u8 0,Value.int IntKind.u8 0,Value.int IntKind.u8 0,Value.int IntKind.u8 0,Value.int IntKind.u8 0,Value.int IntKind.u8 0,Value.int IntKind.u8 0,Value.int IntKind.u8 0,Value.int IntKind.u8 0,Value.int IntKind.u8 0,Value.int IntKind.u8 0,Value.int IntKind.u8 0,Value.int IntKind.u8 0,Value.int IntKind.u8 0,Value.int IntKind.u8 0,Value.int IntKind.u8 0,Value.int IntKind.u8 0,Value.int IntKind.u8 0,Value.int IntKind.u8 0,Value.int IntKind.u8 0,Value.int IntKind.u8 0,Value.int IntKind.u8 0]:Array Value)=(an (List.replicate 32 0)).toArray:=rfl;have k13:ak aO W w13:=by rw[hw13];exact(ak.refl _ _).alloc _
  have h13:w13.heap[W.heap.size]?=some (.cells (an (List.replicate 32 0)).toArray 24 (0,0)):=by rw[hw13];exact bw
  have hst:=k13.heap HH1.out (fun e=>e);have HZ:=Lib.hid hz;have HW13:=Lib.hid hw13;have K13:=Lib.hid k13;have H13:=Lib.hid h13;have HST:=Lib.hid hst;have HL2:=Lib.hid hL;clear hz hw13 k13 h13 hst hL
  gi_wp2_with (first
   |(refine oo rfl _ _ rfl w10.heap.size rfl _ (bA L) (0,0) _ (by rw[HZ.out,<-HW13.out];exact HST.out) Tryz.underlying118 rfl (qm _ hL8) ?_))
  rw[HZ.out,<-HW13.out]
  gi_loopw [42] (Wv w13 W.heap.size L) (fun i _=>8-(intOf i).toNat)
  case atStart=>exact⟨0,rfl,by omega,H13.out,ak.refl _ _⟩
  obtain⟨k,rfl,hk,hr,hkr⟩:=hrel;by_cases hlt:k<8
  ·have hix:=tw (P:=Tryz.prog) 118 117 8 Tryz.underlying118 (by kernel_rfl) Tryz.underlying117 L k hlt hL8;obtain⟨x,hx⟩:∃x,x=co L k:=⟨_,rfl⟩;rw[<-hx]at hix;have hk0:(0:Int)<=(k:Int):=by omega
   have hk1:(k:Int)<8:=by omega
   have hw4:IntKind.i64.wrap (4*(k:Int))=4*(k:Int):=IntWalk.i64_in _ (by omega);have hsl:=yi (P:=Tryz.prog) 24 5 32 Tryz.underlying24 (by kernel_rfl) W.heap.size (4*k) (4*(k:Int)) .i64 (by omega) (by omega);have h4a:(0:Int)<=4*(k:Int):=by omega
   have h4b:4*(k:Int)<=32:=by omega
   have h4c:¬(32=4*k):=by omega
   have h4d:(4*(k:Int)).toNat=4*k:=by omega
   have h4e:min 4 (32-4*k)=4:=by omega
   have hlo:W.heap.size<wr.heap.size:=fy hr;obtain⟨w14,hw14⟩:∃w,w=(wr.alloc (.cells (an (cg x)).toArray 5)).drew:=⟨_,rfl⟩;have hr14:w14.heap[W.heap.size]?=some (.cells (an (gr L k)).toArray 24 (0,0)):=by rw[hw14];show(wr.alloc _).heap[W.heap.size]?=_;rw[Below.heap_alloc _ _ _ hlo];exact hr
   have hsrc:mJ w14 (.slice (some ⟨wr.heap.size,0,none⟩) 4 4) 4 (an (cg x)):=.inr ⟨_,4,rfl,fun _=>⟨_,rfl,fun j v hv=>by
    rw[bX,Nat.zero_add,hw14];show(wr.alloc _).cell? _=_;rw[bm bw];simpa using hv⟩⟩
   have hmin:(an (cg x)).length=Nat.min 4 (32-4*k):=by show 4=Nat.min 4 (32-4*k);rw[show Nat.min 4 (32-4*k)=min 4 (32-4*k)from rfl];omega
   obtain⟨c1,c2⟩:=hsrc.run (P:=Tryz.prog) hmin;have hcp:=Dj (P:=Tryz.prog) w14 80 80 3 5 W.heap.size (4*k) (32-4*k) (32-4*k) _ 4 _ _ _ Tryz.underlying80 (by kernel_rfl) hr14 c1 (by rw[<-hmin];exact c2) hmin
    (by show 4*k+4<=_;rw[List.size_toArray,bE,Bz L k hL8 (by omega)];omega) (ja _)
   have hlen4:(an (cg x)).length=4:=rfl;rw[hlen4,List.toList_toArray,hx,E2 L k hL8 hlt]at hcp;rw[hw14]at hcp;have hgo:goInt ((4:Nat):Int)=.int .i64 4:=rfl;clear hsrc hmin c1 c2 hlen4 hr14 hw14;have HR:=Lib.hid hr;have HKR:=Lib.hid hkr;have HX:=Lib.hid hx;clear hr hkr hx
   gi_wp2_with fail
   apply FC
   ·gi_region_with (refine⟨trivial,?_⟩;refine(callsIn_wide.2 (ux x _)).mono ?_;rintro e w' ⟨rfl,rfl⟩)
    all_goals exact⟨rfl,rfl⟩
   gi_wp2_with fail
   go_roundw
   case rel=>
    have hk1:ak (fun y=>y=W.heap.size) w13 (wr.alloc (.cells (an (cg x)).toArray 5)).drew:=(HKR.out.alloc _).drew;exact⟨k+1,by simp,by omega,setRow_heap _ _ _ _ _ _ (by
     show(wr.alloc _).heap[W.heap.size]?=_;rw[Below.heap_alloc _ _ _ hlo];exact HR.out),hk1.trans ⟨rfl,rfl,rfl,by simp,fun j hj hn=>setRow_other _ _ _ _ hn⟩⟩
   case measure=>simp[intOf];omega
  obtain rfl:k=8:=by omega
  have q12:=Z12.out;have q11:=Z11.out;have q1:=Z1.out;have q9:=K9.out.size;have q10:=z10;have qW:=HH2.out.size;have hD2:D<W.heap.size:=fy HHK.out;have hz:wr.heap[w.heap.size]?=some (.cells (an (List.replicate 32 0)).toArray 24 (0,0)):=by have a1:=(((K9.out.trans K10.out).trans K11.out).trans K12.out).heap H1.out (fun e=>e);have a2:=HH2.out.heap a1 (fun e=>by omega);have a3:=K13.out.heap a2 (fun e=>e);exact hkr.heap a3 (fun e=>by omega)
  have hdf:wr.heap[D]?=some (.deferred (some [])):=by have a2:=K13.out.heap HHK.out (fun e=>e);exact hkr.heap a2 (fun e=>by omega)
  have hout:gr L 8=dR l:=by rw[SW L hL8,HL2.out,HM.out];unfold dR;rw[show(jl l).length/64=N by rw[<-HM.out,HN.out];omega]
  rw[hout]at hr;have hsz:(Tryz.prog.info? 24).map (·.size)=some (an (dR l)).toArray.size:=by rw[List.size_toArray,bE,dB];kernel_rfl
  have hkall:ak (fun x=>w.heap.size<=x) w wr:=by have b1:=((((KK1.out.trans K9.out).trans K10.out).trans K11.out).trans K12.out).any' (fun x=>w.heap.size<=x);have b2:=b1.trans (HH2.out.mono (T:=fun x=>w.heap.size<=x) (fun k _ e=>by omega));have b3:=b2.trans (K13.out.any' _);exact b3.trans (hkr.mono (fun k _ e=>by omega))
  have HR:=Lib.hid hr;have HZZ:=Lib.hid hz;have HDF:=Lib.hid hdf;have HSZ:=Lib.hid hsz;have HKA:=Lib.hid hkall;have hDne:D≠w.heap.size:=by omega
  clear hr hkr hlt hk hz hdf hsz hkall hout q12 q11 q1 q9 q10 qW
  gi_wp2_with (first
   |(refine oo rfl _ _ rfl W.heap.size rfl _ (an (dR l)).toArray (0,0) _ HR.out Tryz.underlying24 rfl HSZ.out ?_)
   |(refine nN rfl _ _ _ rfl w.heap.size (an (dR l)).toArray rfl rfl _ _ HZZ.out HSZ.out (by rw[List.size_toArray,List.size_toArray,bE,bE,dB];rfl) (all_oneCell_toArray (ja _)) ?_))
  have hdf2:(wr.setRow w.heap.size (an (dR l)).toArray).heap[D]?=some (.deferred (some [])):=by rw[setRow_other _ _ _ _ hDne];exact HDF.out
  refine⟨by simp,.inl ⟨_,_,rfl,run_takeDeferred hdf2,?_⟩⟩;have hres:((wr.setRow w.heap.size (an (dR l)).toArray).putObj D (.deferred none)).heap[w.heap.size]?=some (.cells (an (dR l)).toArray 24 (0,0)):=by rw[World.putObj_heap_other (fun e=>hDne e.symm)];exact setRow_heap _ _ _ _ _ _ HZZ.out
  refine⟨_,results_cell_row rfl _ _ w.heap.size _ (an (dR l)).toArray (0,0) _ rfl hres Tryz.underlying24 rfl HSZ.out,?_,?_⟩
  ·rw[<-HL.out];rfl
  have c1:ak (fun x=>w.heap.size<=x) w (wr.setRow w.heap.size (an (dR l)).toArray):=
   HKA.out.trans ⟨rfl,rfl,rfl,by simp,fun j hj hn=>setRow_other _ _ _ _ (fun e=>hn (by omega))⟩
  have c2:=c1.grown (grownBy_putObj' _ D (.deferred none)) (fun k e hk=>by cases e;have:=HH2.out.size;have:=Z12.out;have:=Z11.out;have:=Z1.out;have:=K9.out.size;omega);exact c2.mono (fun k hk e=>by omega)
 rintro D c pre W _ _ h _;exact h.elim
theorem aa4(n i:Nat)(h:i<8):(pb n)[7-i]?=some (gK n (8*i)):=by
 match i,h with
 |0,_=>rfl
 |1,_=>rfl
 |2,_=>rfl
 |3,_=>rfl
 |4,_=>rfl
 |5,_=>rfl
 |6,_=>rfl
 |7,_=>rfl
theorem Lt(n i:Nat)(h:i<8):(pb n).take (7-i)++[gK n (8*i)]=(pb n).take (8-i):=by
 match i,h with
 |0,_=>rfl
 |1,_=>rfl
 |2,_=>rfl
 |3,_=>rfl
 |4,_=>rfl
 |5,_=>rfl
 |6,_=>rfl
 |7,_=>rfl
theorem Ol(n j:Nat)(h:j<eH n):(n+1+j)%64≠56:=by unfold eH at h;omega
theorem RJ(n:Nat):(n+1+eH n)%64=56:=by unfold eH;omega
theorem AV(n:Nat):eH n<64:=by unfold eH;omega
theorem IQ(n i:Nat):(n:Int)*8/2^(8*i)%256=((gK (8*n) (8*i)).toNat:Int):=by
 unfold gK;rw[UInt8.toNat_ofNat'];have e:(n:Int)*8=((8*n:Nat):Int):=by omega
 rw[e];have e2:(2:Int)^(8*i)=((2^(8*i):Nat):Int):=by push_cast;rfl
 rw[e2];omega
def Xw(l:List UInt8)(t:Value):Prop:=∃j:Nat,j<=eH l.length/\t=.string (str (l++[0x80]++List.replicate j 0))
def Rd(w:World)(l:List UInt8)(t i:Value)(wr:World):Prop:=
 ∃q:Int,-1<=q/\q<=7/\i=.int .i64 q/\t=.string (str (l++[0x80]++List.replicate (eH l.length) 0++(pb (8*l.length)).take (7-q).toNat))/\ak aO w wr
def GT(z n:Nat):Value->Nat
 |.string s=>z+n-s.size
 |_=>0
set_option maxHeartbeats 1000000 in
theorem If(l:List UInt8)(w:World)(hs:l.length<=140737488351232):Calls Tryz.prog 53 #[.string (str l)] w fun e w'=>e=.returned (.string (str (jl l)))/\ak aO w w':=by
 have hn1:¬9223372036854775807<(str l).size+1:=by rw[dO];omega
 have hsl:(str l).size=l.length:=dO l;obtain⟨n,hn⟩:∃n,n=l.length:=⟨_,rfl⟩;have HN:=Lib.hid hn;have hnb:n<=140737488351232:=by omega
 have HSL:=Lib.hid hsl;clear hsl hn hs
 go_enter Tryz.func53,Tryz.ntmps53
 go_wp2_with fail
 rw[show str l++(⟨#[128]⟩:ByteArray)=str (l++[0x80]++List.replicate 0 0) by rw[List.replicate_zero,List.append_nil];exact iL l [0x80]];clear hn1
 go_loop [3] (Xw l) (GT (eH l.length) (l.length+1))
 case atStart=>exact⟨0,abW _,rfl⟩
 obtain⟨j,hj,rfl⟩:=hrel;obtain⟨X,hX⟩:∃X,X=l++[0x80]++List.replicate j 0:=⟨_,rfl⟩;have hlen:X.length=n+1+j:=by rw[hX,HN.out];simp;omega
 have hz64:=AV l.length;obtain⟨m,hm⟩:∃m,m=X.length:=⟨_,rfl⟩;have hsz:(str X).size=m:=by rw[hm];exact dO X
 rw[<-hX];by_cases hlt:j<eH l.length
 ·have ht:=Ol _ _ hlt;rw[<-HN.out,<-hlen,<-hm]at ht;have hb:(((m:Int)%64) !=56)=true:=by rw[bne_iff_ne];omega
  have hb2:¬((m:Int)%64=56):=by omega
  have hn1:¬9223372036854775807<m+1:=by omega
  have HX:=Lib.hid hX;have HM:=Lib.hid hm;have HL:=Lib.hid hlen;clear hX hm hlen ht
  go_wp2_with fail
  go_round
  case rel=>exact⟨j+1,hlt,by rw[HX.out,List.replicate_succ',<-acg,<-iL];rfl⟩
  have h1:=HL.out;have h2:=HN.out;have h3:=HM.out;simp only[GT];rw[show(str X++(⟨#[0]⟩:ByteArray))=str (X++[0])from iL X [0],dO,dO,abP,ab5];omega
 obtain rfl:j=eH l.length:=by omega
 have ht:=RJ l.length;rw[show l.length+1+eH l.length=m by rw[hm,hlen,HN.out]]at ht;have hb:(((m:Int)%64) !=56)=false:=by rw[bne_eq_false_iff_eq];omega
 have hb2:(m:Int)%64=56:=by omega
 have HX:=Lib.hid hX;have HM:=Lib.hid hm;have HL:=Lib.hid hlen;have HB:=Lib.hid hb2;clear hX hm hlen hb2 hlt hj ht;have hs0:(str l).size=n:=by rw[HN.out];exact HSL.out
 have hpl:l++128::(List.replicate (eH l.length) 0++List.take 8 (pb (8*l.length)))=jl l:=by rw[List.take_of_length_le (by simp[pb])];simp[jl]
 have HPL:=Lib.hid hpl;clear hpl
 go_wp2_with fail
 clear hs0 hsz hb;rw[HX.out]
 go_loopw [3,5] (Rd w l) (fun _ i _=>(intOf i+1).toNat)
 case atStart=>exact⟨7,by omega,by omega,rfl,by simp,ak.refl _ _⟩
 obtain⟨q,hq1,hq2,rfl,rfl,hkr⟩:=hrel;by_cases hq:0<=q
 ·obtain⟨i,rfl⟩:∃i:Nat,q=(i:Int):=⟨q.toNat,by omega⟩;obtain⟨Y,hY⟩:∃Y,Y=l++[0x80]++List.replicate (eH l.length) 0++(pb (8*l.length)).take (7-(i:Int)).toNat:=⟨_,rfl⟩;rw[<-hY];obtain⟨b,hb⟩:∃b,b=gK (8*l.length) (8*i):=⟨_,rfl⟩;have hbi:(n:Int)*8/2^(8*i)%256=(b.toNat:Int):=by rw[hb,<-HN.out];exact IQ n i
  have hcv:(convert 80 9 (.slice (some ⟨wr.heap.size,0,none⟩) 1 1)).run Tryz.prog (wr.alloc (.cells #[.int .u8 (b.toNat:Int)] 5))=.ok (.string (str [b])) (wr.alloc (.cells #[.int .u8 (b.toNat:Int)] 5)):=by
   refine n8 (P:=Tryz.prog) _ 80 9 5 _ 1 1 [b] Tryz.underlying80 Tryz.underlying5 Tryz.underlying9 rfl (fun _=>⟨_,rfl,fun j hj=>?_⟩);obtain rfl:j=0:=by simp at hj;omega
   rw[bX,Nat.zero_add,bm bw];rfl
  have hyl:Y.length<=140737488351500:=by rw[hY];simp only[abP,abR,acD,ab5];have:=HN.out;omega
  have hadd:=fun W=>EV (P:=Tryz.prog) Y [b] (by simp;omega) W
  have hns:¬9223372036854775807<(str Y).size+(str [b]).size:=by rw[dO,dO];simp;omega
  have hi0:(0:Int)<=(i:Int):=by omega
  have HY:=Lib.hid hY;have HKR:=Lib.hid hkr;have HB2:=Lib.hid hb;clear hY hkr hq1 hb hyl hadd
  go_wp2_with fail
  go_roundw
  case rel=>refine⟨(i:Int)-1,by omega,by omega,rfl,?_,HKR.out.alloc _⟩;rw[iL,HY.out,HB2.out,acg _ _ [_]];rw[show(7-(i:Int)).toNat=7-i by omega,show(7-((i:Int)-1)).toNat=8-i by omega,Lt _ _ (by omega)]
  case measure=>simp[intOf]
 obtain rfl:q=-1:=by omega
 go_wp2_with fail
 go_ret
 exact⟨by rw[<-HPL.out];rfl,hkr⟩
def RH(w:World)(g:Nat)(m:List UInt8)(N:Nat)(i:Value)(wr:World):Prop:=
 ∃k:Nat,i=.int .i64 ((64*k:Nat):Int)/\k<=N/\wr.heap[g]?=some (.cells (bA (oa m k).list) 118 (0,0))/\ak (fun x=>x=g) w wr
theorem Ok(m:List UInt8)(N k:Nat)(h:m.length=64*N)(hk:k<N):((m.drop (64*k)).take 64).length=64:=by
 rw[abR,abT];omega
theorem OX(L:List aA)(q r:Nat)(hr:r<4)(hq:q<L.length):(L.flatMap cg)[4*q+r]?=some (ko (co L q) (8*(3-r))):=by
 induction L generalizing q with
 |nil=>simp at hq
 |cons x L ih=>
  rw[ab7];cases q with
  |zero=>
   rw[acz (by simp[cg];omega)]
   match r,hr with
   |0,_=>rfl
   |1,_=>rfl
   |2,_=>rfl
   |3,_=>rfl
  |succ q=>
   rw[act (by simp[cg];omega)];have:=ih q (by simpa using hq);rw[show 4*(q+1)+r-(cg x).length=4*q+r by simp[cg];omega,this];simp[co]
def ii(R:List UInt8)(i:Nat):List UInt8:=R.take i++List.replicate (32-i) 0
theorem HH(R:List UInt8)(i:Nat)(hR:R.length=32)(h:i<32)(b:UInt8)(hb:R[i]?=some b):(an (ii R i)).toArray.setIfInBounds i (.int .u8 (b.toNat:Int))=(an (ii R (i+1))).toArray:=by
 have hl:(R.take i).length=i:=by rw[abR];omega
 have e:ii R (i+1)=(ii R i).set i b:=by
  unfold ii;rw[adg _ _ (by omega),hl,Nat.sub_self,show 32-i=(32-(i+1))+1 by omega,List.replicate_succ,List.set_cons_zero];have ht:R.take (i+1)=R.take i++[b]:=by rw[List.take_add_one,hb];rfl
  rw[ht];simp
 rw[e];unfold an;rw[List.map_set];simp[bv]
def Rf(w:World)(g:Nat)(R:List UInt8)(i:Value)(wr:World):Prop:=
 ∃k:Nat,i=.int .i64 (k:Int)/\k<=32/\wr.heap[g]?=some (.cells (an (ii R k)).toArray 24 (0,0))/\ak (fun x=>x=g) w wr
set_option maxRecDepth 100000 in
set_option maxHeartbeats 2000000 in
theorem Om(l:List UInt8)(w:World)(hs:l.length<=140737488351232):Calls Tryz.prog 27 #[.string (str l)] w fun e w'=>e=.returned (Pn (dR l))/\ak aO w w':=by
 obtain⟨w2,hw2⟩:∃w2,w2=((w.alloc (.cells #[Value.int IntKind.u8 0,Value.int IntKind.u8 0,Value.int IntKind.u8 0,Value.int IntKind.u8 0,Value.int IntKind.u8 0,Value.int IntKind.u8 0,Value.int IntKind.u8 0,Value.int IntKind.u8 0,Value.int IntKind.u8 0,Value.int IntKind.u8 0,Value.int IntKind.u8 0,Value.int IntKind.u8 0,Value.int IntKind.u8 0,Value.int IntKind.u8 0,Value.int IntKind.u8 0,Value.int IntKind.u8 0,Value.int IntKind.u8 0,Value.int IntKind.u8 0,Value.int IntKind.u8 0,Value.int IntKind.u8 0,Value.int IntKind.u8 0,Value.int IntKind.u8 0,Value.int IntKind.u8 0,Value.int IntKind.u8 0,Value.int IntKind.u8 0,Value.int IntKind.u8 0,Value.int IntKind.u8 0,Value.int IntKind.u8 0,Value.int IntKind.u8 0,Value.int IntKind.u8 0,Value.int IntKind.u8 0,Value.int IntKind.u8 0] 24)).alloc (.cells (bA (List.replicate 8 0)) 118)).setRow (w.heap.size+1) (bA iv):=⟨_,rfl⟩;have k2:ak aO w w2:=by
  rw[hw2];exact⟨rfl,rfl,rfl,by simp only[setRow_size,World.size_alloc];omega,fun j hj _=>by
   rw[setRow_other _ _ _ _ (by omega),Below.heap_alloc _ _ _ (by simp;omega),Below.heap_alloc _ _ _ hj]⟩
 have h20:w2.heap[w.heap.size]?=some (.cells (an (List.replicate 32 0)).toArray 24 (0,0)):=by rw[hw2,setRow_other _ _ _ _ (by omega)];exact eE
 have h21:w2.heap[w.heap.size+1]?=some (.cells (bA (oa (jl l) 0).list) 118 (0,0)):=by rw[hw2];exact setRow_heap _ _ (bA (List.replicate 8 0)) _ _ _ dV
 have z2:w2.heap.size=w.heap.size+2:=by rw[hw2];simp
 have HW2:=Lib.hid hw2;have K2:=Lib.hid k2;have H20:=Lib.hid h20;have H21:=Lib.hid h21;have Z2:=Lib.hid z2;clear hw2 k2 h20 h21 z2
 go_enter Tryz.func27,Tryz.ntmps27
 go_wp2_with (first
  |(refine jv rfl _ _ rfl (bA iv) (by kernel_rfl) ?_)
  |(refine wpList_store_row rfl _ _ _ rfl (w.heap.size+1) (bA iv) rfl rfl 118 (bA (List.replicate 8 0)) (by rw[DB];exact dV) (qm iv rfl) rfl (iz iv) ?_))
 rw[DB,<-HW2.out];refine(If l w2 hs).mono ?_;rintro e w3 ⟨rfl,k3⟩;have h30:=k3.heap H20.out (fun e=>e);have h31:=k3.heap H21.out (fun e=>e);obtain⟨m,hm⟩:∃m,m=jl l:=⟨_,rfl⟩;rw[<-hm]at h31;rw[<-hm];obtain⟨N,hN⟩:∃N,m.length=64*N:=⟨m.length/64,by have:=Dz l;rw[<-hm]at this;omega⟩;have hNb:N<=2199023255552:=by have h1:=qp l;rw[<-hm,hN]at h1;have:=AV l.length;omega
 have hsz:(str m).size=64*N:=by rw[dO,hN]
 have z3:=k3.size;have K3:=Lib.hid k3;have H30:=Lib.hid h30;have H31:=Lib.hid h31;have HM:=Lib.hid hm;have HN:=Lib.hid hN;have HSZ:=Lib.hid hsz;clear k3 h30 h31 hm hN hsz hs
 go_wp2_with fail
 go_loopw [5] (RH w3 (w.heap.size+1) m N) (fun i _=>64*N-(intOf i).toNat)
 case atStart=>exact⟨0,rfl,by omega,H31.out,ak.refl _ _⟩
 obtain⟨k,rfl,hk,hr,hkr⟩:=hrel;obtain⟨i,hi⟩:∃i,i=64*k:=⟨_,rfl⟩;obtain⟨L,hL⟩:∃L,L=64*N:=⟨_,rfl⟩;have hsz:(str m).size=L:=by rw[hL];exact HSZ.out
 rw[<-hi];by_cases hlt:k<N
 ·obtain⟨s,hs⟩:∃s,s=oa m k:=⟨_,rfl⟩;rw[<-hs]at hr;obtain⟨c,hc⟩:∃c,c=(m.drop i).take 64:=⟨_,rfl⟩;have hcl:c.length=64:=by rw[hc,hi];exact Ok m N k HN.out hlt
  obtain⟨r,hrr⟩:∃r,r=dw s c:=⟨_,rfl⟩;have hnext:oa m (k+1)=r:=by rw[hrr,hc,hs,hi];rfl
  obtain⟨sa,sb,sc,sd,se,sf,sg,sh⟩:=s;obtain⟨ra,rb,rc,rd,re,rf,rg,rh⟩:=r;have hB:∀W,Calls Tryz.prog 54 #[.agg #[.int .u32 (uw sa),.int .u32 (uw sb),.int .u32 (uw sc),.int .u32 (uw sd),.int .u32 (uw se),.int .u32 (uw sf),.int .u32 (uw sg),.int .u32 (uw sh)],.string (str c)] W fun e w'=>e=.returned (.agg #[.int .u32 (uw ra),.int .u32 (uw rb),.int .u32 (uw rc),.int .u32 (uw rd),.int .u32 (uw re),.int .u32 (uw rf),.int .u32 (uw rg),.int .u32 (uw rh)])/\ak aO W w':=fun W=>
   (Mg ⟨sa,sb,sc,sd,se,sf,sg,sh⟩ c W hcl).mono fun e w' h=>⟨h.1.trans (by rw[<-hrr];rfl),h.2⟩
  have hl8:(S8.list ⟨sa,sb,sc,sd,se,sf,sg,sh⟩).length=8:=rfl;have c0:wr.cell? ⟨w.heap.size+1,0,none⟩=some (.int .u32 (uw sa)):=aZ hr 0 (by rw[hl8];omega);have c1:wr.cell? ⟨w.heap.size+1,1,none⟩=some (.int .u32 (uw sb)):=aZ hr 1 (by rw[hl8];omega);have c2:wr.cell? ⟨w.heap.size+1,2,none⟩=some (.int .u32 (uw sc)):=aZ hr 2 (by rw[hl8];omega);have c3:wr.cell? ⟨w.heap.size+1,3,none⟩=some (.int .u32 (uw sd)):=aZ hr 3 (by rw[hl8];omega);have c4:wr.cell? ⟨w.heap.size+1,4,none⟩=some (.int .u32 (uw se)):=aZ hr 4 (by rw[hl8];omega);have c5:wr.cell? ⟨w.heap.size+1,5,none⟩=some (.int .u32 (uw sf)):=aZ hr 5 (by rw[hl8];omega);have c6:wr.cell? ⟨w.heap.size+1,6,none⟩=some (.int .u32 (uw sg)):=aZ hr 6 (by rw[hl8];omega);have c7:wr.cell? ⟨w.heap.size+1,7,none⟩=some (.int .u32 (uw sh)):=aZ hr 7 (by rw[hl8];omega);have hfz:∀j,wr.frozen? ⟨w.heap.size+1,j,none⟩=false:=fun j=>dS hr j
  have hbl:w.heap.size+1<wr.heap.size:=fy hr;have hsl:=Bm (P:=Tryz.prog) 9 Tryz.underlying9 m .i64 .i64 i (i+64) (by omega) (by rw[HN.out];omega);have hsl2:∀W,(Instr.slice 9 (.string (str m)) (some (.int .i64 (i:Int))) (some (.int .i64 ((i:Int)+64))) none).run Tryz.prog W=.ok (.string (str c)) W:=fun W=>by
   have:=hsl W;rw[show i+64-i=64 by omega,<-hc]at this;rw[<-this];congr 1
  have hi0:(0:Int)<=(i:Int):=by omega
  have hi1:(i:Int)<(L:Int):=by omega
  have hi3:(i:Int)<=140737488355328:=by omega
  have hw64:IntKind.i64.wrap ((i:Int)+64)=(i:Int)+64:=IntWalk.i64_in _ (by omega);have HBB:=Lib.hid hB;have HR:=Lib.hid hr;have HKR:=Lib.hid hkr;have HNX:=Lib.hid hnext;have HI:=Lib.hid hi;have HLL:=Lib.hid hL;clear hsl hB hr hkr hnext hi hL hrr hc hcl hl8 hs hk
  go_wp2_with fail
  go_region_with (go_at_call 54;refine(HBB.out _).mono ?_;rintro e w' ⟨rfl,hk⟩;have hcc:∀j,w'.cell? ⟨w.heap.size+1,j,none⟩=wr.cell? ⟨w.heap.size+1,j,none⟩:=fun j=>nJ (w:=wr.drew) hk hbl (fun e=>e) j;have hff:∀j,w'.frozen? ⟨w.heap.size+1,j,none⟩=false:=fun j=>(World.frozen?_of_block (a:=⟨w.heap.size+1,j,none⟩) (hk.block (w.heap.size+1) hbl (fun e=>e))).trans (hfz j))
  clear hcc c0 c1 c2 c3 c4 c5 c6 c7 hfz hff;have hr8:w'.heap[w.heap.size+1]?=some (.cells (bA (S8.list ⟨sa,sb,sc,sd,se,sf,sg,sh⟩)) 118 (0,0)):=ak.heap (w:=wr.drew) hk HR.out (fun e=>e);have HR8:=Lib.hid hr8;have HK8:=Lib.hid ((HKR.out.drew).trans (hk.any' (fun x=>x=w.heap.size+1)));clear hr8 hk
  go_wp2_with fail
  go_roundw
  case rel=>refine⟨k+1,by rw[HI.out];go_num,hlt,?_,(((((((HK8.out.setCell (fun _=>rfl) _).setCell (fun _=>rfl) _).setCell (fun _=>rfl) _).setCell (fun _=>rfl) _).setCell (fun _=>rfl) _).setCell (fun _=>rfl) _).setCell (fun _=>rfl) _).setCell (fun _=>rfl) _⟩;rw[eu (eu (eu (eu (eu (eu (eu (eu HR8.out))))))),HNX.out];rfl
  case measure=>have:=HI.out;have:=HLL.out;simp[intOf];omega
 obtain rfl:k=N:=by omega
 obtain⟨R,hR⟩:∃R,R=(oa m k).list:=⟨_,rfl⟩;have hR8:R.length=8:=by rw[hR];exact PH _
 rw[<-hR]at hr;have hout:R.flatMap cg=dR l:=by rw[hR];unfold dR;rw[<-HM.out,HN.out,show 64*k/64=k by omega]
 obtain⟨wo,rfl⟩:∃wo:World,wo=wr:=⟨_,rfl⟩;obtain⟨w6,hw6⟩:∃w6,w6=wo.alloc (.cells (an (ii (dR l) 0)).toArray 24):=⟨_,rfl⟩;have hz:(#[Value.int IntKind.u8 0,Value.int IntKind.u8 0,Value.int IntKind.u8 0,Value.int IntKind.u8 0,Value.int IntKind.u8 0,Value.int IntKind.u8 0,Value.int IntKind.u8 0,Value.int IntKind.u8 0,Value.int IntKind.u8 0,Value.int IntKind.u8 0,Value.int IntKind.u8 0,Value.int IntKind.u8 0,Value.int IntKind.u8 0,Value.int IntKind.u8 0,Value.int IntKind.u8 0,Value.int IntKind.u8 0,Value.int IntKind.u8 0,Value.int IntKind.u8 0,Value.int IntKind.u8 0,Value.int IntKind.u8 0,Value.int IntKind.u8 0,Value.int IntKind.u8 0,Value.int IntKind.u8 0,Value.int IntKind.u8 0,Value.int IntKind.u8 0,Value.int IntKind.u8 0,Value.int IntKind.u8 0,Value.int IntKind.u8 0,Value.int IntKind.u8 0,Value.int IntKind.u8 0,Value.int IntKind.u8 0,Value.int IntKind.u8 0]:Array Value)=(an (ii (dR l) 0)).toArray:=rfl;have k6:ak aO wo w6:=by rw[hw6];exact(ak.refl _ _).alloc _
 have h6:w6.heap[wo.heap.size]?=some (.cells (an (ii (dR l) 0)).toArray 24 (0,0)):=by rw[hw6];exact bw
 have hs6:=k6.heap hr (fun e=>e);have hz6:=k6.heap (hkr.heap H30.out (fun e=>by omega)) (fun e=>e);have hkw:ak aO w w6:=((K2.out.trans K3.out).trans' hkr (fun j hj e=>by omega)).trans k6;have zo:w3.heap.size<=wo.heap.size:=hkr.size;have hii:i=L:=by rw[hi,hL]
 have hi64:¬(i:Int)<(L:Int):=by omega
 have HZ:=Lib.hid hz;have HW6:=Lib.hid hw6;have H6:=Lib.hid h6;have HS6:=Lib.hid hs6;have HZ6:=Lib.hid hz6;have HKW:=Lib.hid hkw;have HOUT:=Lib.hid hout;have HR8:=Lib.hid hR8;have ZZ:=Lib.hid (show w.heap.size+1<wo.heap.size by have:=Z2.out;omega);clear hr hkr hR hR8 hout hw6 hz k6 h6 hs6 hz6 hkw hi hL hlt hk zo hii
 go_wp2_with fail
 rw[HZ.out,<-HW6.out]
 go_loopw [7] (Rf w6 wo.heap.size (dR l)) (fun i _=>32-(intOf i).toNat)
 case atStart=>exact⟨0,rfl,by omega,H6.out,ak.refl _ _⟩
 obtain⟨k,rfl,hk,hr,hkr⟩:=hrel;by_cases hlt:k<32
 ·obtain⟨q,r,hq,hr4,hkq⟩:∃q r:Nat,q<8/\r<4/\k=4*q+r:=⟨k/4,k%4,by omega,by omega,by omega⟩;have hzz:=ZZ.out;have cs:=aZ (hkr.heap HS6.out (fun e=>by omega)) q (by rw[HR8.out];exact hq);have hby:=OX R q r hr4 (by rw[HR8.out];exact hq);rw[HOUT.out,<-hkq]at hby;obtain⟨x,hx⟩:∃x,x=co R q:=⟨_,rfl⟩;rw[<-hx]at cs hby;have hgt:wr.cell? ⟨wo.heap.size,k,none⟩=some (bv ((ii (dR l) k)[k]'(by unfold ii;rw[abP,abR,acD,dB];omega))):=by
   rw[bm hr,<-acr];simp only[an,acE];rw[abS (by unfold ii;rw[abP,abR,acD,dB];omega)];rfl
  have cf:=dS hr k;obtain⟨vv,hvv⟩:∃v,v=bv ((ii (dR l) k)[k]'(by unfold ii;rw[abP,abR,acD,dB];omega)):=⟨_,rfl⟩;rw[<-hvv]at hgt;have hk0:(0:Int)<=(k:Int):=by omega
  have hk1:(k:Int)<32:=by omega
  have hdv:(k:Int)/4=(q:Int):=by omega
  have hmd:(k:Int)%4=(r:Int):=by omega
  have hq0:(0:Int)<=(q:Int)/\(q:Int)<8:=by omega
  have hst:=fun(b:UInt8) hb=>HH (dR l) k (dB l) hlt b hb
  have HR:=Lib.hid hr;have HKR:=Lib.hid hkr;have HBY:=Lib.hid hby;have HST:=Lib.hid hst;clear hr hkr hby hst hvv hx hzz hkq;obtain rfl|rfl|rfl|rfl:r=0\/r=1\/r=2\/r=3:=by omega
  all_goals
   go_wp2_with fail
   go_roundw
   case rel=>refine⟨k+1,by simp,by omega,?_,HKR.out.setCell (fun _=>rfl) _⟩;have e:=HST.out _ HBY.out;rw[eu HR.out];simp only[Ho,GI,Ly,LZ];exact congrArg (fun c=>some (Obj.cells c 24 (0,0))) e
   case measure=>simp[intOf];omega
 obtain rfl:k=32:=by omega
 have hfull:ii (dR l) 32=dR l:=by unfold ii;rw[List.take_of_length_le (by rw[dB];omega)];simp
 rw[hfull]at hr;have hzz:=ZZ.out;have hz2:=hkr.heap HZ6.out (fun e=>by omega);have hsz:(Tryz.prog.info? 24).map (·.size)=some (an (dR l)).toArray.size:=by rw[List.size_toArray,bE,dB];kernel_rfl
 have ho:(an (List.replicate 32 (0:UInt8))).toArray.size=(an (dR l)).toArray.size:=by rw[List.size_toArray,List.size_toArray,bE,bE,dB];rfl
 obtain⟨S,hS⟩:∃S,S=dR l:=⟨_,rfl⟩;have HSS:=Lib.hid hS;rw[<-hS]at hr hsz ho;have HR:=Lib.hid hr;have HKR:=Lib.hid hkr;have HZZ:=Lib.hid hz2;have HSZZ:=Lib.hid hsz;have HO:=Lib.hid ho;clear hr hkr hz2 hsz ho hS hfull hlt hk hzz
 go_wp2_with (first
  |(refine wpList_load_row rfl _ _ rfl wo.heap.size rfl _ (an S).toArray (0,0) _ HR.out Tryz.underlying24 rfl HSZZ.out ?_)
  |(refine wpList_store_row rfl _ _ _ rfl w.heap.size (an S).toArray rfl rfl _ _ HZZ.out HSZZ.out HO.out (all_oneCell_toArray (ja _)) ?_))
 refine bodyPost_ret (results_cell_row rfl _ _ w.heap.size _ (an S).toArray (0,0) _ rfl (setRow_heap _ _ _ _ _ _ HZZ.out) Tryz.underlying24 rfl HSZZ.out) rfl ⟨by rw[HSS.out];rfl,?_⟩;have c1:=(HKW.out.any' (fun x=>w.heap.size<=x)).trans (HKR.out.mono (fun k _ e=>by have:=ZZ.out;omega));have c2:ak (fun x=>w.heap.size<=x) w (wr.setRow w.heap.size (an S).toArray):=
  c1.trans ⟨rfl,rfl,rfl,by simp,fun j hj hn=>setRow_other _ _ _ _ (fun e=>hn (by omega))⟩
 exact c2.mono (fun k hk e=>by omega)
open Go.ChangeShapes Go.WideShapes Go.ChangeAt
theorem y5{a b:List UInt8}(h:str a=str b):a=b:=by
 have:=congrArg (fun s:ByteArray=>s.data.toList) h;exact this
def dU:List UInt8->List UInt8->Bool
 |a::l,b::m=>if a.toNat<b.toNat then true else if b.toNat<a.toNat then false else dU l m
 |_,_=>false
theorem Nd(a b:UInt8)(l m:List UInt8)(h:a.toNat<b.toNat):dU (a::l) (b::m)=true:=by rw[dU,if_pos h]
theorem Nh(a b:UInt8)(l m:List UInt8)(h:b.toNat<a.toNat):dU (a::l) (b::m)=false:=by rw[dU,if_neg (by omega),if_pos h]
theorem Cu(a b:UInt8)(l m:List UInt8)(h:a.toNat=b.toNat):dU (a::l) (b::m)=dU l m:=by rw[dU,if_neg (by omega),if_neg (by omega)]
theorem Bj(l:List UInt8)(k:Nat)(h:k<l.length):l.drop k=l.getD k 0::l.drop (k+1):=by
 rw[acF h,abV,abS h];rfl
def NP(w:World)(a b:List UInt8)(i:Value)(wr:World):Prop:=
 ∃k:Nat,i=.int .i64 (k:Int)/\k<=32/\dU a b=dU (a.drop k) (b.drop k)/\ak aO w wr
theorem An{w:World}{g:Nat}{l:List UInt8}{t:TypeId}(h:w.heap[g]?=some (.cells (an l).toArray t (0,0)))(k:Nat)(hk:k<l.length):w.cell? ⟨g,k,none⟩=some (.int .u8 ((l.getD k 0).toNat:Int)):=by
 rw[bm h,<-acr];simp only[an,acE];rw[abV,abS hk];rfl
set_option maxRecDepth 100000 in
set_option maxHeartbeats 1000000 in
theorem Li(a b:List UInt8)(w:World)(ha:a.length=32)(hb:b.length=32):Calls Tryz.prog 29 #[.agg (an a).toArray,.agg (an b).toArray] w fun e w'=>e=.returned (.bool (dU a b))/\ak aO w w':=by
 have h1:((w.alloc (.cells (an a).toArray 24)).alloc (.cells (an b).toArray 24)).heap[w.heap.size]?=some (.cells (an a).toArray 24 (0,0)):=eE;have h2:((w.alloc (.cells (an a).toArray 24)).alloc (.cells (an b).toArray 24)).heap[w.heap.size+1]?=some (.cells (an b).toArray 24 (0,0)):=dV;obtain⟨w2,hw2⟩:∃w2,w2=(w.alloc (.cells (an a).toArray 24)).alloc (.cells (an b).toArray 24):=⟨_,rfl⟩;rw[<-hw2]at h1 h2;have k2:ak aO w w2:=by rw[hw2];exact((ak.refl _ _).alloc _).alloc _
 have HW2:=Lib.hid hw2;have H1:=Lib.hid h1;have H2:=Lib.hid h2;have K2:=Lib.hid k2;have HA:=Lib.hid ha;have HB:=Lib.hid hb;clear hw2 h1 h2 k2 ha hb
 go_enter Tryz.func29,Tryz.ntmps29
 go_wp2_with fail
 rw[<-HW2.out]
 go_loopw [5] (NP w2 a b) (fun i _=>32-(intOf i).toNat)
 case atStart=>exact⟨0,rfl,by omega,rfl,ak.refl _ _⟩
 obtain⟨k,rfl,hk,hl,hkr⟩:=hrel;by_cases hlt:k<32
 ·have hca:=An (hkr.heap H1.out (fun e=>e)) k (by rw[HA.out];exact hlt);have hcb:=An (hkr.heap H2.out (fun e=>e)) k (by rw[HB.out];exact hlt);rw[Bj a k (by rw[HA.out];exact hlt),Bj b k (by rw[HB.out];exact hlt)]at hl;obtain⟨x,hx⟩:∃x,x=a.getD k 0:=⟨_,rfl⟩;obtain⟨y,hy⟩:∃x,x=b.getD k 0:=⟨_,rfl⟩;rw[<-hx]at hca hl;rw[<-hy]at hcb hl;have hk0:(0:Int)<=(k:Int):=by omega
  have hk1:(k:Int)<32:=by omega
  have HKR:=Lib.hid hkr;clear hx hy hkr;rcases adf x.toNat y.toNat with hc|hc|hc
  ·rw[Nd x y _ _ hc]at hl;have c1:¬x.toNat=y.toNat:=by omega
   have HL:=Lib.hid hl;clear hl
   go_wp2_with fail
   apply iC
   ·go_region
    all_goals exact⟨rfl,rfl⟩
   go_wp2_with fail
   apply iC
   ·go_region
    all_goals exact⟨rfl,rfl⟩
   go_wp2_with fail
   go_ret
   exact⟨by rw[HL.out];rfl,(K2.out.trans HKR.out).drew.drew⟩
  ·rw[Cu x y _ _ hc]at hl;have HL:=Lib.hid hl;clear hl
   go_wp2_with fail
   apply iC
   ·go_region
    all_goals exact⟨rfl,rfl⟩
   go_wp2_with fail
   go_roundw
   case rel=>exact⟨k+1,by simp,hlt,HL.out,HKR.out.drew⟩
   case measure=>simp[intOf];omega
  rw[Nh x y _ _ hc]at hl;have c1:¬x.toNat=y.toNat:=by omega
  have c2:¬x.toNat<y.toNat:=by omega
  have c3:y.toNat<=x.toNat:=by omega
  have HL:=Lib.hid hl;clear hl
  go_wp2_with fail
  apply iC
  ·go_region
   all_goals exact⟨rfl,rfl⟩
  go_wp2_with fail
  apply iC
  ·go_region
   all_goals exact⟨rfl,rfl⟩
  go_wp2_with fail
  go_ret
  exact⟨by rw[HL.out];rfl,(K2.out.trans HKR.out).drew.drew⟩
 obtain rfl:k=32:=by omega
 have HL:=Lib.hid hl;clear hl;have hk1:¬((32:Nat):Int)<32:=by omega
 go_wp2_with fail
 go_ret
 refine⟨?_,K2.out.trans hkr⟩;rw[HL.out,acu (by rw[HA.out];exact Nat.le_refl _)];rfl
end Go.Proofs.YthlkgmdkabelpaaGreat
