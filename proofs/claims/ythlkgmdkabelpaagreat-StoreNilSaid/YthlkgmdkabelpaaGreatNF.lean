/-
  Packed by program (tools/pack.py) out of the texts U0 U01 F41 F42 U1 U2 U3. No condition.
-/
import Derived.Test.YthlkgmdkabelpaaGreatND
import Derived.Test.YthlkgmdkabelpaaGreatNE
set_option linter.all false
open Nat(reduceAdd reduceMul reduceSub)
namespace Go.Proofs.YthlkgmdkabelpaaGreat.X
open Go Go.RowKit
theorem mixed:Tryz.prog.follows .mixedOrders=true:=by kernel_rfl
theorem SA:sz Tryz.prog 3=some 1:=by kernel_rfl
theorem Mk:cS Tryz.prog 3=some false:=by kernel_rfl
theorem Wl:bE Tryz.prog 3=some (.int .i64 0):=by kernel_rfl
theorem Wo:Tryz.prog.info? 3=some Tryz.t3:=by kernel_rfl
theorem Zf:sz Tryz.prog 4=some 1:=by kernel_rfl
theorem Yg:cS Tryz.prog 4=some false:=by kernel_rfl
theorem WS:bE Tryz.prog 4=some (.bool false):=by kernel_rfl
theorem VO:Tryz.prog.info? 4=some Tryz.t4:=by kernel_rfl
theorem Y7:sz Tryz.prog 5=some 1:=by kernel_rfl
theorem X0:cS Tryz.prog 5=some false:=by kernel_rfl
theorem VQ:bE Tryz.prog 5=some (.int .u8 0):=by kernel_rfl
theorem WX:Tryz.prog.info? 5=some Tryz.t5:=by kernel_rfl
theorem Zq:sz Tryz.prog 9=some 1:=by kernel_rfl
theorem X1:cS Tryz.prog 9=some false:=by kernel_rfl
theorem WZ:bE Tryz.prog 9=some (.string (str [])):=by kernel_rfl
theorem VY:Tryz.prog.info? 9=some Tryz.t9:=by kernel_rfl
theorem Yi:sz Tryz.prog 92=some 1:=by kernel_rfl
theorem Wk:cS Tryz.prog 92=some false:=by kernel_rfl
theorem Sa:bE Tryz.prog 92=some (.nilIface):=by kernel_rfl
theorem Rl:Tryz.prog.info? 92=some Tryz.t92:=by kernel_rfl
theorem YF:sz Tryz.prog 20=some 1:=by kernel_rfl
theorem Wf:cS Tryz.prog 20=some false:=by kernel_rfl
theorem Ui:bE Tryz.prog 20=some (.nilIface):=by kernel_rfl
theorem UY:Tryz.prog.info? 20=some Tryz.t20:=by kernel_rfl
theorem YI:sz Tryz.prog 22=some 1:=by kernel_rfl
theorem Vl:cS Tryz.prog 22=some false:=by kernel_rfl
theorem Rs:bE Tryz.prog 22=some (.slice none 0 0):=by kernel_rfl
theorem RH:Tryz.prog.info? 22=some Tryz.t22:=by kernel_rfl
theorem Yl:sz Tryz.prog 80=some 1:=by kernel_rfl
theorem WE:cS Tryz.prog 80=some false:=by kernel_rfl
theorem Sc:bE Tryz.prog 80=some (.slice none 0 0):=by kernel_rfl
theorem SW:Tryz.prog.info? 80=some Tryz.t80:=by kernel_rfl
theorem Mh:sz Tryz.prog 35=some 1:=by kernel_rfl
theorem N8:cS Tryz.prog 35=some false:=by kernel_rfl
theorem R6:bE Tryz.prog 35=some (.slice none 0 0):=by kernel_rfl
theorem Uk:Tryz.prog.info? 35=some Tryz.t35:=by kernel_rfl
theorem YQ:sz Tryz.prog 23=some 32:=by kernel_rfl
theorem VF:cS Tryz.prog 23=some true:=by kernel_rfl
theorem UV:bE Tryz.prog 23=some (.agg #[.int .u8 0,.int .u8 0,.int .u8 0,.int .u8 0,.int .u8 0,.int .u8 0,.int .u8 0,.int .u8 0,.int .u8 0,.int .u8 0,.int .u8 0,.int .u8 0,.int .u8 0,.int .u8 0,.int .u8 0,.int .u8 0,.int .u8 0,.int .u8 0,.int .u8 0,.int .u8 0,.int .u8 0,.int .u8 0,.int .u8 0,.int .u8 0,.int .u8 0,.int .u8 0,.int .u8 0,.int .u8 0,.int .u8 0,.int .u8 0,.int .u8 0,.int .u8 0]):=by kernel_rfl
theorem Tu:Tryz.prog.info? 23=some Tryz.t23:=by kernel_rfl
theorem Yx:sz Tryz.prog 24=some 32:=by kernel_rfl
theorem V7:cS Tryz.prog 24=some true:=by kernel_rfl
theorem UJ:bE Tryz.prog 24=some (.agg #[.int .u8 0,.int .u8 0,.int .u8 0,.int .u8 0,.int .u8 0,.int .u8 0,.int .u8 0,.int .u8 0,.int .u8 0,.int .u8 0,.int .u8 0,.int .u8 0,.int .u8 0,.int .u8 0,.int .u8 0,.int .u8 0,.int .u8 0,.int .u8 0,.int .u8 0,.int .u8 0,.int .u8 0,.int .u8 0,.int .u8 0,.int .u8 0,.int .u8 0,.int .u8 0,.int .u8 0,.int .u8 0,.int .u8 0,.int .u8 0,.int .u8 0,.int .u8 0]):=by kernel_rfl
theorem Ul:Tryz.prog.info? 24=some Tryz.t24:=by kernel_rfl
theorem XP:sz Tryz.prog 48=some 1:=by kernel_rfl
theorem U8:cS Tryz.prog 48=some false:=by kernel_rfl
theorem Tp:bE Tryz.prog 48=some (.slice none 0 0):=by kernel_rfl
theorem UE:Tryz.prog.info? 48=some Tryz.t48:=by kernel_rfl
theorem Yc:sz Tryz.prog 65=some 1:=by kernel_rfl
theorem VS:cS Tryz.prog 65=some true:=by kernel_rfl
theorem Um:bE Tryz.prog 65=some (.agg #[.map none]):=by kernel_rfl
theorem Sv:Tryz.prog.info? 65=some Tryz.t65:=by kernel_rfl
theorem Xy:sz Tryz.prog 26=some 1:=by kernel_rfl
theorem VV:cS Tryz.prog 26=some false:=by kernel_rfl
theorem Rg:bE Tryz.prog 26=some (.pointer none):=by kernel_rfl
theorem R0:Tryz.prog.info? 26=some Tryz.t26:=by kernel_rfl
theorem Yz:sz Tryz.prog 63=some 1:=by kernel_rfl
theorem WJ:cS Tryz.prog 63=some false:=by kernel_rfl
theorem Tn:bE Tryz.prog 63=some (.map none):=by kernel_rfl
theorem RQ:Tryz.prog.info? 63=some Tryz.t63:=by kernel_rfl
theorem Yo:sz Tryz.prog 69=some 1:=by kernel_rfl
theorem WC:cS Tryz.prog 69=some true:=by kernel_rfl
theorem Rk:bE Tryz.prog 69=some (.agg #[.slice none 0 0]):=by kernel_rfl
theorem RW:Tryz.prog.info? 69=some Tryz.t69:=by kernel_rfl
theorem Ya:sz Tryz.prog 28=some 1:=by kernel_rfl
theorem VJ:cS Tryz.prog 28=some false:=by kernel_rfl
theorem UL:bE Tryz.prog 28=some (.pointer none):=by kernel_rfl
theorem To:Tryz.prog.info? 28=some Tryz.t28:=by kernel_rfl
theorem XL:sz Tryz.prog 72=some 33:=by kernel_rfl
theorem Vw:cS Tryz.prog 72=some true:=by kernel_rfl
theorem Rb:bE Tryz.prog 72=some (.agg #[.int .u8 0,.int .u8 0,.int .u8 0,.int .u8 0,.int .u8 0,.int .u8 0,.int .u8 0,.int .u8 0,.int .u8 0,.int .u8 0,.int .u8 0,.int .u8 0,.int .u8 0,.int .u8 0,.int .u8 0,.int .u8 0,.int .u8 0,.int .u8 0,.int .u8 0,.int .u8 0,.int .u8 0,.int .u8 0,.int .u8 0,.int .u8 0,.int .u8 0,.int .u8 0,.int .u8 0,.int .u8 0,.int .u8 0,.int .u8 0,.int .u8 0,.int .u8 0,.string (str [])]):=by kernel_rfl
theorem Tf:Tryz.prog.info? 72=some Tryz.t72:=by kernel_rfl
theorem X4:sz Tryz.prog 67=some 1:=by kernel_rfl
theorem We:cS Tryz.prog 67=some false:=by kernel_rfl
theorem T4:bE Tryz.prog 67=some (.slice none 0 0):=by kernel_rfl
theorem TQ:Tryz.prog.info? 67=some Tryz.t67:=by kernel_rfl
theorem Yv:sz Tryz.prog 82=some 2:=by kernel_rfl
theorem Xb:cS Tryz.prog 82=some true:=by kernel_rfl
theorem RR:bE Tryz.prog 82=some (.agg #[.pointer none,.slice none 0 0]):=by kernel_rfl
theorem Tb:Tryz.prog.info? 82=some Tryz.t82:=by kernel_rfl
theorem XB:sz Tryz.prog 79=some 1:=by kernel_rfl
theorem Ve:cS Tryz.prog 79=some false:=by kernel_rfl
theorem U5:bE Tryz.prog 79=some (.pointer none):=by kernel_rfl
theorem U0:Tryz.prog.info? 79=some Tryz.t79:=by kernel_rfl
theorem YM:sz Tryz.prog 43=some 1:=by kernel_rfl
theorem Wy:cS Tryz.prog 43=some false:=by kernel_rfl
theorem Uj:bE Tryz.prog 43=some (.int .i64 0):=by kernel_rfl
theorem TN:Tryz.prog.info? 43=some Tryz.t43:=by kernel_rfl
theorem V3:sz Tryz.prog 113=some 1:=by kernel_rfl
theorem SH:cS Tryz.prog 113=some false:=by kernel_rfl
theorem Pa:bE Tryz.prog 113=some (.nilFunc):=by kernel_rfl
theorem QL:Tryz.prog.info? 113=some Tryz.t113:=by kernel_rfl
theorem Vt:sz Tryz.prog 116=some 1:=by kernel_rfl
theorem Tx:cS Tryz.prog 116=some false:=by kernel_rfl
theorem QU:bE Tryz.prog 116=some (.nilFunc):=by kernel_rfl
theorem Qj:Tryz.prog.info? 116=some Tryz.t116:=by kernel_rfl
theorem Vx:sz Tryz.prog 168=some 1:=by kernel_rfl
theorem Sz:cS Tryz.prog 168=some false:=by kernel_rfl
theorem Qs:bE Tryz.prog 168=some (.nilFunc):=by kernel_rfl
theorem PH:Tryz.prog.info? 168=some Tryz.t168:=by kernel_rfl
theorem Gd:sz Tryz.prog 58=some 3:=by kernel_rfl
theorem Oe:cS Tryz.prog 58=some true:=by kernel_rfl
theorem SX:bE Tryz.prog 58=some (.agg #[.int .i64 0,.int .i64 0,.slice none 0 0]):=by kernel_rfl
theorem U4:Tryz.prog.info? 58=some Tryz.t58:=by kernel_rfl
theorem yY:sz Tryz.prog 60=some 2:=by kernel_rfl
theorem GZ:cS Tryz.prog 60=some true:=by kernel_rfl
theorem Sp:bE Tryz.prog 60=some (.agg #[.int .i64 0,.int .i64 0]):=by kernel_rfl
theorem SQ:Tryz.prog.info? 60=some Tryz.t60:=by kernel_rfl
theorem XG:sz Tryz.prog 40=some 1:=by kernel_rfl
theorem Vu:cS Tryz.prog 40=some true:=by kernel_rfl
theorem Rp:bE Tryz.prog 40=some (.agg #[.slice none 0 0]):=by kernel_rfl
theorem SJ:Tryz.prog.info? 40=some Tryz.t40:=by kernel_rfl
theorem Xz:sz Tryz.prog 38=some 1:=by kernel_rfl
theorem Vk:cS Tryz.prog 38=some false:=by kernel_rfl
theorem Ro:bE Tryz.prog 38=some (.slice none 0 0):=by kernel_rfl
theorem TS:Tryz.prog.info? 38=some Tryz.t38:=by kernel_rfl
theorem X5:sz Tryz.prog 56=some 1:=by kernel_rfl
theorem V2:cS Tryz.prog 56=some false:=by kernel_rfl
theorem RM:bE Tryz.prog 56=some (.slice none 0 0):=by kernel_rfl
theorem UZ:Tryz.prog.info? 56=some Tryz.t56:=by kernel_rfl
theorem XX:sz Tryz.prog 37=some 1:=by kernel_rfl
theorem U7:cS Tryz.prog 37=some false:=by kernel_rfl
theorem U1:bE Tryz.prog 37=some (.slice none 0 0):=by kernel_rfl
theorem Uy:Tryz.prog.info? 37=some Tryz.t37:=by kernel_rfl
theorem W8:sz Tryz.prog 176=some 1:=by kernel_rfl
theorem Tv:cS Tryz.prog 176=some false:=by kernel_rfl
theorem Qz:bE Tryz.prog 176=some (.map none):=by kernel_rfl
theorem Pq:Tryz.prog.info? 176=some Tryz.t176:=by kernel_rfl
theorem WQ:sz Tryz.prog 180=some 1:=by kernel_rfl
theorem UF:cS Tryz.prog 180=some false:=by kernel_rfl
theorem PI:bE Tryz.prog 180=some (.map none):=by kernel_rfl
theorem QJ:Tryz.prog.info? 180=some Tryz.t180:=by kernel_rfl
theorem WO:sz Tryz.prog 181=some 1:=by kernel_rfl
theorem T7:cS Tryz.prog 181=some false:=by kernel_rfl
theorem PA:bE Tryz.prog 181=some (.map none):=by kernel_rfl
theorem Px:Tryz.prog.info? 181=some Tryz.t181:=by kernel_rfl
theorem Wc:sz Tryz.prog 182=some 1:=by kernel_rfl
theorem TW:cS Tryz.prog 182=some false:=by kernel_rfl
theorem O8:bE Tryz.prog 182=some (.map none):=by kernel_rfl
theorem Q0:Tryz.prog.info? 182=some Tryz.t182:=by kernel_rfl
theorem Yf:sz Tryz.prog 76=some 1:=by kernel_rfl
theorem VE:cS Tryz.prog 76=some false:=by kernel_rfl
theorem Uw:bE Tryz.prog 76=some (.map none):=by kernel_rfl
theorem Rx:Tryz.prog.info? 76=some Tryz.t76:=by kernel_rfl
theorem VL:sz Tryz.prog 178=some 2:=by kernel_rfl
theorem Rv:cS Tryz.prog 178=some true:=by kernel_rfl
theorem QN:bE Tryz.prog 178=some (.agg #[.map none,.slice none 0 0]):=by kernel_rfl
theorem P5:Tryz.prog.info? 178=some Tryz.t178:=by kernel_rfl
theorem VG:sz Tryz.prog 135=some 1:=by kernel_rfl
theorem TA:cS Tryz.prog 135=some false:=by kernel_rfl
theorem ON:bE Tryz.prog 135=some (.pointer none):=by kernel_rfl
theorem Qw:Tryz.prog.info? 135=some Tryz.t135:=by kernel_rfl
theorem Yj:sz Tryz.prog 84=some 2:=by kernel_rfl
theorem Vq:cS Tryz.prog 84=some true:=by kernel_rfl
theorem Uc:bE Tryz.prog 84=some (.agg #[.pointer none,.slice none 0 0]):=by kernel_rfl
theorem Sd:Tryz.prog.info? 84=some Tryz.t84:=by kernel_rfl
theorem X2:sz Tryz.prog 78=some 1:=by kernel_rfl
theorem VC:cS Tryz.prog 78=some false:=by kernel_rfl
theorem Ti:bE Tryz.prog 78=some (.pointer none):=by kernel_rfl
theorem R9:Tryz.prog.info? 78=some Tryz.t78:=by kernel_rfl
theorem VB:sz Tryz.prog 109=some 33:=by kernel_rfl
theorem UQ:cS Tryz.prog 109=some true:=by kernel_rfl
theorem PF:bE Tryz.prog 109=some (.agg #[.int .i64 0,.int .u8 0,.int .u8 0,.int .u8 0,.int .u8 0,.int .u8 0,.int .u8 0,.int .u8 0,.int .u8 0,.int .u8 0,.int .u8 0,.int .u8 0,.int .u8 0,.int .u8 0,.int .u8 0,.int .u8 0,.int .u8 0,.int .u8 0,.int .u8 0,.int .u8 0,.int .u8 0,.int .u8 0,.int .u8 0,.int .u8 0,.int .u8 0,.int .u8 0,.int .u8 0,.int .u8 0,.int .u8 0,.int .u8 0,.int .u8 0,.int .u8 0,.int .u8 0]):=by kernel_rfl
theorem QM:Tryz.prog.info? 109=some Tryz.t109:=by kernel_rfl
theorem U9:sz Tryz.prog 106=some 1:=by kernel_rfl
theorem SK:cS Tryz.prog 106=some false:=by kernel_rfl
theorem PN:bE Tryz.prog 106=some (.slice none 0 0):=by kernel_rfl
theorem PV:Tryz.prog.info? 106=some Tryz.t106:=by kernel_rfl
theorem WA:sz Tryz.prog 165=some 1:=by kernel_rfl
theorem Sw:cS Tryz.prog 165=some true:=by kernel_rfl
theorem P4:bE Tryz.prog 165=some (.agg #[.string (str [])]):=by kernel_rfl
theorem OO:Tryz.prog.info? 165=some Tryz.t165:=by kernel_rfl
theorem VA:sz Tryz.prog 160=some 1:=by kernel_rfl
theorem UM:cS Tryz.prog 160=some false:=by kernel_rfl
theorem Qn:bE Tryz.prog 160=some (.pointer none):=by kernel_rfl
theorem P6:Tryz.prog.info? 160=some Tryz.t160:=by kernel_rfl
theorem VT:sz Tryz.prog 159=some 1:=by kernel_rfl
theorem TX:cS Tryz.prog 159=some true:=by kernel_rfl
theorem PM:bE Tryz.prog 159=some (.agg #[.int .i64 0]):=by kernel_rfl
theorem QK:Tryz.prog.info? 159=some Tryz.t159:=by kernel_rfl
theorem V5:sz Tryz.prog 123=some 1:=by kernel_rfl
theorem Rj:cS Tryz.prog 123=some false:=by kernel_rfl
theorem P9:bE Tryz.prog 123=some (.int .u64 0):=by kernel_rfl
theorem Ql:Tryz.prog.info? 123=some Tryz.t123:=by kernel_rfl
theorem XN:sz Tryz.prog 54=some 2:=by kernel_rfl
theorem Vj:cS Tryz.prog 54=some true:=by kernel_rfl
theorem TC:bE Tryz.prog 54=some (.agg #[.int .i64 0,.int .i64 0]):=by kernel_rfl
theorem US:Tryz.prog.info? 54=some Tryz.t54:=by kernel_rfl
theorem XA:sz Tryz.prog 36=some 2:=by kernel_rfl
theorem VU:cS Tryz.prog 36=some true:=by kernel_rfl
theorem Sm:bE Tryz.prog 36=some (.agg #[.int .u8 0,.int .u8 0]):=by kernel_rfl
theorem Tq:Tryz.prog.info? 36=some Tryz.t36:=by kernel_rfl
theorem V0:sz Tryz.prog 103=some 33:=by kernel_rfl
theorem Rr:cS Tryz.prog 103=some true:=by kernel_rfl
theorem Qa:bE Tryz.prog 103=some (.agg #[.int .i64 0,.int .u8 0,.int .u8 0,.int .u8 0,.int .u8 0,.int .u8 0,.int .u8 0,.int .u8 0,.int .u8 0,.int .u8 0,.int .u8 0,.int .u8 0,.int .u8 0,.int .u8 0,.int .u8 0,.int .u8 0,.int .u8 0,.int .u8 0,.int .u8 0,.int .u8 0,.int .u8 0,.int .u8 0,.int .u8 0,.int .u8 0,.int .u8 0,.int .u8 0,.int .u8 0,.int .u8 0,.int .u8 0,.int .u8 0,.int .u8 0,.int .u8 0,.int .u8 0]):=by kernel_rfl
theorem P2:Tryz.prog.info? 103=some Tryz.t103:=by kernel_rfl
theorem Yu:sz Tryz.prog 97=some 1:=by kernel_rfl
theorem VW:cS Tryz.prog 97=some false:=by kernel_rfl
theorem U6:bE Tryz.prog 97=some (.slice none 0 0):=by kernel_rfl
theorem SN:Tryz.prog.info? 97=some Tryz.t97:=by kernel_rfl
theorem Ww:sz Tryz.prog 139=some 1:=by kernel_rfl
theorem Ue:cS Tryz.prog 139=some false:=by kernel_rfl
theorem PL:bE Tryz.prog 139=some (.nilFunc):=by kernel_rfl
theorem OK:Tryz.prog.info? 139=some Tryz.t139:=by kernel_rfl
theorem Vc:sz Tryz.prog 141=some 1:=by kernel_rfl
theorem U3:cS Tryz.prog 141=some false:=by kernel_rfl
theorem OQ:bE Tryz.prog 141=some (.nilFunc):=by kernel_rfl
theorem OJ:Tryz.prog.info? 141=some Tryz.t141:=by kernel_rfl
theorem WP:sz Tryz.prog 185=some 1:=by kernel_rfl
theorem UI:cS Tryz.prog 185=some false:=by kernel_rfl
theorem QV:bE Tryz.prog 185=some (.nilFunc):=by kernel_rfl
theorem Qv:Tryz.prog.info? 185=some Tryz.t185:=by kernel_rfl
theorem VN:sz Tryz.prog 187=some 1:=by kernel_rfl
theorem UB:cS Tryz.prog 187=some false:=by kernel_rfl
theorem O4:bE Tryz.prog 187=some (.nilFunc):=by kernel_rfl
theorem Oq:Tryz.prog.info? 187=some Tryz.t187:=by kernel_rfl
theorem YJ:sz Tryz.prog 88=some 1:=by kernel_rfl
theorem Vh:cS Tryz.prog 88=some false:=by kernel_rfl
theorem SV:bE Tryz.prog 88=some (.nilFunc):=by kernel_rfl
theorem Se:Tryz.prog.info? 88=some Tryz.t88:=by kernel_rfl
theorem Vn:sz Tryz.prog 144=some 1:=by kernel_rfl
theorem Tj:cS Tryz.prog 144=some false:=by kernel_rfl
theorem Ph:bE Tryz.prog 144=some (.nilFunc):=by kernel_rfl
theorem Pg:Tryz.prog.info? 144=some Tryz.t144:=by kernel_rfl
theorem WD:sz Tryz.prog 183=some 1:=by kernel_rfl
theorem Tc:cS Tryz.prog 183=some false:=by kernel_rfl
theorem Pb:bE Tryz.prog 183=some (.nilFunc):=by kernel_rfl
theorem QY:Tryz.prog.info? 183=some Tryz.t183:=by kernel_rfl
theorem WW:sz Tryz.prog 105=some 1:=by kernel_rfl
theorem ST:cS Tryz.prog 105=some false:=by kernel_rfl
theorem PD:bE Tryz.prog 105=some (.pointer none):=by kernel_rfl
theorem QP:Tryz.prog.info? 105=some Tryz.t105:=by kernel_rfl
noncomputable def FJ:HF:=yL (kF Tryz.prog 82)
def rm:HF:=yL ya
theorem Nz:bD Tryz.prog 28 rm:=⟨enters_of (by kernel_rfl),fun args W e W' h=>by obtain⟨v,rfl,q⟩:=lP h;exact Cw q,
 fun args W e W' h ρ args' w m hfr hH hA=>by obtain⟨v,rfl,q⟩:=lP h;exact A1 (fun s w hs=>Po s w hs) q hH hA⟩
theorem OT(s:ByteArray)(w:World)(hs:s.size<=140737488351232):Calls Tryz.prog 27 #[.string s] w fun e w'=>e=.returned (.agg (aF (bW s.data.toList)).toArray)/\aK bY w w':=by
 have:=LJ s.data.toList w (by have:=pg s;omega);rw[show str s.data.toList=s from rfl]at this;exact this
theorem Iw:bD Tryz.prog 27 rm:=⟨enters_of (by kernel_rfl),fun args W e W' h=>by obtain⟨v,rfl,q⟩:=lP h;exact Cw q,
 fun args W e W' h ρ args' w m hfr hH hA=>by obtain⟨v,rfl,q⟩:=lP h;exact A1 OT q hH hA⟩
theorem Rm:bD Tryz.prog 73 FJ:=⟨enters_of (by kernel_rfl),fun args W e W' h=>by obtain⟨v,rfl,q⟩:=lP h;exact zi q,
 fun args W e W' h ρ args' w m hfr hH hA=>by obtain⟨v,rfl,q⟩:=lP h;exact yM TP Q1 q hH hA⟩
theorem av:dv Tryz.prog (cE [] []):=⟨mixed,bU .nil .nil⟩
theorem gB:rx Tryz.prog 24 5:=⟨Tryz.underlying24,by kernel_rfl,Tryz.underlying5,by kernel_rfl⟩
theorem uP{l:List UInt8}{W:XW}(h:l.length<=140737488351232):rm [.string (str l)] W=some (.ret (.agg (aF (bW l)).toArray),W):=by
 have e:ya [.string (str l)] W=some (.agg (aF (bW l)).toArray,W):=by show(bif Nat.ble (str l).size 140737488351232 then GD (str l).data.toList (FL W)else none)=_;rw[fu,wR h,cond_true,y8];rfl
 unfold rm yL;rw[e]
theorem FQ{k':IntKind}{a:Int}{W:XW}:jT Tryz.prog W 3 3 (some (.int k' a)) (some (.int .i64)) (some (.int .i64))=some (.val (some (.int .i64 (IntKind.wrap .i64 a)))):=mJ Tryz.underlying3 Tryz.underlying3
theorem CR{k':IntKind}{a:Int}{W:XW}:jT Tryz.prog W 3 5 (some (.int k' a)) (some (.int .i64)) (some (.int .u8))=some (.val (some (.int .u8 (IntKind.wrap .u8 a)))):=mJ Tryz.underlying3 Tryz.underlying5
theorem CE{k':IntKind}{a:Int}{W:XW}:jT Tryz.prog W 5 3 (some (.int k' a)) (some (.int .u8)) (some (.int .i64))=some (.val (some (.int .i64 (IntKind.wrap .i64 a)))):=mJ Tryz.underlying5 Tryz.underlying3
theorem x6{k':IntKind}{a:Int}{W:XW}:jT Tryz.prog W 5 5 (some (.int k' a)) (some (.int .u8)) (some (.int .u8))=some (.val (some (.int .u8 (IntKind.wrap .u8 a)))):=mJ Tryz.underlying5 Tryz.underlying5
theorem D9{k':IntKind}{a:Int}{W:XW}:jT Tryz.prog W 3 123 (some (.int k' a)) (some (.int .i64)) (some (.int .u64))=some (.val (some (.int .u64 (IntKind.wrap .u64 a)))):=mJ Tryz.underlying3 Tryz.underlying123
theorem D3{k':IntKind}{a:Int}{W:XW}:jT Tryz.prog W 123 3 (some (.int k' a)) (some (.int .u64)) (some (.int .i64))=some (.val (some (.int .i64 (IntKind.wrap .i64 a)))):=mJ Tryz.underlying123 Tryz.underlying3
attribute [go_sem] ev.eq_3 ev.eq_4 evs.eq_1 evs.eq_2 bk.eq_1 bk.eq_2 fo.eq_1 fo.eq_2 tV.eq_1 ir.eq_1 evP.eq_1 evP.eq_2 Gi.eq_1 Gi.eq_2 val.eq_1 F6.eq_1 y6.eq_1 xf.eq_1 cG.eq_1 cG.eq_2 fg.eq_1 fg.eq_2 fg.eq_3 fg.eq_4 lm.eq_1 lm.eq_2 lm.eq_3 wg.eq_1 wg.eq_2 xR.eq_1 jM.eq_1 jM.eq_2 mr.eq_1 GP.eq_1 BM.eq_1 BM.eq_2 DF.eq_1 DF.eq_2 FY.eq_1 BL.eq_1 BL.eq_2 FT.eq_1 ov.eq_1 xQ.eq_1 NL.eq_1 E2.eq_1 JH.eq_1 NI.eq_1 NO.eq_1 fy.eq_1 fy.eq_3 fy.eq_4 fy.eq_5 fy.eq_7 kl.eq_1 kl.eq_2 qu.eq_1 qu.eq_2 dE.eq_1 dE.eq_2 xU.eq_1 xU.eq_2 fm.eq_1 fm.eq_2 fm.eq_4 fm.eq_5 fm.eq_7 Hu.eq_1 A7.eq_1 A7.eq_2 FV.eq_1 Cl.eq_1 EC.eq_1 EC.eq_2 yQ.eq_1 yQ.eq_2 za.eq_1 vN.eq_1 vN.eq_2 mt.eq_1 mt.eq_3 gU.eq_1 gU.eq_2 rE.eq_1 rE.eq_2 l8.eq_1 l8.eq_2 fv.eq_1 fv.eq_2 fv.eq_3 fv.eq_4 fv.eq_5 fv.eq_6 fv.eq_7 fv.eq_8 fv.eq_9 DB.eq_1 DB.eq_2 tR.eq_1 tR.eq_2 DG.eq_1 DG.eq_2 Ba.eq_1 Ba.eq_2 Gn.eq_1 yn.eq_1 EO.eq_1 EO.eq_2 EP.eq_1 zl.eq_1 zl.eq_2 Be.eq_1 Be.eq_2 Aj.eq_2 Hn.eq_1 Hn.eq_2 xo.eq_1 xo.eq_2 oG.eq_1 rY.eq_1 rY.eq_2 jT.eq_1 jT.eq_2 Cx.eq_1 wS.eq_1 Ho.eq_1 Mt.eq_1 Bg.eq_1 Bg.eq_2 Gx.eq_1 BG.eq_1 tX.eq_1 tX.eq_2 Lf.eq_1 CA.eq_1 CA.eq_2 Li.eq_1 yF.eq_1 yF.eq_2 uk.eq_1 uk.eq_2 Hf.eq_1 Hf.eq_2 Bi.eq_1 qT.eq_1 qT.eq_2 mD.eq_1 mD.eq_2 dB.eq_1 dB.eq_2 dB.eq_3 dB.eq_4 BS.eq_1 BS.eq_2 wV.eq_1 wV.eq_2 vX.eq_1 vX.eq_2 pr.eq_1 y5.eq_1 y5.eq_2 y5.eq_3 jJ.eq_1 zd.eq_1 wn.eq_1 wn.eq_2 rD.eq_1 rD.eq_2 rD.eq_3 jh.eq_1 we.eq_1 Ha.eq_1 BY.eq_1 GE.eq_1 wL.eq_1 wL.eq_2 Bp.eq_1 Bp.eq_2 tj.eq_1 tj.eq_2 Bu.eq_1 vT.eq_1 Ct.eq_1 ki.eq_1 ki.eq_2 dq.eq_1 dq.eq_2 dq.eq_3 dq.eq_4 dq.eq_5 dq.eq_6 dq.eq_7 dq.eq_8 dq.eq_9 dq.eq_10 dq.eq_11 dq.eq_12 dq.eq_13 dq.eq_14 dq.eq_15 dq.eq_16 dq.eq_17 dq.eq_18 dq.eq_19 dq.eq_20 dq.eq_21 dq.eq_22 dq.eq_23 dq.eq_24 dq.eq_25 dq.eq_26 dq.eq_27 dq.eq_28 dq.eq_29 dq.eq_30 dq.eq_31 dq.eq_32 dq.eq_33 dq.eq_34 dq.eq_35 dq.eq_36 uW.eq_1 uW.eq_3 BB.eq_1 BB.eq_2 tF.eq_1 tF.eq_2 uI.eq_1 fM.eq_1 fM.eq_2 fM.eq_3 kQ.eq_1 kQ.eq_2 og.eq_1 og.eq_2 Fk.eq_1 Fk.eq_2 lT.eq_1 lT.eq_2 lT.eq_3 lT.eq_4 lT.eq_5 lT.eq_6 lT.eq_7 lT.eq_8 py.eq_1 py.eq_2 py.eq_3 pw.eq_1 xZ.eq_1 xZ.eq_2 xZ.eq_3 lV.eq_1 lV.eq_2 bd.eq_1 bd.eq_2 cm.eq_1 aE.eq_1 aE.eq_2 sK.eq_1 sK.eq_2 sK.eq_3 sK.eq_4 yr.eq_1 yr.eq_2 qX.eq_1 qX.eq_2 qX.eq_3 xz.eq_1 xz.eq_2 ry.eq_1 tI.eq_1 tI.eq_2 Gs.eq_1 Gs.eq_2 F0.eq_1 F0.eq_2 kO.eq_1 kO.eq_2 lG.eq_1 lG.eq_2 mw.eq_1 wr.eq_1 rep.eq_1 rep.eq_2 xG.eq_1 Wo Tryz.t3 SA Mk Wl Tryz.underlying3 VO Tryz.t4 Zf Yg WS Tryz.underlying4 WX Tryz.t5 Y7 X0 VQ Tryz.underlying5 VY Tryz.t9 Zq X1 WZ Tryz.underlying9 Rl Tryz.t92 Yi Wk Sa Tryz.underlying92 UY Tryz.t20 YF Wf Ui Tryz.underlying20 RH Tryz.t22 YI Vl Rs Tryz.underlying22 SW Tryz.t80 Yl WE Sc Tryz.underlying80 Uk Tryz.t35 Mh N8 R6 Tryz.underlying35 Tu Tryz.t23 YQ VF UV Tryz.underlying23 Ul Tryz.t24 Yx V7 UJ Tryz.underlying24 UE Tryz.t48 XP U8 Tp Tryz.underlying48 Sv Tryz.t65 Yc VS Um Tryz.underlying65 R0 Tryz.t26 Xy VV Rg Tryz.underlying26 RQ Tryz.t63 Yz WJ Tn Tryz.underlying63 RW Tryz.t69 Yo WC Rk Tryz.underlying69 To Tryz.t28 Ya VJ UL Tryz.underlying28 Tf Tryz.t72 XL Vw Rb Tryz.underlying72 TQ Tryz.t67 X4 We T4 Tryz.underlying67 Tb Tryz.t82 Yv Xb RR Tryz.underlying82 U0 Tryz.t79 XB Ve U5 Tryz.underlying79 TN Tryz.t43 YM Wy Uj Tryz.underlying43 QL Tryz.t113 V3 SH Pa Tryz.underlying113 Qj Tryz.t116 Vt Tx QU Tryz.underlying116 PH Tryz.t168 Vx Sz Qs Tryz.underlying168 U4 Tryz.t58 Gd Oe SX Tryz.underlying58 SQ Tryz.t60 yY GZ Sp Tryz.underlying60 SJ Tryz.t40 XG Vu Rp Tryz.underlying40 TS Tryz.t38 Xz Vk Ro Tryz.underlying38 UZ Tryz.t56 X5 V2 RM Tryz.underlying56 Uy Tryz.t37 XX U7 U1 Tryz.underlying37 Pq Tryz.t176 W8 Tv Qz Tryz.underlying176 QJ Tryz.t180 WQ UF PI Tryz.underlying180 Px Tryz.t181 WO T7 PA Tryz.underlying181 Q0 Tryz.t182 Wc TW O8 Tryz.underlying182 Rx Tryz.t76 Yf VE Uw Tryz.underlying76 P5 Tryz.t178 VL Rv QN Tryz.underlying178 Qw Tryz.t135 VG TA ON Tryz.underlying135 Sd Tryz.t84 Yj Vq Uc Tryz.underlying84 R9 Tryz.t78 X2 VC Ti Tryz.underlying78 QM Tryz.t109 VB UQ PF Tryz.underlying109 PV Tryz.t106 U9 SK PN Tryz.underlying106 OO Tryz.t165 WA Sw P4 Tryz.underlying165 P6 Tryz.t160 VA UM Qn Tryz.underlying160 QK Tryz.t159 VT TX PM Tryz.underlying159 Ql Tryz.t123 V5 Rj P9 Tryz.underlying123 US Tryz.t54 XN Vj TC Tryz.underlying54 Tq Tryz.t36 XA VU Sm Tryz.underlying36 P2 Tryz.t103 V0 Rr Qa Tryz.underlying103 SN Tryz.t97 Yu VW U6 Tryz.underlying97 OK Tryz.t139 Ww Ue PL Tryz.underlying139 OJ Tryz.t141 Vc U3 OQ Tryz.underlying141 Qv Tryz.t185 WP UI QV Tryz.underlying185 Oq Tryz.t187 VN UB O4 Tryz.underlying187 Se Tryz.t88 YJ Vh SV Tryz.underlying88 Pg Tryz.t144 Vn Tj Ph Tryz.underlying144 QY Tryz.t183 WD Tc Pb Tryz.underlying183 QP Tryz.t105 WW ST PD Tryz.underlying105 Qt OB QW QT PR P1 Pm O7 Qy QH SY QC Pz PJ Pr Ps SG R8 RO PG P7 FQ CR CE x6 D9 D3 LV Jz Nt JR Hx Il JW IZ fu HQ El BE As Pn LS zb Ot HW Qc Le Mb Kh Ns TB Uu List.size_toArray IQ Jq Kg Gw GF G6 DS Lz ML Q5 Wg wrap_i64 wrap_u64 wrap_u8 Dy u6 bK List.take_of_length_le List.toList_toArray List.drop_nil Eb wE Xa VH xX.eq_1 Option.bind_some Bool.true_beq Bool.false_beq wR Ob jQ AX NU gk V6 V8 AL AR jK li List.take_length List.drop_zero Vs Vf Vg Wi V9 Wm Wv VM Wt WR SP UO Ug Sr Sn SC Td UR Sq Ut Ub Uq SI T5 Tl TF SM S0 Qm QG P3 Q2 Pu PC QA Pk OF Nv Ly I6 QO LQ Np Oy MH MN Lo LD Na Ur Q3 List.getElem_cons_zero List.getElem_cons_succ kH iZ KJ Jd SS ab aa ag dQ Kz bO di gR bf Yp cE OY Mx Nat.zero_add Nat.add_zero Bool.and_true Bool.true_and Bool.false_and Bool.and_false Bool.not_true Bool.not_false Bool.or_true Bool.true_or Bool.or_false Bool.false_or cond_true cond_false Value.cells List.getElem?_cons_zero List.getElem?_cons_succ List.getElem?_toArray List.length_cons List.length_nil List.all_cons List.all_nil List.drop_succ_cons List.take_succ_cons List.take_zero List.cons_append List.nil_append List.append_nil Nat.zero_mod Nat.sub_self
def ND(W:XW):Option Value->Option (cz×XW)
 |some v=>some (.ret v,W)
 |none=>none
def bu(p:List Value->Option Value):HF:=fun args W=>ND W (p args)
theorem wt{P:Program}{f:FuncId}{p:List Value->Option Value}(he:fi P f)(hb:∀xs v,p xs=some v->dt xs/\dG v)(hl:∀xs v,p xs=some v->aN P f xs (wd [] 0 [] 0) fun e W'=>e=.ret v):bD P f (bu p):=by
 have key:∀args W e W',bu p args W=some (e,W')->∃v,p args=some v/\e=.ret v/\W'=W:=fun args W e W' h=>by
  unfold bu at h;cases hp:p args with
  |none=>rw[hp]at h;cases h
  |some v=>rw[hp]at h;cases h;exact⟨v,rfl,rfl,rfl⟩
 refine⟨he,fun args W e W' h=>?_,fun args W e W' h=>?_⟩
 ·obtain⟨v,_,_,rfl⟩:=key _ _ _ _ h;exact .refl _
 obtain⟨v,hp,rfl,rfl⟩:=key _ _ _ _ h;exact zZ (hb _ _ hp).1 (hl _ _ hp) (fun e' W' hS=>hS) (hb _ _ hp).2
theorem A5{p:List Value->Option Value}{args:List Value}{W:XW}:bu p args W=ND W (p args):=rfl
theorem jB:∀l:List UInt8,dE (aF l)=some l
 |[]=>rfl
 |b::l=>by
  have hb:=b.toNat_lt;show qu b.toNat (dE (aF l))=_;rw[jB l];show(bif Nat.blt b.toNat 256 then some (UInt8.ofNat b.toNat::l)else none)=_;rw[jQ hb];simp
theorem pI{W:XW}{e:TypeId}{c:List Value}{k:Nat}:fm W (jd c k) (some (.slice e))=some (.val (some (.int .i64 (k:Int)))):=by cases k<;>rfl
theorem CH{P:Program}{e:TypeId}{c:List Value}{k i:Nat}{j:IntKind}(h:i<k):dB P (some (.slice e)) (some (jd c k)) (some (.int j ((i:Nat):Int)))=mD c i k (sz P e):=by
 cases k with
 |zero=>omega
 |succ k=>rfl
theorem fB{P:Program}{W:XW}{t:TypeId}{c:List Value}:fo P W t (FP c)=mw P t c 0:=rfl
theorem wP{α:Type}{g:α->List Value}{m:Nat}:∀{l:List α} (hl:∀x∈l,(g x).length=m) {i:Nat} (h:i<l.length),((l.flatMap g).drop (i*m)).take m=g l[i]
 |[],_,i,h=>absurd h (aaN i)
 |a::l,hl,0,h=>by
  rw[Z8,aab,List.drop_zero,aa7 (hl a aaf)];rfl
 |a::l,hl,i+1,h=>by
  have ha:=hl a aaf;rw[Z8,aaO,aau,<-List.drop_drop,aaS ha];exact wP (fun x hx=>hl x (aal _ hx)) (by rw[List.length_cons]at h;omega)
theorem Is{a b:List Value}{n m:Nat}(h:FZ a n=FZ b m):a=b/\n=m:=by
 unfold FZ at h;injection h with h1 h2 _;injection h1 with h1 _;exact⟨by have:=congrArg Array.toList h2;simpa using this,h1⟩
theorem L9{a b:List Value}{n m:Nat}(h:jd a n=jd b m)(h0:n=0->a=[])(h1:m=0->b=[]):a=b/\n=m:=by
 cases n with
 |zero=>
  cases m with
  |zero=>exact⟨by rw[h0 rfl,h1 rfl],rfl⟩
  |succ m=>cases h
 |succ n=>
  cases m with
  |zero=>cases h
  |succ m=>exact Is h
theorem Hd{P:Program}{kk:Nat}{F:List (Nat×Option Value)}{L L':List (Nat×Option bb)}{n nl:Nat}{lg:List Nat}(t x:Nat){c:List Value}{e:TypeId}{fr:Nat×Nat}{len:Nat}
 (hx:lk L x=some (.cells c e fr)) (hn:x<n) (hn2:n<16383) (ht:t<511) (hF:lk F t=some (.slice (some ⟨x,0,none⟩) len aM)) (hl:len<=aM) (hq:len=0->c=[]) (hL:ai n ((x,none)::L) L') :
 db P kk ⟨aI F,wd L n lg nl,[]⟩ ⟨aI [(t,some (FZ c len))],wd L' n lg nl,[]⟩:=by
 refine mS x (c:=c) (e:=e) (fr:=fr) (by show(wd L n lg nl).get x=_;rw[bO hn (by omega)];exact hx) ?_ (Nat.le_refl _) (fun u v' h=>?_) (fun m o' h=>?_) .nil
 ·show(wd L' n lg nl).get x=none;cases e:(wd L' n lg nl).get x with
  |none=>rfl
  |some o=>
   obtain⟨_,g2⟩:=dV e;obtain⟨_,g3⟩:=hL.mem _ _ (bX g2);rw[ab]at g3;cases g3
 ·have h1:=gS h;by_cases hu:t=u
  ·subst hu;rw[ab]at h1;cases h1;refine⟨_,by show(aI F).get t=_;rw[iZ ht];exact hF,?_⟩;have:=gz (n:=x) (o:=0) (c:=c) (q:=c.length) hl (fun e=>by rw[hq e];rfl);rwa [List.drop_zero,List.take_length]at this
  rw[aa hu]at h1;cases h1
 obtain⟨g1,g2⟩:=dV h;obtain⟨g3,g4⟩:=hL.mem _ _ (bX g2);by_cases hm:x=m
 ·subst hm;rw[ab]at g4;cases g4
 rw[aa hm]at g4;exact⟨o',by show(wd L n lg nl).get m=some o';rw[bO g1 (by omega)];exact g4,fun ρ ρ' i ob ht ho=>ho.mono ⟨ht.2.1,ht.1⟩⟩
abbrev cX:=List (HB×List UInt8)
def eI(l:List UInt8):HB:=⟨bW l,dJ l⟩
def dO(t:List UInt8):Value:=.string (str t)
theorem tA(t:List UInt8):dG (dO t):=aG 8 rfl
theorem EJ{a b:List UInt8}(h:str a=str b):a=b:=by
 have:=congrArg (fun q:ByteArray=>q.data.toList) h;exact this
theorem wc{a b:List UInt8}(h:dO a=dO b):a=b:=by
 unfold dO at h;injection h with h;exact EJ h
theorem Uz{a b:UInt8}(h:bv a=bv b):a=b:=by
 unfold bv at h;injection h with _ h;exact UInt8.toNat_inj.1 (by omega)
theorem Fd{a b:List UInt8}(h:aF a=aF b):a=b:=(List.map_inj_right (fun x y e=>Uz e)).1 h
theorem Fw{a b:HB}(h:eG a=eG b):a=b:=by
 unfold eG at h;injection h with h;have:=congrArg Array.toList h;exact Subtype.ext (Fd (by simpa using this))
theorem BN:∀{l m:cX} {i j:Nat},iM dO l i=iM dO m j->l=m
 |[],[],_,_,_=>rfl
 |[],_::_,_,_,h=>by simp[iM]at h
 |_::_,[],_,_,h=>by simp[iM]at h
 |(a,x)::l,(b,y)::m,i,j,h=>by
  unfold iM at h;injection h with h1 h2;injection h1 with h3 h4 _;have e1:a=b:=Fw h3;have e2:x=y:=wc h4;rw[e1,e2,BN h2]
def Xh:cX->Nat->Value
 |[],_=>.map none
 |_::_,b=>.map (some b)
def aJ(es:cX)(b:Nat):bb:=.cells [Xh es b] 65 (0,0)
def bG:cX->Option bb
 |[]=>none
 |x::l=>some (.map (gl dO (x::l)) (x::l).length)
def Vz:bb->Option Nat
 |.cells [.map (some b)] _ _=>some b
 |_=>none
noncomputable def eN:o9 Tryz.prog cX where
 main es _ b:=aJ es b
 sat:=bG
 hnd:=Vz
 hnd_eq es w b:=by cases es<;>rfl
 inj a a' w b h hs:=by
  cases a<;>cases a'<;>first|rfl|(cases hs;done)|skip
  rename_i x l y m;injection hs with hs;injection hs with hs _;exact BN hs
 free a w b b' h:=by
  cases a
  ·rfl
  cases h
 ren a w w' b b' θ h1 h2:=by
  cases a with
  |nil=>exact bJ (ax (ar 1 rfl) aX)
  |cons x l=>exact bJ (ax (cq (h2 (fun e=>by cases e))) aX)
 bare a o h:=by
  cases a with
  |nil=>cases h
  |cons x l=>cases h;exact z8 tA _ _
def BC(x:HB×List UInt8):List Value:=aF x.1.1++[dO x.2]
def iU(l:cX):List Value:=l.flatMap BC
theorem qL(x:HB×List UInt8):(BC x).length=33:=by
 unfold BC;rw[ZM,bK,x.1.2];rfl
def gK(es:cX)(o:List UInt8):cX:=if(fG (eI o) es).isSome then es else es++[(eI o,o)]
def uD:cX->Md
 |[]=>.mv
 |_::_=>.pl
open Classical in
noncomputable def iN:PP cX:=fun xs es=>if h:∃o:List UInt8,xs=[.string (str o)]/\o.length<=140737488351232 then some (eG (eI (Classical.choose h)),gK es (Classical.choose h),uD es)else none
theorem oo{es:cX}{o:List UInt8}(h:o.length<=140737488351232):iN [.string (str o)] es=some (eG (eI o),gK es o,uD es):=by
 have hx:∃q:List UInt8,[Value.string (str o)]=[.string (str q)]/\q.length<=140737488351232:=⟨o,rfl,h⟩;have e:iN [.string (str o)] es=some (eG (eI (Classical.choose hx)),gK es (Classical.choose hx),uD es):=dif_pos hx;have hq:o=Classical.choose hx:=by have:=(ZQ hx).1;injection this with this _;exact wc this
 rw[e,<-hq]
theorem CB{xs:List Value}{es es':cX}{v:Value}{md:Md}(h:iN xs es=some (v,es',md)):∃o:List UInt8,xs=[.string (str o)]/\o.length<=140737488351232/\v=eG (eI o)/\es'=gK es o/\md=uD es:=by
 unfold iN at h;split at h
 ·rename_i hx;obtain⟨h1,h2⟩:=ZQ hx;cases h;exact⟨_,h1,h2,rfl,rfl,rfl⟩
 cases h
open Classical in
noncomputable def zg:PP cX:=fun xs es=>if h:∃k:HB,xs=[eG k]then some (.tuple #[((fG (Classical.choose h) es).map dO).getD (.string (str [])),.bool (fG (Classical.choose h) es).isSome],es,.rd)else none
theorem PO{es:cX}{k:HB}:zg [eG k] es=some (.tuple #[((fG k es).map dO).getD (.string (str [])),.bool (fG k es).isSome],es,.rd):=by
 have hx:∃q:HB,[eG k]=[eG q]:=⟨k,rfl⟩;have e:zg [eG k] es=some (.tuple #[((fG (Classical.choose hx) es).map dO).getD (.string (str [])),.bool (fG (Classical.choose hx) es).isSome],es,.rd):=dif_pos hx;have hq:k=Classical.choose hx:=by have:=ZQ hx;injection this with this _;exact Fw this
 rw[e,<-hq]
theorem Cj{xs:List Value}{es es':cX}{v:Value}{md:Md}(h:zg xs es=some (v,es',md)):∃k:HB,xs=[eG k]/\v=.tuple #[((fG k es).map dO).getD (.string (str [])),.bool (fG k es).isSome]/\es'=es/\md=.rd:=by
 unfold zg at h;split at h
 ·rename_i hx;have h1:=ZQ hx;cases h;exact⟨_,h1,rfl,rfl,rfl⟩
 cases h
theorem LL{es:cX}{k:HB}:dG (.tuple #[((fG k es).map dO).getD (.string (str [])),.bool (fG k es).isSome]):=
 fp (cs:=[_,_]) (aw (by cases fG k es<;>exact tA _) (aw (aG 1 rfl) aQ))
theorem ap{α:Type}{b t:Nat}{v:Option α}{F F':List (Nat×Option α)}(h:t<b)(hl:lk F t=v)(hs:ai b F F'):ai b F ((t,v)::F'):=by
 cases v with
 |none=>exact hs
 |some v=>exact⟨⟨h,hl⟩,hs⟩
theorem mA{P:Program}{t e:TypeId}{x y:Operand}{b o:Nat}(hu:P.underlying t=some (.pointer e)):eJ P .eql t x y (some (.pointer (some ⟨b,o,none⟩))) (some (.pointer none))=some (.val (some (.bool false))):=by
 show Be .eql (sU P t (.pointer (some ⟨b,o,none⟩)) (.pointer none))=_;unfold sU;rw[hu];rfl
theorem HE{P:Program}{t k e:TypeId}{x y:Operand}{b:Nat}(hu:P.underlying t=some (.map k e)):eJ P .eql t x y (some (.map (some b))) (some (.map none))=some (.val (some (.bool false))):=by
 show Be .eql (sU P t (.map (some b)) (.map none))=_;unfold sU;rw[hu];rfl
theorem LG{n:Nat}:eJ Tryz.prog .eql 63 (.tmp n) (.const (.map none)) (some (.map none)) (some (.map none))=some (.val (some (.bool true))):=by kernel_rfl
theorem zt{l:cX}(h:l≠[]){b:Nat}:aJ l b=.cells [.map (some b)] 65 (0,0):=by
 cases l with
 |nil=>exact absurd rfl h
 |cons x l=>rfl
theorem rB{l:cX}(h:l≠[]):bG l=some (.map (gl dO l) l.length):=by
 cases l with
 |nil=>exact absurd rfl h
 |cons x l=>rfl
theorem xS{k:HB}{l:cX}(h:fG k l=none):ll k l 0=none:=by
 have:=tU k l 0;rw[h]at this;cases e:ll k l 0 with
 |none=>rfl
 |some x=>rw[e]at this;cases this
theorem wW{k:HB}{l:cX}{t:List UInt8}(h:fG k l=some t):∃i,ll k l 0=some (i,t):=by
 have:=tU k l 0;rw[h]at this;cases e:ll k l 0 with
 |none=>rw[e]at this;cases this
 |some x=>rw[e]at this;obtain⟨i,u⟩:=x;cases this;exact⟨i,rfl⟩
theorem C7{es:cX}{o:List UInt8}(h:fG (eI o) es=none):gK es o=es++[(eI o,o)]:=by unfold gK;rw[h];rfl
theorem CK{es:cX}{o t:List UInt8}(h:fG (eI o) es=some t):gK es o=es:=by unfold gK;rw[h];rfl
theorem EU{α:Type}{l:List α}{x:α}:l++[x]≠[]:=by simp
theorem DA(es:cX)(k:HB)(o:List UInt8){n:Nat}(h:n=es.length):some (bb.map (gl dO es++[⟨eG k,.string (str o),n⟩]) (n+1))=some (bb.map (gl dO (es++[(k,o)])) (es++[(k,o)]).length):=by
 subst h;have:=zq (enc:=dO) k o es 0;rw[Nat.zero_add]at this;unfold gl;rw[<-this,ZM];rfl
theorem qG{P:Program}{H:dX}{N k:Nat}{s:XS}{Q:XQ}(hB:dv P H){id:Nat}{ops:Array Oper}{d:Code}(S:XS)(h:∃rs s',aE P (eP P H 1) N none ops ops.toList s=some (rs,s')/\o7 P ops s.ds.length rs=true/\db P k s' S)(q:bA P N k d S Q) :
 bA P N k (.region id ops true) s (NH P N k d Q):=by
 obtain⟨rs,s',h1,h2,h3⟩:=h;exact fX hB h1 h2 (show bA P N k d s' Q from aU h3 q)
def T2:List (FuncId×HF):=[(28,rm)]
theorem eQ:dv Tryz.prog (cE T2 []):=⟨mixed,bU (.cons _ _ _ Nz .nil) .nil⟩
theorem LE(es:cX)(o:List UInt8)(ho:o.length<=140737488351232):aN Tryz.prog 10 [.pointer (some ⟨0,0,none⟩),.string (str o)] (lw eN es) fun e W'=>e=.ret (eG (eI o))/\Cd eN es (gK es o) W' (uD es):=by
 have hln:(aF (bW o)).length=32:=by rw[bK,dJ]
 have hkv:Value.agg (aF (bW o)).toArray=eG (eI o):=rfl;have hsl:(bW o).length=32:=dJ o;cases es with
 |nil=>
  show aN _ _ _ (wd [(0,some (.cells [.map none] 65 (0,0)))] 1 [] 0) _;refine be eQ Tryz.func10 rfl (Nat.le_of_ble_eq_true rfl) ?_;simp only[aY.eq_1,aY.eq_2,bf,Tryz.ntmps10,reduceAdd];refine ae (ac (e:=?e1) (s':=?s1) eQ ?h1 ?q1)
  case h1=>simp(disch:=decide) only[go_sem];all_goals rfl
  refine ae (ac (e:=?e2) (s':=?s2) eQ ?h2 ?q2)
  case h2=>simp(disch:=decide) only[T2,uP ho,Z5,Z9,go_sem];all_goals rfl
  refine ae ?_;refine ae (ac (e:=?e3) (s':=?s3) eQ ?h3 ?q3)
  case h3=>simp(disch:=decide) only[mA Tryz.underlying26,go_sem];all_goals rfl
  refine aO ?h4 ?q4
  case h4=>simp(disch:=decide) only[go_sem];all_goals rfl
  refine aH ?_;refine ae ?_;refine ae (ac (e:=?e5) (s':=?s5) eQ ?h5 ?q5)
  case h5=>simp(disch:=decide) only[LG,go_sem];all_goals rfl
  refine aZ ?h6 ?q6
  case h6=>simp(disch:=decide) only[go_sem];all_goals rfl
  refine ac eQ (by simp(disch:=decide) only[go_sem]<;>with_reducible rfl) ?_;show bA _ _ _ _ _ _;refine aU (s':=⟨aI [(0,some (.pointer (some ⟨0,0,none⟩))),(1,some (.string (str o))),(4,some (.pointer (some ⟨1,0,none⟩))),(5,some (.pointer (some ⟨2,0,none⟩)))],wd [(0,some (.cells [.map (some 3)] 65 (0,0))),(1,some (.cells (aF (List.replicate 32 0)) 24 (0,0))),(2,some (.cells (aF (bW o)) 24 (0,0))),(3,some (.map (gl dO []) 0))] 4 [] 0,[]⟩) (ak (by simp(disch:=decide) [ai,ab,aa,ag]) (ap (by decide) rfl (ap (by decide) rfl (ap (by decide) rfl (ap (by decide) rfl trivial)))) (by decide)) ?_;refine ae ?_;refine bl eQ ⟨aI [(0,some (.pointer (some ⟨0,0,none⟩))),(1,some (.string (str o))),(4,some (.pointer (some ⟨1,0,none⟩))),(5,some (.pointer (some ⟨2,0,none⟩))),(7,some (.bool false))],wd [(0,some (.cells [.map (some 3)] 65 (0,0))),(1,some (.cells (aF (List.replicate 32 0)) 24 (0,0))),(2,some (.cells (aF (bW o)) 24 (0,0))),(3,some (.map (gl dO []) 0))] 4 [] 0,[]⟩ ?hd10 ?qd10
  case hd10=>
   refine⟨?rs10,?sx10,?hx10,?kx10,?lx10⟩
   case hx10=>simp(disch:=first|decide|omega) only[aE.eq_1,aE.eq_2,cm.eq_1,bd.eq_1,bd.eq_2,hln,hkv,ke gB,kr gB,show ll (eI o) ([]:cX) 0=none from rfl,Z6,ZW,go_sem]<;>with_reducible rfl
   case kx10=>kernel_rfl
   case lx10=>exact ak (by simp(disch:=decide) [ai,ab,aa,ag]) (by simp(disch:=decide) [ai,ab,aa,ag]) (by decide)
  refine ae (ac (e:=?e8) (s':=?s8) eQ ?h8 ?q8)
  case h8=>simp(disch:=decide) only[go_sem];all_goals rfl
  refine aZ (by simp(disch:=first|decide|omega) only[go_sem]<;>with_reducible rfl) ?_;refine qG eQ ⟨aI [(0,some (.pointer (some ⟨0,0,none⟩))),(1,some (.string (str o))),(4,some (.pointer (some ⟨1,0,none⟩))),(5,some (.pointer (some ⟨2,0,none⟩)))],wd [(0,some (.cells [.map (some 3)] 65 (0,0))),(1,some (.cells (aF (List.replicate 32 0)) 24 (0,0))),(2,some (.cells (aF (bW o)) 24 (0,0))),(3,some (.map (gl dO ([]++[(eI o,o)])) ([]++[(eI o,o)]).length))] 4 [] 0,[]⟩ ?he10 ?qe10
  case he10=>
   refine⟨?rt10,?sy10,?hy10,?ky10,?ly10⟩
   case hy10=>simp(disch:=first|decide|omega) only[aE.eq_1,aE.eq_2,cm.eq_1,bd.eq_1,bd.eq_2,hln,hkv,ke gB,kr gB,show ll (eI o) ([]:cX) 0=none from rfl,Z6,ZW,go_sem]<;>with_reducible rfl
   case ky10=>kernel_rfl
   case ly10=>exact ak (by simp(disch:=decide) [ai,ab,aa,ag]) (ap (by decide) rfl (ap (by decide) rfl (ap (by decide) rfl (ap (by decide) (by rw[ab];exact DA _ _ _ rfl) trivial)))) (by decide)
  refine ae (ac eQ (by simp(disch:=first|decide|omega) only[hln,Z5,Z9,go_sem]<;>with_reducible rfl) ?_);refine bh ?_;refine⟨_,?e11,?W11,rfl,?h11,?q11⟩
  case h11=>simp(disch:=decide) only[Tryz.results10,hln,Z5,go_sem];all_goals rfl
  refine⟨rfl,3,by rw[uH];decide,?_,_,rfl,?_⟩
  ·show XW.get _ _=some (.cells [.map (some 3)] 65 (0,0));simp(disch:=decide) only[go_sem]
  show XW.get _ _=some (.map (gl dO ([]++[(eI o,o)])) ([]++[(eI o,o)]).length);rw[bO (by decide) (by decide)];simp(disch:=decide) only[ab,aa];rfl
 |cons x l=>
  obtain⟨es,hes⟩:∃es,es=x::l:=⟨_,rfl⟩;show aN _ _ _ (wd [(0,some (.cells [.map (some 1)] 65 (0,0))),(1,some (.map (gl dO (x::l)) (x::l).length))] 2 [] 0) fun e W'=>e=.ret (eG (eI o))/\(W'.get 0=some (aJ (gK (x::l) o) 1)/\∀o2,bG (gK (x::l) o)=some o2->bG (x::l)≠none/\W'.get 1=some o2)
  rw[<-hes];have hne:es≠[]:=by rw[hes];simp
  have hsat:bG es≠none:=by rw[rB hne];simp
  clear hes;refine be eQ Tryz.func10 rfl (Nat.le_of_ble_eq_true rfl) ?_;simp only[aY.eq_1,aY.eq_2,bf,Tryz.ntmps10,reduceAdd];refine ae (ac (e:=?e12) (s':=?s12) eQ ?h12 ?q12)
  case h12=>simp(disch:=decide) only[go_sem];all_goals rfl
  refine ae (ac (e:=?e13) (s':=?s13) eQ ?h13 ?q13)
  case h13=>simp(disch:=decide) only[T2,uP ho,Z5,Z9,go_sem];all_goals rfl
  refine ae ?_;refine ae (ac (e:=?e14) (s':=?s14) eQ ?h14 ?q14)
  case h14=>simp(disch:=decide) only[mA Tryz.underlying26,go_sem];all_goals rfl
  refine aO ?h15 ?q15
  case h15=>simp(disch:=decide) only[go_sem];all_goals rfl
  refine aH ?_;refine ae ?_;refine ae (ac (e:=?e16) (s':=?s16) eQ ?h16 ?q16)
  case h16=>simp(disch:=decide) only[HE Tryz.underlying63,go_sem];all_goals rfl
  refine aO (by simp(disch:=decide) only[go_sem]<;>with_reducible rfl) ?_;refine aH ?_;show bA _ _ _ _ _ _;refine aU (s':=⟨aI [(0,some (.pointer (some ⟨0,0,none⟩))),(1,some (.string (str o))),(4,some (.pointer (some ⟨2,0,none⟩))),(5,some (.pointer (some ⟨3,0,none⟩)))],wd [(0,some (.cells [.map (some 1)] 65 (0,0))),(1,some (.map (gl dO es) es.length)),(2,some (.cells (aF (List.replicate 32 0)) 24 (0,0))),(3,some (.cells (aF (bW o)) 24 (0,0)))] 4 [] 0,[]⟩) (ak (by simp(disch:=decide) [ai,ab,aa,ag]) (ap (by decide) rfl (ap (by decide) rfl (ap (by decide) rfl (ap (by decide) rfl trivial)))) (by decide)) ?_;rcases hg:fG (eI o) es with _|t
  ·have hf:=xS hg;refine ae ?_;refine bl eQ ⟨aI [(0,some (.pointer (some ⟨0,0,none⟩))),(1,some (.string (str o))),(4,some (.pointer (some ⟨2,0,none⟩))),(5,some (.pointer (some ⟨3,0,none⟩))),(7,some (.bool false))],wd [(0,some (.cells [.map (some 1)] 65 (0,0))),(1,some (.map (gl dO es) es.length)),(2,some (.cells (aF (List.replicate 32 0)) 24 (0,0))),(3,some (.cells (aF (bW o)) 24 (0,0)))] 4 [] 0,[]⟩ ?hd20 ?qd20
   case hd20=>
    refine⟨?rs20,?sx20,?hx20,?kx20,?lx20⟩
    case hx20=>simp(disch:=first|decide|omega) only[aE.eq_1,aE.eq_2,cm.eq_1,bd.eq_1,bd.eq_2,hln,hkv,ke gB,kr gB,hf,Z6,ZW,go_sem]<;>with_reducible rfl
    case kx20=>kernel_rfl
    case lx20=>exact ak (by simp(disch:=decide) [ai,ab,aa,ag]) (by simp(disch:=decide) [ai,ab,aa,ag]) (by decide)
   refine ae (ac (e:=?e18) (s':=?s18) eQ ?h18 ?q18)
   case h18=>simp(disch:=decide) only[go_sem];all_goals rfl
   refine aZ (by simp(disch:=first|decide|omega) only[go_sem]<;>with_reducible rfl) ?_;refine qG eQ ⟨aI [(0,some (.pointer (some ⟨0,0,none⟩))),(1,some (.string (str o))),(4,some (.pointer (some ⟨2,0,none⟩))),(5,some (.pointer (some ⟨3,0,none⟩)))],wd [(0,some (.cells [.map (some 1)] 65 (0,0))),(1,some (.map (gl dO (es++[(eI o,o)])) (es++[(eI o,o)]).length)),(2,some (.cells (aF (List.replicate 32 0)) 24 (0,0))),(3,some (.cells (aF (bW o)) 24 (0,0)))] 4 [] 0,[]⟩ ?he20 ?qe20
   case he20=>
    refine⟨?rt20,?sy20,?hy20,?ky20,?ly20⟩
    case hy20=>simp(disch:=first|decide|omega) only[aE.eq_1,aE.eq_2,cm.eq_1,bd.eq_1,bd.eq_2,hln,hkv,ke gB,kr gB,hf,Z6,ZW,go_sem]<;>with_reducible rfl
    case ky20=>kernel_rfl
    case ly20=>exact ak (by simp(disch:=decide) [ai,ab,aa,ag]) (ap (by decide) rfl (ap (by decide) (by rw[ab];exact DA _ _ _ rfl) (ap (by decide) rfl (ap (by decide) rfl trivial)))) (by decide)
   refine ae (ac eQ (by simp(disch:=first|decide|omega) only[hln,Z5,Z9,go_sem]<;>with_reducible rfl) ?_);refine bh ?_;refine⟨_,?e21,?W21,rfl,?h21,?q21⟩
   case h21=>simp(disch:=decide) only[Tryz.results10,hln,Z5,go_sem];all_goals rfl
   refine⟨rfl,?_,fun o2 h2=>⟨hsat,?_⟩⟩
   ·rw[C7 hg,zt EU];simp(disch:=decide) only[go_sem]
   rw[C7 hg,rB EU]at h2;rw[<-h2,bO (by decide) (by decide)];simp(disch:=first|decide|omega) only[ab,aa]
  obtain⟨i,hf⟩:=wW hg;refine ae ?_;refine bl eQ ⟨aI [(0,some (.pointer (some ⟨0,0,none⟩))),(1,some (.string (str o))),(4,some (.pointer (some ⟨2,0,none⟩))),(5,some (.pointer (some ⟨3,0,none⟩))),(7,some (.bool true))],wd [(0,some (.cells [.map (some 1)] 65 (0,0))),(1,some (.map (gl dO es) es.length)),(2,some (.cells (aF (List.replicate 32 0)) 24 (0,0))),(3,some (.cells (aF (bW o)) 24 (0,0)))] 4 [] 0,[]⟩ ?hd21 ?qd21
  case hd21=>
   refine⟨?rs21,?sx21,?hx21,?kx21,?lx21⟩
   case hx21=>simp(disch:=first|decide|omega) only[aE.eq_1,aE.eq_2,cm.eq_1,bd.eq_1,bd.eq_2,hln,hkv,ke gB,kr gB,hf,Z6,ZW,go_sem]<;>with_reducible rfl
   case kx21=>kernel_rfl
   case lx21=>exact ak (by simp(disch:=decide) [ai,ab,aa,ag]) (by simp(disch:=decide) [ai,ab,aa,ag]) (by decide)
  refine ae (ac (e:=?e22) (s':=?s22) eQ ?h22 ?q22)
  case h22=>simp(disch:=decide) only[go_sem];all_goals rfl
  refine aO (by simp(disch:=decide) only[go_sem]<;>with_reducible rfl) ?_;refine aH ?_;show bA _ _ _ _ _ _;refine ae (ac eQ (by simp(disch:=first|decide|omega) only[hln,Z5,Z9,go_sem]<;>with_reducible rfl) ?_);refine bh ?_;refine⟨_,?e25,?W25,rfl,?h25,?q25⟩
  case h25=>simp(disch:=decide) only[Tryz.results10,hln,Z5,go_sem];all_goals rfl
  refine⟨rfl,?_,fun o2 h2=>⟨hsat,?_⟩⟩
  ·rw[CK hg,zt hne];simp(disch:=decide) only[go_sem]
  rw[CK hg,rB hne]at h2;rw[<-h2,bO (by decide) (by decide)];simp(disch:=decide) only[ab,aa]
theorem M8(es:cX)(k:HB):aN Tryz.prog 12 [.pointer (some ⟨0,0,none⟩),eG k] (lw eN es) fun e W'=>e=.ret (.tuple #[((fG k es).map dO).getD (.string (str [])),.bool (fG k es).isSome])/\Cd eN es es W' .rd:=by
 have hln:(aF k.1).length=32:=by rw[bK,k.2]
 have hkv:Value.agg (aF k.1).toArray=eG k:=rfl;cases es with
 |nil=>
  show aN _ _ [.pointer (some ⟨0,0,none⟩),.agg (aF k.1).toArray] (wd [(0,some (.cells [.map none] 65 (0,0)))] 1 [] 0) fun e W'=>e=.ret (.tuple #[.string (str []),.bool false])/\W'.get 0=some (.cells [.map none] 65 (0,0))/\∀o,bG []=some o->W'.get 1=some o
  refine be av Tryz.func12 rfl (Nat.le_of_ble_eq_true rfl) ?_;simp only[aY.eq_1,aY.eq_2,bf,Tryz.ntmps12,reduceAdd];have hfn:gH Tryz.prog 24 (eG k) []=some none:=kr (enc:=dO) gB k ([]:cX);refine ae (ac (e:=?e1) (s':=?s1) av ?h1 ?q1)
  case h1=>simp(disch:=decide) only[hln,go_sem];all_goals rfl
  refine ae ?_;refine ae (ac (e:=?e2) (s':=?s2) av ?h2 ?q2)
  case h2=>simp(disch:=decide) only[mA Tryz.underlying26,go_sem];all_goals rfl
  refine aO (by simp(disch:=decide) only[go_sem]<;>with_reducible rfl) ?_;refine aH ?_;refine bl av ⟨aI [(6,some (.string (str []))),(7,some (.bool false))],wd [(0,some (.cells [.map none] 65 (0,0)))] 2 [] 0,[]⟩ ?hda ?qda
  case hda=>
   refine⟨?rsa,?sxa,?hxa,?kxa,?lxa⟩
   case hxa=>simp(disch:=first|decide|omega) only[aE.eq_1,aE.eq_2,cm.eq_1,bd.eq_1,bd.eq_2,hln,hkv,ke gB,hfn,Z6,ZW,go_sem]<;>with_reducible rfl
   case kxa=>kernel_rfl
   case lxa=>exact ak (by simp(disch:=decide) [ai,ab,aa,ag]) (by simp(disch:=decide) [ai,ab,aa,ag]) (by decide)
  refine ae (ac (e:=?e4) (s':=?s4) av ?h4 ?q4)
  case h4=>simp(disch:=decide) only[go_sem];all_goals rfl
  refine bh ?_;refine⟨_,?e5,?W5,rfl,?h5,?q5⟩
  case h5=>simp(disch:=decide) only[Tryz.results12,go_sem];all_goals rfl
  refine⟨rfl,?_,fun o h=>(by cases h)⟩;simp(disch:=decide) only[go_sem]
 |cons x l=>
  obtain⟨es,hes⟩:∃es,es=x::l:=⟨_,rfl⟩;show aN _ _ [.pointer (some ⟨0,0,none⟩),.agg (aF k.1).toArray] (wd [(0,some (.cells [.map (some 1)] 65 (0,0))),(1,some (.map (gl dO (x::l)) (x::l).length))] 2 [] 0) fun e W'=>e=.ret (.tuple #[((fG k (x::l)).map dO).getD (.string (str [])),.bool (fG k (x::l)).isSome])/\W'.get 0=some (.cells [.map (some 1)] 65 (0,0))/\∀o,bG (x::l)=some o->W'.get 1=some o
  rw[<-hes];have hne:es≠[]:=by rw[hes];simp
  clear hes;refine be av Tryz.func12 rfl (Nat.le_of_ble_eq_true rfl) ?_;simp only[aY.eq_1,aY.eq_2,bf,Tryz.ntmps12,reduceAdd];refine ae (ac (e:=?e6) (s':=?s6) av ?h6 ?q6)
  case h6=>simp(disch:=decide) only[hln,go_sem];all_goals rfl
  refine ae ?_;refine ae (ac (e:=?e7) (s':=?s7) av ?h7 ?q7)
  case h7=>simp(disch:=decide) only[mA Tryz.underlying26,go_sem];all_goals rfl
  refine aO (by simp(disch:=first|decide|omega) only[go_sem]<;>with_reducible rfl) ?_;refine aH ?_;refine bl av ⟨aI [(6,some (((fG k es).map dO).getD (.string (str [])))),(7,some (.bool (fG k es).isSome))],wd [(0,some (.cells [.map (some 1)] 65 (0,0))),(1,some (.map (gl dO es) es.length))] 3 [] 0,[]⟩ ?hdb ?qdb
  case hdb=>
   rcases hg:fG k es with _|t
   ·have hf:=xS hg;refine⟨?rsb,?sxb,?hxb,?kxb,?lxb⟩
    case hxb=>simp(disch:=first|decide|omega) only[aE.eq_1,aE.eq_2,cm.eq_1,bd.eq_1,bd.eq_2,hln,hkv,ke gB,kr gB,hf,Z6,ZW,go_sem]<;>with_reducible rfl
    case kxb=>kernel_rfl
    case lxb=>exact ak (ap (by decide) rfl (ap (by decide) rfl trivial)) (by simp(disch:=decide) [ai,ab,aa,ag]) (by decide)
   obtain⟨i,hf⟩:=wW hg;refine⟨?rsc,?sxc,?hxc,?kxc,?lxc⟩
   case hxc=>simp(disch:=first|decide|omega) only[aE.eq_1,aE.eq_2,cm.eq_1,bd.eq_1,bd.eq_2,hln,hkv,ke gB,kr gB,hf,Z6,ZW,go_sem]<;>with_reducible rfl
   case kxc=>kernel_rfl
   case lxc=>exact ak (ap (by decide) rfl (ap (by decide) rfl trivial)) (by simp(disch:=decide) [ai,ab,aa,ag]) (by decide)
  have h1:bk (((fG k es).map dO).getD (.string (str [])))=true:=by cases fG k es<;>rfl
  refine ae (ac (e:=?e9) (s':=?s9) av ?h9 ?q9)
  case h9=>simp(disch:=decide) only[go_sem];all_goals rfl
  refine bh ?_;refine⟨_,?e10,?W10,rfl,?h10,?q10⟩
  case h10=>simp(disch:=decide) only[Tryz.results12,go_sem];all_goals rfl
  refine⟨rfl,?_,fun o h=>?_⟩
  ·simp(disch:=decide) only[go_sem]
  rw[rB hne]at h;rw[<-h,bO (by decide) (by decide)];simp(disch:=decide) only[ab,aa]
theorem Of:bD Tryz.prog 10 (ic eN iN):=uO (enters_of (by kernel_rfl)) (fun xs a v a' md h=>by
 obtain⟨o,rfl,_,rfl,_,_⟩:=CB h;exact⟨aw (aG 8 rfl) aQ,mK _⟩) (fun xs a v a' md h=>by
 obtain⟨o,rfl,ho,rfl,rfl,rfl⟩:=CB h;exact LE a o ho)
theorem WB:bD Tryz.prog 12 (ic eN zg):=uO (enters_of (by kernel_rfl)) (fun xs a v a' md h=>by
 obtain⟨k,rfl,rfl,_,_⟩:=Cj h;exact⟨aw (mK _) aQ,LL⟩) (fun xs a v a' md h=>by
 obtain⟨k,rfl,rfl,rfl,rfl⟩:=Cj h;exact M8 _ k)
end Go.Proofs.YthlkgmdkabelpaaGreat.X
