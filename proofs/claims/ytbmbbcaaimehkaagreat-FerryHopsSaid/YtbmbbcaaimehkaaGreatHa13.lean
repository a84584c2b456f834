/- Hops Part 13 of the proof. -/
import Derived.Test.YtbmbbcaaimehkaaGreatHa12
set_option linter.all false
set_option maxHeartbeats 2000000
section
noncomputable section
namespace Go.Proofs.YtbmbbcaaimehkaaGreat
open Go.YG Go.Lf
theorem ZzS {h:H} {r:Bool} (hL:ZIs=some r):Pure XX 14 #[] h (.bool r):=by
 cases hL;intro wm;have e:ev (cfg XW fun _=>false) 1 (.call 14 #[] wm h)=some (.fin (.ret (.bool true)) h):=rfl;exact ZfA (X:=XW) mixed 1 _ _ e
end Go.Proofs.YtbmbbcaaimehkaaGreat
end
end
section
namespace Go.Proofs.YtbmbbcaaimehkaaGreat
open Go.Lf
def Zjv (F:Nat) (p0:Zb) (p1:(List Zx)) (p2:(List (List Int))):Int ->(Int ->Option Bool) ->Option Bool:=fun v9 Zim=>
 (bif decide (v9 < (p2.length:Int)) then(ZQ p2 v9).bind fun x12=>(Zu4 F x12).bind fun U1=>(bif(!U1) then some false else Zim (Xa (v9 + 1))) else(ZzN F p0).bind fun x18=>some (x18 && (decide ((p1.length:Int) <=80))))
def ZzP (F:Nat) (p0:Zb) (p1:(List Zx)) (p2:(List (List Int))):Option Bool:=
 loop F (Zjv F p0 p1 p2) 0
def ZzK (F:Nat) (p0:Z6) (p1:Zx):Option Z6:=
 (bif(p1.act==1) then(Zpp (Z6.mk (Zb.mk p0.Za.Zv p0.Za.qK p0.Za.qQ p0.Za.qJ p0.Za.qG (Xa (p0.Za.said + 1))) p0.qX) p1.a (Zr.mk p0.Za.said p1.b p1.a 0 0) true).bind fun x4=>some x4 else(bif(p1.act==2) then(Zzw F p0 p1.a p1.b).bind fun x25=>some x25 else(bif(p1.act==3) then(ZQ p0.Za.Zv p1.a).bind fun x46=>some (Z6.mk (Zb.mk (Yv p0.Za.Zv p1.a p1.b) p0.Za.qK p0.Za.qQ p0.Za.qJ p0.Za.qG p0.Za.said) p0.qX) else(bif(p1.act==4) then(ZQ p0.Za.Zv p1.a).bind fun x51=>some (Z6.mk (Zb.mk (Yv p0.Za.Zv p1.a (-1)) p0.Za.qK p0.Za.qQ p0.Za.qJ p0.Za.qG p0.Za.said) p0.qX) else(bif(p1.act==5) then(ZzF F p0 p1.a).bind fun x56=>some x56 else some p0)))))
def ZfW (p1:Ze):Int×Int×Int×Int×Int×Int×Int×Int ->Option Bool:=fun(v11,v12,v13,v14,v15,v16,v17,v18)=>
 some ((((JI (Zr.mk v11 v12 v13 v14 v15) p1.Yb) && (v16==p1.place)) && (v17==p1.at_)) && (v18==p1.age))
def ZzC (p0:ZV) (p1:Ze):Option Bool:=
 (ZmH p0 p1.Z9).bind fun x3=>(bif(!x3) then some false else(bif((p1.kind !=2) && (decide ((Xa ((p1.qV.length:Int) + (p1.Yk.length:Int))) > 0))) then some false else(bif(p1.kind==1) then(ZuY p0 p1.Z9 p1.Yb).bind fun x20=>(bif(!x20) then some false else(ZfW p1) (p1.Yb.msg,p1.Yb.place,p1.Yb.from_,p1.Yb.age,p1.Yb.hops,0,0,0)) else(bif(p1.kind==3) then(gd (!(p1.at_==p1.Z9)) (Zrx p0 p1.place) default).bind fun x28=>(gd (!((p1.at_==p1.Z9) || (!x28))) (ZmI p0 p1.place p1.at_ p1.age) default).bind fun x29=>(bif(((p1.at_==p1.Z9) || (!x28)) || (!x29)) then some false else(ZfW p1) (0,0,0,0,0,p1.place,p1.at_,p1.age)) else(ZfW p1) (0,0,0,0,0,0,0,0)))))
end Go.Proofs.YtbmbbcaaimehkaaGreat
end
section
set_option maxRecDepth 20000
noncomputable section
namespace Go.Proofs.YtbmbbcaaimehkaaGreat
open Go.YG Go.Lf
theorem ZIm {F wm:Nat} {h:H} {p0:Zb} {p1:(List Zx)} {p2:(List (List Int))} {Zi:Option Addr} {Zh:Nat} {Zq:Option Addr} {Zo:Nat} {Zk:Option Addr} {Zj:Nat} {Zp:Option Addr} {Zn:Nat} {Zm:Option Addr} {Zl:Nat} {Q8:Option Addr} {Q7:Nat} {ZwX:Option Addr} {ZwV:Nat} {r:Bool} (ZX:wm <=h.size) (ZA:Sl (Zu .i64) wm h Zi Zh p0.Zv) (ZM:Sl (ZE (Zu .i64)) wm h Zq Zo p0.qK) (ZL:Sl (ZE Zc) wm h Zk Zj p0.qQ) (ZN:Sl (ZE Zg) wm h Zp Zn p0.qJ) (ZK:Sl Zd wm h Zm Zl p0.qG) (Zam:Sl KH wm h Q8 Q7 p1) (ZFZ:Sl (ZE (Zu .i64)) wm h ZwX ZwV p2) (hL:ZzP F p0 p1 p2=some r):
 WR XX 28 #[.agg [.slice Zi p0.Zv.length Zh,.slice Zq p0.qK.length Zo,.slice Zk p0.qQ.length Zj,.slice Zp p0.qJ.length Zn,.slice Zm p0.qG.length Zl,.int .i64 p0.said].toArray,.slice Q8 p1.length Q7,.slice ZwX p2.length ZwV] wm h (CP (fun(v:Value) (Gb:List (Ast wm))=>v= .bool r∧Gb= []) [] h):=by
 refine bg Tryz.ntmps28 ZX Yd.nil ?_;intro T hT hS;unfold ZzP at hL;refine r3 ?_;rintro _ h2 ⟨b1,eb1,rfl,hS⟩;refine XY ?_;refine WC.loop (WL.lift hL (fun(v9:Int) (s:Fs)=>∃ (K4:Fr) (h3:H),s= ⟨K4,[],h3,none⟩∧Sp wm T h [bx wm b1 (cW p0 Zi Zh Zq Zo Zk Zj Zp Zn Zm Zl)] h3∧K4.at 1= .slice Q8 p1.length Q7∧K4.at 3= .pointer (some ⟨b1,0,none⟩)∧K4.at 9= .slice ZwX p2.length ZwV∧K4.at 10= .int .i64 (p2.length:Int)∧K4.at 11= .int .i64 v9) ⟨_,_,rfl,hS.only (.c k0 .n),YH⟩ ?_);clear hL hS;rintro Zim v9 s Zmu hL ⟨K4,h3,rfl,hS,e5,e6,e7,e8,e10⟩;dsimp only [Zjv] at hL;refine r6 ?_;refine cn hL ?_ ?_
 ·intro hc hL;refine r6 ?_;obtain⟨x12,ZqX,hL⟩:=bind_some hL;obtain⟨b13,o14,⟨a15,c16⟩,ZyC,Zy5,ZyO,ZyG⟩:=Sl.at_ ZFZ ZqX;refine WO.w gN rfl (ZH Zen U7 lk lk rfl ZyC ZqX) ?_;have ZEw:Sl (Zu .i64) wm h a15 c16 x12:=ZyG;refine WO.w gN rfl (ZW Zg6 (Yt fh rfl) (At.fz hS.fz ZyO Zy5) (j:=0) rfl (v:= .slice a15 x12.length c16) rfl) ?_;refine r6 ?_;obtain⟨U1,ZoU,hL⟩:=bind_some hL;refine WO.cp gN rfl (Xg.fn ZLF (Zf lk Zy)) (WR.Qb rfl (ZIg (Nat.le_refl _) (hS.Y0 ZEw) ZoU)) ?_;refine r3 ?_;refine cn hL ?_ ?_
  ·intro hc hL;refine r8 ?_;refine r3 ?_;exact rt hL hT hS
  ·intro hc hL;refine r6 ?_;refine r1 ?_;exact Yh.Y7 (Zmu _ _ hL ⟨_,_,rfl,hS.only (.c k0 .n),YH⟩)
 ·intro hc hL;refine r8 ?_;obtain⟨x18,ZQz,hL⟩:=bind_some hL;refine WO.cp gN rfl (Xg.fn ZLH (Zf lk Zy)) (WR.Qb rfl (ZIi (Nat.le_refl _) (hS.Y0 ZA) (hS.Y0 ZM) (hS.Y0 ZL) (hS.Y0 ZN) (hS.Y0 ZK) ZQz)) ?_;refine r8 ?_;refine r1 ?_;exact rt hL hT hS
theorem ZIa {F wm:Nat} {h:H} {p0:Z6} {p1:Zx} {Zi:Option Addr} {Zh XM:Nat} {Zq:Option Addr} {Zo Je:Nat} {YF:Nat ->Option Addr×Nat×Nat} {Zk:Option Addr} {Zj Jd:Nat} {YQ:Nat ->Option Addr×Nat×Nat} {Zp:Option Addr} {Zn Jc:Nat} {YE:Nat ->Option Addr×Nat×Nat} {Zm:Option Addr} {Zl Jb:Nat} {Z4:Option Addr} {Z0 Qm YX:Nat} {r:Z6} (ZX:wm <=h.size) (hO:Yd (wm:=wm) [bx wm YX (cG Zi XM Zh Zq Je Zo Zk Jd Zj Zp Jc Zn Zm Jb Zl p0.Za.said Z4 Qm Z0),ow wm (Zu .i64) Zi XM Zh p0.Za.Zv,Xb wm (Z5 (Zu .i64)) Zq Je Zo YF p0.Za.qK,Xb wm (Z5 Zc) Zk Jd Zj YQ p0.Za.qQ,Xb wm (Z5 Zg) Zp Jc Zn YE p0.Za.qJ,ow wm Zd Zm Jb Zl p0.Za.qG,ow wm ZP Z4 Qm Z0 p0.qX] h) (hL:ZzK F p0 p1=some r):
 WR XX 50 #[.pointer (some ⟨YX,0,none⟩),.agg [.int .i64 p1.act,.int .i64 p1.a,.int .i64 p1.b].toArray] wm h (CP (fun(v:Value) (Gb:List (Ast wm))=>∃ (JA:Option Addr) (UF:Nat) (Jt:Nat) (Jz:Option Addr) (UE:Nat) (Js:Nat) (UI:Nat ->Option Addr×Nat×Nat) (Jy:Option Addr) (UD:Nat) (Jr:Nat) (UH:Nat ->Option Addr×Nat×Nat) (Jw:Option Addr) (UC:Nat) (Jq:Nat) (UG:Nat ->Option Addr×Nat×Nat) (Jv:Option Addr) (UB:Nat) (Jp:Nat) (Ju:Option Addr) (Jm:Nat) (Jo:Nat),v= .tuple [].toArray∧Gb= [bx wm YX (cG JA UF Jt Jz UE Js Jy UD Jr Jw UC Jq Jv UB Jp r.Za.said Ju Jm Jo),ow wm (Zu .i64) JA UF Jt r.Za.Zv,Xb wm (Z5 (Zu .i64)) Jz UE Js UI r.Za.qK,Xb wm (Z5 Zc) Jy UD Jr UH r.Za.qQ,Xb wm (Z5 Zg) Jw UC Jq UG r.Za.qJ,ow wm Zd Jv UB Jp r.Za.qG,ow wm ZP Ju Jm Jo r.qX]) [bx wm YX (cG Zi XM Zh Zq Je Zo Zk Jd Zj Zp Jc Zn Zm Jb Zl p0.Za.said Z4 Qm Z0),ow wm (Zu .i64) Zi XM Zh p0.Za.Zv,Xb wm (Z5 (Zu .i64)) Zq Je Zo YF p0.Za.qK,Xb wm (Z5 Zc) Zk Jd Zj YQ p0.Za.qQ,Xb wm (Z5 Zg) Zp Jc Zn YE p0.Za.qJ,ow wm Zd Zm Jb Zl p0.Za.qG,ow wm ZP Z4 Qm Z0 p0.qX] h):=by
 refine bg Tryz.ntmps50 ZX hO ?_;intro T hT hS;unfold ZzK at hL;obtain rfl:=hS.on k1;obtain rfl:=hS.Xm k2;obtain rfl:=hS.Xm k3;obtain rfl:=hS.Xm k4;obtain rfl:=hS.on k5;obtain rfl:=hS.on k6;refine r3 ?_;rintro _ h2 ⟨b1,eb1,rfl,hS⟩;refine XY ?_;refine r3 ?_;refine cn hL ?_ ?_
 ·intro hc hL;refine r16 ?_;refine r6 ?_;rintro h3 hS;refine r8 ?_;refine r3 ?_;refine WO.w gN rfl (XT ZE1 (ZG lk (ZG lk (ZG lk Yf))) rfl (cs':= [.int .i64 p0.Za.said,.int .i64 p1.b,.int .i64 p1.a,.int .i64 0,.int .i64 0]) rfl) ?_;obtain⟨x4,hx4,hL⟩:=bind_some hL;refine WO.cl gN rfl (Xg.fn ZEC (Zf lk (Zf lk (Zf lk (Zf lk Zy))))) hS (.c k0 (.c k1 (.c k1 (.c k1 (.c k1 (.c k1 (.c k1 .n))))))) (fun g' hz hf hO=>Zzx (p0:= (Z6.mk (Zb.mk p0.Za.Zv p0.Za.qK p0.Za.qQ p0.Za.qJ p0.Za.qG (Xa (p0.Za.said + 1))) p0.qX)) (p2:= (Zr.mk p0.Za.said p1.b p1.a 0 0)) (by rw [hz];exact hS.hw) hO hx4) ?_;rintro _ h23 _ ⟨a5,n6,c7,a8,n9,c10,ZPY,a11,n12,c13,ZJ0,a14,n15,c16,ZJZ,a17,n18,c19,a20,n21,c22,rfl,rfl⟩ hS;obtain rfl:=hS.on k1;obtain rfl:=hS.Xm k2;obtain rfl:=hS.Xm k3;obtain rfl:=hS.Xm k4;obtain rfl:=hS.on k5;obtain rfl:=hS.on k6;refine r2 ?_;refine Yo.Y7 ?_;have hr:=Oi0 hL;subst hr;exact Yo.gen (vs:= []) rfl ZC rfl ⟨_,⟨a5,x4.Za.Zv.length,c7,a8,x4.Za.qK.length,c10,ZPY,a11,x4.Za.qQ.length,c13,ZJ0,a14,x4.Za.qJ.length,c16,ZJZ,a17,x4.Za.qG.length,c19,a20,x4.qX.length,c22,rfl,rfl⟩,hT ▸ hS.only (.c k0 (.c k0 (.c k0 (.c k0 (.c k0 (.c k0 (.c k0 .n)))))))⟩
 ·intro hc hL;refine r6 ?_;refine cn hL ?_ ?_
  ·intro hc hL;refine r6 ?_;obtain⟨x25,hx25,hL⟩:=bind_some hL;refine WO.cl gN rfl (Xg.fn ZLo (Zf lk (Zf lk (Zf lk Zy)))) hS (.c k1 (.c k1 (.c k1 (.c k1 (.c k1 (.c k1 (.c k1 .n))))))) (fun g' hz hf hO=>ZHQ (by rw [hz];exact hS.hw) hO hx25) ?_;rintro _ h44 _ ⟨a26,n27,c28,a29,n30,c31,ZJX,a32,n33,c34,ZJV,a35,n36,c37,ZJT,a38,n39,c40,a41,n42,c43,rfl,rfl⟩ hS;obtain rfl:=hS.on k1;obtain rfl:=hS.Xm k2;obtain rfl:=hS.Xm k3;obtain rfl:=hS.Xm k4;obtain rfl:=hS.on k5;obtain rfl:=hS.on k6;refine r2 ?_;refine Yo.Y7 ?_;have hr:=Oi0 hL;subst hr;exact Yo.gen (vs:= []) rfl ZC rfl ⟨_,⟨a26,x25.Za.Zv.length,c28,a29,x25.Za.qK.length,c31,ZJX,a32,x25.Za.qQ.length,c34,ZJV,a35,x25.Za.qJ.length,c37,ZJT,a38,x25.Za.qG.length,c40,a41,x25.qX.length,c43,rfl,rfl⟩,hT ▸ hS.only (.c k0 (.c k0 (.c k0 (.c k0 (.c k0 (.c k0 (.c k0 .n)))))))⟩
  ·intro hc hL;refine r6 ?_;refine cn hL ?_ ?_
   ·intro hc hL;refine WC.Xw mixed Kq0 ?_;refine r8 ?_;refine r1 ?_;obtain⟨x46,ZuI,hL⟩:=bind_some hL;obtain⟨b47,o48,_,Zth,ZyX,ZMm⟩:=Src.at_ (hS.QT k2) ZuI;refine WX.w gN rfl (ZH YI YJ lk lk rfl Zth ZuI) ?_ rfl;refine WX.hu gN (Zet (e:= (Zu .i64)) p1.b () hS k2 YJ (Yt fh rfl) (Yt (Zz rfl fh) rfl) Zth ZuI ZyX (j:=0) rfl (vs:= [.int .i64 p1.b]) rfl rfl rfl rfl rfl (cs':= [.int .i64 p1.b]) rfl rfl trivial) ?_ rfl rfl [] Kq0 YO.e;rintro h49 ⟨hS,ZWv⟩;refine r2 ?_;refine Yo.Y7 ?_;have hr:=Oi0 hL;subst hr;exact Yo.gen (vs:= []) rfl ZC rfl ⟨_,⟨Zi,p0.Za.Zv.length,Zh,Zq,p0.Za.qK.length,Zo,YF,Zk,p0.Za.qQ.length,Zj,YQ,Zp,p0.Za.qJ.length,Zn,YE,Zm,p0.Za.qG.length,Zl,Z4,p0.qX.length,Z0,rfl,rfl⟩,hT ▸ hS.only (.c k2 (.c k0 (.c k1 (.c k1 (.c k1 (.c k1 (.c k1 .n)))))))⟩
   ·intro hc hL;refine r6 ?_;refine cn hL ?_ ?_
    ·intro hc hL;refine WC.Xw mixed Kq0 ?_;refine r6 ?_;refine r1 ?_;obtain⟨x51,ZFY,hL⟩:=bind_some hL;obtain⟨b52,o53,_,ZEK,ZM5,ZTN⟩:=Src.at_ (hS.QT k2) ZFY;refine WX.w gN rfl (ZH YI YJ lk lk rfl ZEK ZFY) ?_ rfl;refine WX.hu gN (Zet (e:= (Zu .i64)) (-1) () hS k2 YJ (Yt fh rfl) (evC rfl) ZEK ZFY ZM5 (j:=0) rfl (vs:= [.int .i64 (-1)]) rfl rfl rfl rfl rfl (cs':= [.int .i64 (-1)]) rfl rfl trivial) ?_ rfl rfl [] Kq0 YO.e;rintro h54 ⟨hS,ZWu⟩;refine r2 ?_;refine Yo.Y7 ?_;have hr:=Oi0 hL;subst hr;exact Yo.gen (vs:= []) rfl ZC rfl ⟨_,⟨Zi,p0.Za.Zv.length,Zh,Zq,p0.Za.qK.length,Zo,YF,Zk,p0.Za.qQ.length,Zj,YQ,Zp,p0.Za.qJ.length,Zn,YE,Zm,p0.Za.qG.length,Zl,Z4,p0.qX.length,Z0,rfl,rfl⟩,hT ▸ hS.only (.c k2 (.c k0 (.c k1 (.c k1 (.c k1 (.c k1 (.c k1 .n)))))))⟩
    ·intro hc hL;refine r6 ?_;refine cn hL ?_ ?_
     ·intro hc hL;refine r4 ?_;obtain⟨x56,ZQv,hL⟩:=bind_some hL;refine WO.cl gN rfl (Xg.fn ZLy (Zf lk (Zf lk Zy))) hS (.c k1 (.c k1 (.c k1 (.c k1 (.c k1 (.c k1 (.c k1 .n))))))) (fun g' hz hf hO=>ZH4 (by rw [hz];exact hS.hw) hO ZQv) ?_;rintro _ h75 _ ⟨a57,n58,c59,a60,n61,c62,ZJQ,a63,n64,c65,ZJP,a66,n67,c68,ZJO,a69,n70,c71,a72,n73,c74,rfl,rfl⟩ hS;obtain rfl:=hS.on k1;obtain rfl:=hS.Xm k2;obtain rfl:=hS.Xm k3;obtain rfl:=hS.Xm k4;obtain rfl:=hS.on k5;obtain rfl:=hS.on k6;refine r2 ?_;refine Yo.Y7 ?_;have hr:=Oi0 hL;subst hr;exact Yo.gen (vs:= []) rfl ZC rfl ⟨_,⟨a57,x56.Za.Zv.length,c59,a60,x56.Za.qK.length,c62,ZJQ,a63,x56.Za.qQ.length,c65,ZJP,a66,x56.Za.qJ.length,c68,ZJO,a69,x56.Za.qG.length,c71,a72,x56.qX.length,c74,rfl,rfl⟩,hT ▸ hS.only (.c k0 (.c k0 (.c k0 (.c k0 (.c k0 (.c k0 (.c k0 .n)))))))⟩
     ·intro hc hL;refine r2 ?_;refine Yo.Y7 ?_;have hr:=Oi0 hL;subst hr;exact Yo.gen (vs:= []) rfl ZC rfl ⟨_,⟨Zi,p0.Za.Zv.length,Zh,Zq,p0.Za.qK.length,Zo,YF,Zk,p0.Za.qQ.length,Zj,YQ,Zp,p0.Za.qJ.length,Zn,YE,Zm,p0.Za.qG.length,Zl,Z4,p0.qX.length,Z0,rfl,rfl⟩,hT ▸ hS.only (.c k1 (.c k1 (.c k1 (.c k1 (.c k1 (.c k1 (.c k1 .n)))))))⟩
theorem ZHV {wm:Nat} {h:H} {p0:ZV} {p1:Ze} {Zi:Option Addr} {Zh:Nat} {Zq:Option Addr} {Zo:Nat} {Zk:Option Addr} {Zj:Nat} {Zp:Option Addr} {Zn:Nat} {Zm:Option Addr} {Zl:Nat} {Z4:Option Addr} {Z0 YX WW:Nat} {Q8:Option Addr} {Q7:Nat} {ZwY:Option Addr} {ZwW:Nat} {r:Bool} (ZX:wm <=h.size) (XR:At h YX WW [.slice Zi p0.Za.Zv.length Zh,.slice Zq p0.Za.qK.length Zo,.slice Zk p0.Za.qQ.length Zj,.slice Zp p0.Za.qJ.length Zn,.slice Zm p0.Za.qG.length Zl,.int .i64 p0.Za.said,.slice Z4 p0.Y2.length Z0]) (XQ:Stb wm h YX) (ZA:Sl (Zu .i64) wm h Zi Zh p0.Za.Zv) (ZM:Sl (ZE (Zu .i64)) wm h Zq Zo p0.Za.qK) (ZL:Sl (ZE Zc) wm h Zk Zj p0.Za.qQ) (ZN:Sl (ZE Zg) wm h Zp Zn p0.Za.qJ) (ZK:Sl Zd wm h Zm Zl p0.Za.qG) (Xo:Sl XA wm h Z4 Z0 p0.Y2) (Zam:Sl (Zu .i64) wm h Q8 Q7 p1.qV) (ZQI:Sl (Zu .i64) wm h ZwY ZwW p1.Yk) (hL:ZzC p0 p1=some r):
 WR XX 73 #[.pointer (some ⟨YX,WW,none⟩),.agg [.int .i64 p1.kind,.int .i64 p1.Z9,.int .i64 p1.Yb.msg,.int .i64 p1.Yb.place,.int .i64 p1.Yb.from_,.int .i64 p1.Yb.age,.int .i64 p1.Yb.hops,.slice Q8 p1.qV.length Q7,.slice ZwY p1.Yk.length ZwW,.int .i64 p1.place,.int .i64 p1.at_,.int .i64 p1.age].toArray] wm h (CP (fun(v:Value) (Gb:List (Ast wm))=>v= .bool r∧Gb= []) [] h):=by
 refine bg Tryz.ntmps73 ZX Yd.nil ?_;intro T hT hS;unfold ZzC at hL;refine r3 ?_;rintro _ h2 ⟨b1,eb1,rfl,hS⟩;refine r8 ?_;refine r1 ?_;obtain⟨x3,hx3,hL⟩:=bind_some hL;refine WO.cp gN rfl (Xg.fn Zye (Zf lk (Zf lk Zy))) (Zry (At.fz hS.fz XQ XR) (Stb.up hS.hw (Stb.fz hS.fz XR XQ)) (hS.Y0 ZA) (hS.Y0 ZM) (hS.Y0 ZL) (hS.Y0 ZN) (hS.Y0 ZK) (hS.Y0 Xo) hx3) ?_;refine r3 ?_;refine cn hL ?_ ?_
 ·intro hc hL;refine r6 ?_;refine r1 ?_;exact rt hL hT hS
 ·intro hc hL;refine r8 ?_;refine WO.w gN rfl (XT ZtJ (ZG lk (ZG lk Yf)) rfl (cs':= [.int .i64 p1.kind,.int .i64 p1.Z9,.int .i64 0,.int .i64 0,.int .i64 0,.int .i64 0,.int .i64 0,.slice none 0 0,.slice none 0 0,.int .i64 0,.int .i64 0,.int .i64 0]) rfl) ?_;refine r1 ?_;rintro _ h5 ⟨b4,eb4,rfl,hS⟩;refine r1 ?_;rintro h6 hS;refine r16 ?_;refine r4 ?_;refine cn hL ?_ ?_
  ·intro hc hL;refine r6 ?_;refine r1 ?_;exact rt hL hT hS
  ·intro hc hL;refine r2 ?_;refine WC.Za2 (r:=r) (fun(p:Int×Int×Int×Int×Int×Int×Int×Int) (s:Fs)=>match p with | (v11,v12,v13,v14,v15,v16,v17,v18)=>∃ (fr8:Fr) (h7:H),s= ⟨fr8,[],h7,none⟩∧Sp wm T h [bx wm b1 (cL p1 Q8 Q7 ZwY ZwW),bx wm b4 [.int .i64 p1.kind,.int .i64 p1.Z9,.int .i64 v11,.int .i64 v12,.int .i64 v13,.int .i64 v14,.int .i64 v15,.slice none 0 0,.slice none 0 0,.int .i64 v16,.int .i64 v17,.int .i64 v18]] h7∧fr8.at 3= .pointer (some ⟨b1,0,none⟩)∧fr8.at 5= .pointer (some ⟨b4,0,none⟩)) (ZfW p1) ?_ ?_
   ·clear hL hS;rintro⟨v11,v12,v13,v14,v15,v16,v17,v18⟩ s hL ⟨fr8,h7,rfl,hS,e9,e10⟩;dsimp only [ZfW] at hL;refine r6 ?_;refine WO.w gN rfl (Uf (Yt (YB rfl fh) rfl) (Yt fh rfl) (Zp3 (xs:= [.int .i64 v11,.int .i64 v12,.int .i64 v13,.int .i64 v14,.int .i64 v15]) (ys:= [.int .i64 p1.Yb.msg,.int .i64 p1.Yb.place,.int .i64 p1.Yb.from_,.int .i64 p1.Yb.age,.int .i64 p1.Yb.hops]) (ZEX (Zr.mk v11 v12 v13 v14 v15) p1.Yb) rfl rfl)) ?_;refine r16 ?_;refine r8 ?_;refine r1 ?_;exact rt hL hT hS
   ·skip;refine XY ?_;refine r1 ?_;refine cn hL ?_ ?_
    ·intro hc hL;refine r6 ?_;rintro h19 hS;refine r8 ?_;refine r1 ?_;obtain⟨x20,ZQy,hL⟩:=bind_some hL;refine WO.cp gN rfl (Xg.fn ZEF (Zf lk (Zf lk (Zf lk Zy)))) (WR.Qb rfl (ZzB (Nat.le_refl _) (At.fz hS.fz XQ XR) (Stb.up hS.hw (Stb.fz hS.fz XR XQ)) (hS.Y0 ZA) (hS.Y0 ZM) (hS.Y0 ZL) (hS.Y0 ZN) (hS.Y0 ZK) (hS.Y0 Xo) ZQy)) ?_;refine r3 ?_;refine cn hL ?_ ?_
     ·intro hc hL;refine r6 ?_;refine r1 ?_;refine YT.ret ?_;exact rt hL hT hS
     ·intro hc hL;refine r2 ?_;exact YT.Y7 _ hL ⟨_,_,rfl,hS.only (.c k1 (.c k0 .n)),YH⟩
    ·intro hc hL;refine r6 ?_;refine cn hL ?_ ?_
     ·intro hc hL;refine r1 ?_;refine WC.Xw mixed Kq0 ?_;refine r3 ?_;refine WX.wr (fun x=>x=b1) hS gN rfl (fun _ _ hR=>ZW Xr (Yt fh rfl) (At.eqv (hR b1 rfl) (hS.atB k1)) (j:=10) rfl (v:= .int .i64 p1.at_) rfl) ?_ rfl rfl;rintro h21 e22 hS;refine r1 ?_;refine WX.wr (fun x=>x=b1) hS gN rfl (fun _ _ hR=>ZW Xr (Yt fh rfl) (At.eqv (hR b1 rfl) (hS.atB k1)) (j:=11) rfl (v:= .int .i64 p1.age) rfl) ?_ rfl rfl;rintro h23 e24 hS;refine r1 ?_;refine WX.hu gN (Za3 hS k0 YJ lk lk (vs:= [.int .i64 p1.place]) rfl rfl rfl rfl (cs':= [.int .i64 p1.kind,.int .i64 p1.Z9,.int .i64 0,.int .i64 0,.int .i64 0,.int .i64 0,.int .i64 0,.slice none 0 0,.slice none 0 0,.int .i64 p1.place,.int .i64 0,.int .i64 0]) rfl) ?_ rfl rfl [3,5] Kq0 (.c (.s .z) (hS.dj (.c k0 (.c k0 .n))) (.c .z (hS.dj (.c k0 (.c k0 .n))) YO.e));rintro h25 hS;refine WX.w gN rfl (Ue Ztp lk) ?_ Kq0;refine WX.hu gN (Za3 hS k0 YJ lk lk (vs:= [.int .i64 p1.at_]) rfl rfl rfl rfl (cs':= [.int .i64 p1.kind,.int .i64 p1.Z9,.int .i64 0,.int .i64 0,.int .i64 0,.int .i64 0,.int .i64 0,.slice none 0 0,.slice none 0 0,.int .i64 p1.place,.int .i64 p1.at_,.int .i64 0]) rfl) ?_ rfl Kq0 [5] Kq0 (.c .z (hS.dj (.c k0 (.c k0 .n))) YO.e);rintro h26 hS;refine WX.w gN rfl (Ue Zto lk) ?_ Kq0;refine WX.hu gN (Za3 hS k0 YJ lk lk (vs:= [.int .i64 p1.age]) rfl rfl rfl rfl (cs':= [.int .i64 p1.kind,.int .i64 p1.Z9,.int .i64 0,.int .i64 0,.int .i64 0,.int .i64 0,.int .i64 0,.slice none 0 0,.slice none 0 0,.int .i64 p1.place,.int .i64 p1.at_,.int .i64 p1.age]) rfl) ?_ rfl Kq0 [] Kq0 YO.e;rintro h27 hS;refine XY ?_;refine r1 ?_;obtain⟨x28,hx28,hL⟩:=Yq hL;refine WO.gcp (Zt.no rfl rfl rfl (YB rfl (Zz rfl fh))) rfl (fun hg=>(Xg.fn ZEA (Zf (YW (YB rfl fh) rfl hg) (Zf (YW fh rfl hg) Zy)))) (fun hg=>Zzt (At.fz hS.fz XQ XR) (Stb.up hS.hw (Stb.fz hS.fz XR XQ)) (hS.Y0 ZA) (hS.Y0 ZM) (hS.Y0 ZL) (hS.Y0 ZN) (hS.Y0 ZK) (hS.Y0 Xo) (hx28 hg)) ?_;refine r8 ?_;refine r2 ?_;obtain⟨x29,hx29,hL⟩:=Yq hL;refine WO.gcp (Zt.no rfl rfl rfl (Y1 rfl (YB rfl (Zz rfl fh)))) rfl (fun hg=>(Xg.fn Zyf (Zf (YW (Y1 rfl (YB rfl fh)) rfl hg) (Zf (YW (Y1 rfl fh) rfl hg) (Zf (YW (YB rfl fh) rfl hg) (Zf (YW fh rfl hg) Zy)))))) (fun hg=>ZrA (At.fz hS.fz XQ XR) (Stb.up hS.hw (Stb.fz hS.fz XR XQ)) (hS.Y0 ZA) (hS.Y0 ZM) (hS.Y0 ZL) (hS.Y0 ZN) (hS.Y0 ZK) (hS.Y0 Xo) (hx29 hg)) ?_;refine r4 ?_;refine cn hL ?_ ?_
      ·intro hc hL;refine r6 ?_;refine r1 ?_;refine YT.ret ?_;exact rt hL hT hS
      ·intro hc hL;refine r2 ?_;exact YT.Y7 _ hL ⟨_,_,rfl,hS.only (.c k1 (.c k0 .n)),YH⟩
     ·intro hc hL;refine r2 ?_;exact YT.Y7 _ hL ⟨_,_,rfl,hS.only (.c k1 (.c k0 .n)),YH⟩
end Go.Proofs.YtbmbbcaaimehkaaGreat
end
end
section
namespace Go.Proofs.YtbmbbcaaimehkaaGreat
open Go.Lf
def Zf7 (XL:(ZV×Bool)) (v59:Int) (Zl4:(Int ->Option Int)) (x62:(List Zr)):Int ->(Int ->Option Int) ->Option Int:=fun v76 Zw7=>
 (bif decide (v76 < (x62.length:Int)) then(ZQ x62 v76).bind fun x79=>(ZuY XL.1 v59 x79).bind fun x85=>(gd (!(!x85)) (ZQ XL.1.Y2 x79.place) default).bind fun x86=>(bif((!x85) || (!(Ze0 x86 (Yr.mk v59 false x79.age)))) then some 2 else Zw7 (Xa (v76 + 1))) else Zl4 (Xa (v59 + 1)))
def Zf8 (F:Nat) (p0:Zb) (XL:(ZV×Bool)):Int ->(Int ->Option Int) ->Option Int:=fun v59 Zl4=>
 (bif decide (v59 < (p0.qJ.length:Int)) then(ZQ p0.qJ v59).bind fun x62=>loop F (Zf7 XL v59 Zl4 x62) 0 else some 0)
def Zju (F:Nat) (p0:Zb) (XL:(ZV×Bool)):Int ->(Int ->Option Int) ->Option Int:=fun v40 Zxe=>
 (bif decide (v40 < (p0.qG.length:Int)) then(ZQ p0.qG v40).bind fun x43=>(ZzC XL.1 x43).bind fun x53=>(bif(!x53) then some 2 else Zxe (Xa (v40 + 1))) else loop F (Zf8 F p0 XL) 0)
def Zps (F:Nat) (p0:Zb):Option Int:=
 (ZzE F p0).bind fun x3=>(gd (!(!x3)) (Zu1 F p0) default).bind fun x4=>(bif((!x3) || (!x4)) then some 2 else(mkL (Yr.mk 0 false 0) 24 (p0.Zv.length:Int) (p0.Zv.length:Int)).bind fun z5=>(ZzD F (ZV.mk p0 z5)).bind fun XL=>(gd (!(!XL.2)) (Zu0 F XL.1) default).bind fun x32=>(gd (!((!XL.2) || (!x32))) (ZuZ F XL.1) default).bind fun x33=>(bif(((!XL.2) || (!x32)) || (!x33)) then some 2 else loop F (Zju F p0 XL) 0))
end Go.Proofs.YtbmbbcaaimehkaaGreat
end
section
set_option maxRecDepth 20000
noncomputable section
namespace Go.Proofs.YtbmbbcaaimehkaaGreat
open Go.YG Go.Lf
theorem ZIh {F wm:Nat} {h:H} {p0:Zb} {Zi:Option Addr} {Zh:Nat} {Zq:Option Addr} {Zo:Nat} {Zk:Option Addr} {Zj:Nat} {Zp:Option Addr} {Zn:Nat} {Zm:Option Addr} {Zl:Nat} {r:Int} (ZX:wm <=h.size) (ZA:Sl (Zu .i64) wm h Zi Zh p0.Zv) (ZM:Sl (ZE (Zu .i64)) wm h Zq Zo p0.qK) (ZL:Sl (ZE Zc) wm h Zk Zj p0.qQ) (ZN:Sl (ZE Zg) wm h Zp Zn p0.qJ) (ZK:Sl Zd wm h Zm Zl p0.qG) (hL:Zps F p0=some r):
 WR XX 36 #[.agg [.slice Zi p0.Zv.length Zh,.slice Zq p0.qK.length Zo,.slice Zk p0.qQ.length Zj,.slice Zp p0.qJ.length Zn,.slice Zm p0.qG.length Zl,.int .i64 p0.said].toArray] wm h (CP (fun(v:Value) (Gb:List (Ast wm))=>v= .int .i64 r∧Gb= []) [] h):=by
 refine bg Tryz.ntmps36 ZX Yd.nil ?_;intro T hT hS;unfold Zps at hL;refine r3 ?_;rintro _ h2 ⟨b1,eb1,rfl,hS⟩;refine r6 ?_;refine r1 ?_;obtain⟨x3,hx3,hL⟩:=bind_some hL;refine WO.cp gN rfl (Xg.fn ZLx (Zf lk Zy)) (WR.Qb rfl (ZH3 (Nat.le_refl _) (hS.Y0 ZA) (hS.Y0 ZM) (hS.Y0 ZL) (hS.Y0 ZN) (hS.Y0 ZK) hx3)) ?_;refine r3 ?_;obtain⟨x4,hx4,hL⟩:=Yq hL;refine WO.gcp (Zt.no rfl rfl rfl (Zz rfl fh)) rfl (fun hg=>(Xg.fn ZLw (Zf (YW fh rfl hg) Zy))) (fun hg=>ZH2 (hS.Y0 ZA) (hS.Y0 ZM) (hS.Y0 ZL) (hS.Y0 ZN) (hS.Y0 ZK) (hx4 hg)) ?_;refine r4 ?_;refine cn hL ?_ ?_
 ·intro hc hL;refine r6 ?_;refine r1 ?_;exact rt hL hT hS
 ·intro hc hL;refine r3 ?_;refine WC.Xw mixed Kq0 ?_;refine r4 ?_;obtain⟨z5,hz5,hL⟩:=bind_some hL;refine WX.hn gN rfl (Zwu (e:=XA) (x0:= (Yr.mk 0 false 0)) () hS ZhW Wp (ZDk) Zlx rfl rfl (Yt fh rfl) (Yt fh rfl) rfl trivial hz5) ?_ rfl;rintro _ h7 ⟨b6,c8,eb6,rfl,hS⟩;refine WX.w gN rfl (XT ZIM (ZG lk (ZG lk Yf)) rfl (cs':= (cG Zi p0.Zv.length Zh Zq p0.qK.length Zo Zk p0.qQ.length Zj Zp p0.qJ.length Zn Zm p0.qG.length Zl p0.said (some ⟨b6,0,none⟩) z5.length c8)) rfl) ?_ rfl;refine WX.hn gN rfl (ZD2 hS lk (vs:= (cG Zi p0.Zv.length Zh Zq p0.qK.length Zo Zk p0.qQ.length Zj Zp p0.qJ.length Zn Zm p0.qG.length Zl p0.said (some ⟨b6,0,none⟩) z5.length c8)) rfl) ?_ rfl;rintro _ h10 ⟨b9,eb9,rfl,hS⟩;refine r6 ?_;refine r1 ?_;obtain⟨XL,Zhe,hL⟩:=bind_some hL;refine WO.cl gN rfl (Xg.fn ZLv (Zf lk Zy)) hS (.c k0 (.c k0 .n)) (fun g' hz hf hO=>ZH0 (p0:= (ZV.mk p0 z5)) (by rw [hz];exact hS.hw) ((hS.sl ZA).mono hf) ((hS.sl ZM).mono hf) ((hS.sl ZL).mono hf) ((hS.sl ZN).mono hf) ((hS.sl ZK).mono hf) hO Zhe) ?_;rintro _ h30 _ ⟨a12,c14,a15,c17,a18,c20,a21,c23,a24,c26,a27,n28,c29,rfl,rfl⟩ hS;obtain rfl:=hS.on k6;refine r3 ?_;obtain⟨x32,hx32,hL⟩:=Yq hL;refine WO.gcp (Zt.no rfl rfl rfl (Zz rfl fh)) rfl (fun hg=>(Xg.fn ZLu (Zf (YW fh rfl hg) Zy))) (fun hg=>ZHZ (hS.atB k0) (.inl (hS.lt k0)) (hS.JG k1) (hS.JG k2) (hS.JG k3) (hS.JG k4) (hS.JG k5) (hS.ord k6) (hx32 hg)) ?_;refine r4 ?_;obtain⟨x33,ZQx,hL⟩:=Yq hL;refine WO.gcp (Zt.no rfl rfl rfl (Zz rfl fh)) rfl (fun hg=>(Xg.fn ZLt (Zf (YW fh rfl hg) Zy))) (fun hg=>ZHX (hS.atB k0) (.inl (hS.lt k0)) (hS.JG k1) (hS.JG k2) (hS.JG k3) (hS.JG k4) (hS.JG k5) (hS.ord k6) (ZQx hg)) ?_;refine r4 ?_;refine cn hL ?_ ?_
  ·intro hc hL;refine r6 ?_;refine r1 ?_;exact rt hL hT hS
  ·intro hc hL;refine XY ?_;refine WC.loop (WL.lift hL (fun(v40:Int) (s:Fs)=>∃ (Zrq:Fr) (h34:H),s= ⟨Zrq,[],h34,none⟩∧Sp wm T h [bx wm b1 (cW p0 Zi Zh Zq Zo Zk Zj Zp Zn Zm Zl),bx wm b9 (cG a12 XL.1.Za.Zv.length c14 a15 XL.1.Za.qK.length c17 a18 XL.1.Za.qQ.length c20 a21 XL.1.Za.qJ.length c23 a24 XL.1.Za.qG.length c26 XL.1.Za.said a27 XL.1.Y2.length c29),Ye wm (ZE (Zu .i64)) (a12,c14) XL.1.Za.Zv,Ye wm (ZE (ZE (Zu .i64))) (a15,c17) XL.1.Za.qK,Ye wm (ZE (ZE Zc)) (a18,c20) XL.1.Za.qQ,Ye wm (ZE (ZE Zg)) (a21,c23) XL.1.Za.qJ,Ye wm (ZE Zd) (a24,c26) XL.1.Za.qG,ow wm XA a27 XL.1.Y2.length c29 XL.1.Y2] h34∧Zrq.at 1= .pointer (some ⟨b1,0,none⟩)∧Zrq.at 3= .pointer (some ⟨b9,0,none⟩)∧Zrq.at 39= .slice Zm p0.qG.length Zl∧Zrq.at 40= .int .i64 (p0.qG.length:Int)∧Zrq.at 41= .int .i64 v40) ⟨_,_,rfl,hS.only (.c k7 (.c k0 (.c k0 (.c k0 (.c k0 (.c k0 (.c k0 (.c k0 .n)))))))),YH⟩ ?_);clear hL hS;rintro Zxe v40 s ZCh hL ⟨Zrq,h34,rfl,hS,e36,e37,e38,e39,e41⟩;dsimp only [Zju] at hL;refine r6 ?_;refine cn hL ?_ ?_
   ·intro hc hL;refine r6 ?_;obtain⟨x43,ZxE,hL⟩:=bind_some hL;obtain⟨b44,o45,⟨⟨a46,c47⟩,⟨a48,c49⟩⟩,Zyr,ZyY,ZMK,ZyE⟩:=Sl.at_ ZK ZxE;refine WO.w gN rfl (ZH JR Y6 lk lk rfl Zyr ZxE) ?_;have ZKW:Sl (Zu .i64) wm h a46 c47 x43.qV:=ZyE.1;have Zo0:Sl (Zu .i64) wm h a48 c49 x43.Yk:=ZyE.2;refine WO.w gN rfl (Xj ZaT Y6 (Yt fh rfl) (At.fz hS.fz ZMK ZyY) (j:=0) rfl rfl (ws:= (cL x43 a46 c47 a48 c49)) rfl) ?_;refine r1 ?_;rintro _ h51 ⟨b50,ZXP,rfl,hS⟩;refine r1 ?_;rintro h52 hS;refine r6 ?_;obtain⟨x53,ZQw,hL⟩:=bind_some hL;refine WO.cp gN rfl (Xg.fn ZLs (Zf lk (Zf lk Zy))) (WR.Qb rfl (ZHV (Nat.le_refl _) (hS.atB k2) (.inl (hS.lt k2)) (hS.JG k3) (hS.JG k4) (hS.JG k5) (hS.JG k6) (hS.JG k7) (hS.ord k8) (hS.Y0 ZKW) (hS.Y0 Zo0) ZQw)) ?_;refine r3 ?_;refine cn hL ?_ ?_
    ·intro hc hL;refine r8 ?_;refine r3 ?_;exact rt hL hT hS
    ·intro hc hL;refine r6 ?_;refine r1 ?_;exact Yh.Y7 (ZCh _ _ hL ⟨_,_,rfl,hS.only (.c k1 (.c k1 (.c k1 (.c k1 (.c k1 (.c k1 (.c k1 (.c k1 .n)))))))),YH⟩)
   ·intro hc hL;refine XY ?_;refine r3 ?_;refine WC.loop (WL.lift hL (fun(v59:Int) (s:Fs)=>∃ (Zdb:Fr) (h54:H),s= ⟨Zdb,[],h54,none⟩∧Sp wm T h [bx wm b9 (cG a12 XL.1.Za.Zv.length c14 a15 XL.1.Za.qK.length c17 a18 XL.1.Za.qQ.length c20 a21 XL.1.Za.qJ.length c23 a24 XL.1.Za.qG.length c26 XL.1.Za.said a27 XL.1.Y2.length c29),Ye wm (ZE (Zu .i64)) (a12,c14) XL.1.Za.Zv,Ye wm (ZE (ZE (Zu .i64))) (a15,c17) XL.1.Za.qK,Ye wm (ZE (ZE Zc)) (a18,c20) XL.1.Za.qQ,Ye wm (ZE (ZE Zg)) (a21,c23) XL.1.Za.qJ,Ye wm (ZE Zd) (a24,c26) XL.1.Za.qG,ow wm XA a27 XL.1.Y2.length c29 XL.1.Y2] h54∧Zdb.at 3= .pointer (some ⟨b9,0,none⟩)∧Zdb.at 51= .slice Zp p0.qJ.length Zn∧Zdb.at 52= .int .i64 (p0.qJ.length:Int)∧Zdb.at 53= .int .i64 v59) ⟨_,_,rfl,hS.only (.c k1 (.c k1 (.c k1 (.c k1 (.c k1 (.c k1 (.c k1 .n))))))),YH⟩ ?_);clear hL hS;rintro Zl4 v59 s ZCa hL ⟨Zdb,h54,rfl,hS,e56,e57,e58,e60⟩;dsimp only [Zf8] at hL;refine r6 ?_;refine cn hL ?_ ?_
    ·intro hc hL;refine r6 ?_;refine r1 ?_;obtain⟨x62,ZKs,hL⟩:=bind_some hL;obtain⟨b63,o64,⟨a65,c66⟩,ZLZ,ZM2,ZMA,ZMg⟩:=Sl.at_ ZN ZKs;refine WO.w gN rfl (ZH K9 Jl lk lk rfl ZLZ ZKs) ?_;have ZKT:Sl Zg wm h a65 c66 x62:=ZMg;refine WO.w gN rfl (ZW Zdw (Yt fh rfl) (At.fz hS.fz ZMA ZM2) (j:=0) rfl (v:= .slice a65 x62.length c66) rfl) ?_;refine XY ?_;refine WC.loop (WL.lift hL (fun(v76:Int) (s:Fs)=>∃ (Zkp:Fr) (h67:H),s= ⟨Zkp,[],h67,none⟩∧Sp wm T h [bx wm b9 (cG a12 XL.1.Za.Zv.length c14 a15 XL.1.Za.qK.length c17 a18 XL.1.Za.qQ.length c20 a21 XL.1.Za.qJ.length c23 a24 XL.1.Za.qG.length c26 XL.1.Za.said a27 XL.1.Y2.length c29),Ye wm (ZE (Zu .i64)) (a12,c14) XL.1.Za.Zv,Ye wm (ZE (ZE (Zu .i64))) (a15,c17) XL.1.Za.qK,Ye wm (ZE (ZE Zc)) (a18,c20) XL.1.Za.qQ,Ye wm (ZE (ZE Zg)) (a21,c23) XL.1.Za.qJ,Ye wm (ZE Zd) (a24,c26) XL.1.Za.qG,ow wm XA a27 XL.1.Y2.length c29 XL.1.Y2] h67∧Zkp.at 3= .pointer (some ⟨b9,0,none⟩)∧Zkp.at 6= .int .i64 v59∧Zkp.at 51= .slice Zp p0.qJ.length Zn∧Zkp.at 52= .int .i64 (p0.qJ.length:Int)∧Zkp.at 53= .int .i64 v59∧Zkp.at 58= .slice a65 x62.length c66∧Zkp.at 59= .int .i64 (x62.length:Int)∧Zkp.at 60= .int .i64 v76) ⟨_,_,rfl,hS.only (.c k0 (.c k0 (.c k0 (.c k0 (.c k0 (.c k0 (.c k0 .n))))))),YH⟩ ?_);clear hL hS;rintro Zw7 v76 s ZB5 hL ⟨Zkp,h67,rfl,hS,e69,e70,e71,e72,e73,e74,e75,e77⟩;dsimp only [Zf7] at hL;refine r6 ?_;refine cn hL ?_ ?_
     ·intro hc hL;refine r6 ?_;obtain⟨x79,ZKp,hL⟩:=bind_some hL;obtain⟨b80,o81,_,ZLV,ZMY,ZMw,ZTI⟩:=Sl.at_ ZKT ZKp;refine WO.w gN rfl (ZH Zbt Uz lk lk rfl ZLV ZKp) ?_;refine WO.w gN rfl (Xj Zlu Uz (Yt fh rfl) (At.fz hS.fz ZMw ZMY) (j:=0) rfl rfl (ws:= (cM x79)) rfl) ?_;refine r1 ?_;rintro _ h83 ⟨b82,ZXC,rfl,hS⟩;refine r1 ?_;rintro h84 hS;refine r3 ?_;refine WC.Xw mixed Kq0 ?_;refine r3 ?_;obtain⟨x85,ZQs,hL⟩:=bind_some hL;refine WX.cp gN rfl (Xg.fn ZEF (Zf lk (Zf lk (Zf lk Zy)))) (WR.Qb rfl (ZzB (Nat.le_refl _) (hS.atB k1) (.inl (hS.lt k1)) (hS.JG k2) (hS.JG k3) (hS.JG k4) (hS.JG k5) (hS.JG k6) (hS.ord k7) ZQs)) ?_ rfl rfl;refine r8 ?_;obtain⟨x86,ZKo,hL⟩:=Yq hL;obtain⟨b87,o88,_,hQ⟩:=Src.atG (fun hg=>(hS.QT k7)) ZKo;have ZLT:=fun hg=>(hQ hg).1
      have ZMW:=fun hg=>(hQ hg).2.1
      have ZTG:=fun hg=>(hQ hg).2.2
      refine WX.gv (Zt.no rfl rfl rfl (Y1 rfl (YB rfl fh))) rfl (fun hg=>(ZH ZhW Wp (YW (YB rfl fh) rfl hg) (YW fh rfl hg) rfl (ZLT hg) (ZKo hg))) ?_ rfl;refine WX.gv (Zt.no rfl rfl rfl (Y1 rfl (YB rfl (Zz rfl fh)))) rfl (fun hg=>(Xj Znw Wp (YW fh rfl hg) (ZMW hg) (j:=0) rfl rfl (ws:= [.int .i64 x86.machine,.bool x86.here,.int .i64 x86.age]) rfl)) ?_ rfl;refine r3 ?_;refine WX.gv (Zt.no rfl rfl rfl (YZ rfl (YB rfl (Zz rfl fh)))) rfl (fun hg=>(XT ZrV (ZG (YW (YB rfl fh) rfl hg) (ZG lk (ZG (YW fh rfl hg) Yf))) rfl (cs':= [.int .i64 v59,.bool false,.int .i64 x79.age]) rfl)) ?_ rfl;refine WX.gv (Zt.no rfl rfl rfl (YZ rfl (Y1 rfl fh))) rfl (fun hg=>(Uf (YW (Y1 rfl fh) rfl hg) (YW fh rfl hg) (Zp2 (xs:= [.int .i64 x86.machine,.bool x86.here,.int .i64 x86.age]) (ys:= [.int .i64 v59,.bool false,.int .i64 x79.age]) (ZIv x86 (Yr.mk v59 false x79.age)) rfl rfl))) ?_ rfl;refine r3 ?_;refine cn hL ?_ ?_
      ·intro hc hL;refine XY ?_;refine r3 ?_;exact rt hL hT hS
      ·intro hc hL;refine r6 ?_;refine r1 ?_;exact Yh.Y7 (ZB5 _ _ hL ⟨_,_,rfl,hS.only (.c k1 (.c k1 (.c k1 (.c k1 (.c k1 (.c k1 (.c k1 .n))))))),YH⟩)
     ·intro hc hL;refine r8 ?_;refine r2 ?_;exact Yh.Y7 (ZCa _ _ hL ⟨_,_,rfl,hS.only (.c k0 (.c k0 (.c k0 (.c k0 (.c k0 (.c k0 (.c k0 .n))))))),YH⟩)
    ·intro hc hL;refine r8 ?_;refine r3 ?_;exact rt hL hT hS
end Go.Proofs.YtbmbbcaaimehkaaGreat
end
end
section
namespace Go.Proofs.YtbmbbcaaimehkaaGreat
open Go.Lf
def Zpu (F:Nat) (p0:Zb) (p1:Zx):Option (Zb×(List ZI)×Int):=
 (Zps F p0).bind fun x7=>(gd (!(x7 !=0)) (Zu3 p0 p1) default).bind fun x8=>(bif((x7 !=0) || (!x8)) then some ((Zb.mk [] [] [] [] [] 0),[],2) else(Zu2 F p0 p1).bind fun x10=>(bif(x10 !=0) then some ((Zb.mk [] [] [] [] [] 0),[],x10) else(ZzL F p0).bind fun x12=>(ZzK F (Z6.mk x12 []) p1).bind fun x32=>some (x32.Za,x32.qX,0)))
end Go.Proofs.YtbmbbcaaimehkaaGreat
end
section
set_option maxRecDepth 20000
noncomputable section
namespace Go.Proofs.YtbmbbcaaimehkaaGreat
open Go.YG Go.Lf
theorem ZIq {F wm:Nat} {h:H} {p0:Zb} {p1:Zx} {Zi:Option Addr} {Zh:Nat} {Zq:Option Addr} {Zo:Nat} {Zk:Option Addr} {Zj:Nat} {Zp:Option Addr} {Zn:Nat} {Zm:Option Addr} {Zl:Nat} {r:(Zb×(List ZI)×Int)} (ZX:wm <=h.size) (ZA:Sl (Zu .i64) wm h Zi Zh p0.Zv) (ZM:Sl (ZE (Zu .i64)) wm h Zq Zo p0.qK) (ZL:Sl (ZE Zc) wm h Zk Zj p0.qQ) (ZN:Sl (ZE Zg) wm h Zp Zn p0.qJ) (ZK:Sl Zd wm h Zm Zl p0.qG) (hL:Zpu F p0 p1=some r):
 WR XX 20 #[.agg [.slice Zi p0.Zv.length Zh,.slice Zq p0.qK.length Zo,.slice Zk p0.qQ.length Zj,.slice Zp p0.qJ.length Zn,.slice Zm p0.qG.length Zl,.int .i64 p0.said].toArray,.agg [.int .i64 p1.act,.int .i64 p1.a,.int .i64 p1.b].toArray] wm h (CP (fun(v:Value) (Gb:List (Ast wm))=>∃ (Ql:Option Addr) (Qj:Nat) (Qk:Nat) (Zos:Option Addr) (Zof:Nat) (Zom:Nat) (ZlV:Nat ->Option Addr×Nat×Nat) (Zor:Option Addr) (Zoe:Nat) (Zol:Nat) (ZlU:Nat ->Option Addr×Nat×Nat) (Zoq:Option Addr) (Zod:Nat) (Zok:Nat) (ZlT:Nat ->Option Addr×Nat×Nat) (Zop:Option Addr) (Zoc:Nat) (Zoj:Nat) (ZD5:Option Addr) (ZD3:Nat) (ZD4:Nat),v= .tuple [.agg [.slice Ql Qj Qk,.slice Zos Zof Zom,.slice Zor Zoe Zol,.slice Zoq Zod Zok,.slice Zop Zoc Zoj,.int .i64 r.1.said].toArray,.slice ZD5 ZD3 ZD4,.int .i64 r.2.2].toArray∧Gb= [ow wm (Zu .i64) Ql Qj Qk r.1.Zv,Xb wm (Z5 (Zu .i64)) Zos Zof Zom ZlV r.1.qK,Xb wm (Z5 Zc) Zor Zoe Zol ZlU r.1.qQ,Xb wm (Z5 Zg) Zoq Zod Zok ZlT r.1.qJ,ow wm Zd Zop Zoc Zoj r.1.qG,ow wm ZP ZD5 ZD3 ZD4 r.2.1]) [] h):=by
 refine bg Tryz.ntmps20 ZX Yd.nil ?_;intro T hT hS;unfold Zpu at hL;refine r3 ?_;rintro _ h2 ⟨b1,eb1,rfl,hS⟩;refine r1 ?_;rintro _ h4 ⟨b3,eb3,rfl,hS⟩;refine r1 ?_;rintro _ h6 ⟨b5,eb5,rfl,hS⟩;refine r8 ?_;obtain⟨x7,hx7,hL⟩:=bind_some hL;refine WO.cp gN rfl (Xg.fn ZLG (Zf lk Zy)) (WR.Qb rfl (ZIh (Nat.le_refl _) (hS.Y0 ZA) (hS.Y0 ZM) (hS.Y0 ZL) (hS.Y0 ZN) (hS.Y0 ZK) hx7)) ?_;refine r4 ?_;obtain⟨x8,hx8,hL⟩:=Yq hL;refine WO.gcp (Zt.no rfl rfl rfl (YB rfl fh)) rfl (fun hg=>(Xg.fn ZLE (Zf (YW (Zz rfl fh) rfl hg) (Zf (YW fh rfl hg) Zy)))) (fun hg=>ZIf (hS.Y0 ZA) (hS.Y0 ZM) (hS.Y0 ZL) (hS.Y0 ZN) (hS.Y0 ZK) (hx8 hg)) ?_;refine r4 ?_;refine cn hL ?_ ?_
 ·intro hc hL;refine r2 ?_;refine WO.w gN rfl (XT ZAd Yf rfl (cs':= (cV none 0 0 none 0 0 none 0 0 none 0 0 none 0 0 0)) rfl) ?_;refine r1 ?_;rintro h9 hS;refine r6 ?_;have hS:=hS.nil (e:= (Zu .i64));have hS:=hS.Zl0 (e:= (Z5 (Zu .i64))) (ps:=fun _=>(Z5 (Zu .i64)).dflt);have hS:=hS.Zl0 (e:= (Z5 Zc)) (ps:=fun _=>(Z5 Zc).dflt);have hS:=hS.Zl0 (e:= (Z5 Zg)) (ps:=fun _=>(Z5 Zg).dflt);have hS:=hS.nil (e:=Zd);have hS:=hS.nil (e:=ZP);have hr:=Oi0 hL;subst hr;exact Yo.gen (vs:= [.agg [.slice none 0 0,.slice none 0 0,.slice none 0 0,.slice none 0 0,.slice none 0 0,.int .i64 0].toArray,.slice none 0 0,.int .i64 2]) rfl (Xf (YZ rfl (Y1 rfl (YB rfl fh))) (Kv ZpZ ZdD (hS.atB k6) (j:=0) rfl rfl (ws:= (cV none 0 0 none 0 0 none 0 0 none 0 0 none 0 0 0)) rfl) (ZU lk (ZU lk ZC))) rfl ⟨_,⟨none,0,0,none,0,0,(fun _=>(Z5 (Zu .i64)).dflt),none,0,0,(fun _=>(Z5 Zc).dflt),none,0,0,(fun _=>(Z5 Zg).dflt),none,0,0,none,0,0,rfl,rfl⟩,hT ▸ hS.only (.c k5 (.c k4 (.c k3 (.c k2 (.c k1 (.c k0 .n))))))⟩
 ·intro hc hL;refine r6 ?_;refine r1 ?_;obtain⟨x10,ZuJ,hL⟩:=bind_some hL;refine WO.cp gN rfl (Xg.fn ZLD (Zf lk (Zf lk Zy))) (ZId (hS.Y0 ZA) (hS.Y0 ZM) (hS.Y0 ZL) (hS.Y0 ZN) (hS.Y0 ZK) ZuJ) ?_;refine r8 ?_;refine r1 ?_;refine cn hL ?_ ?_
  ·intro hc hL;refine r2 ?_;refine WO.w gN rfl (XT ZAd Yf rfl (cs':= (cV none 0 0 none 0 0 none 0 0 none 0 0 none 0 0 0)) rfl) ?_;refine r2 ?_;rintro h11 hS;refine r6 ?_;have hS:=hS.nil (e:= (Zu .i64));have hS:=hS.Zl0 (e:= (Z5 (Zu .i64))) (ps:=fun _=>(Z5 (Zu .i64)).dflt);have hS:=hS.Zl0 (e:= (Z5 Zc)) (ps:=fun _=>(Z5 Zc).dflt);have hS:=hS.Zl0 (e:= (Z5 Zg)) (ps:=fun _=>(Z5 Zg).dflt);have hS:=hS.nil (e:=Zd);have hS:=hS.nil (e:=ZP);have hr:=Oi0 hL;subst hr;exact Yo.gen (vs:= [.agg [.slice none 0 0,.slice none 0 0,.slice none 0 0,.slice none 0 0,.slice none 0 0,.int .i64 0].toArray,.slice none 0 0,.int .i64 x10]) rfl (Xf (YZ rfl (YZ rfl (Y1 rfl (Zz rfl fh)))) (Kv ZpZ ZdD (hS.atB k6) (j:=0) rfl rfl (ws:= (cV none 0 0 none 0 0 none 0 0 none 0 0 none 0 0 0)) rfl) (ZU lk (ZU lk ZC))) rfl ⟨_,⟨none,0,0,none,0,0,(fun _=>(Z5 (Zu .i64)).dflt),none,0,0,(fun _=>(Z5 Zc).dflt),none,0,0,(fun _=>(Z5 Zg).dflt),none,0,0,none,0,0,rfl,rfl⟩,hT ▸ hS.only (.c k5 (.c k4 (.c k3 (.c k2 (.c k1 (.c k0 .n))))))⟩
  ·intro hc hL;refine r4 ?_;refine r1 ?_;obtain⟨x12,ZqX,hL⟩:=bind_some hL;refine WO.cl gN rfl (Xg.fn ZLC (Zf lk Zy)) hS .n (fun g' hz hf hO=>ZIb (by rw [hz];exact hS.hw) ((hS.sl ZA).mono hf) ((hS.sl ZM).mono hf) ((hS.sl ZL).mono hf) ((hS.sl ZN).mono hf) ((hS.sl ZK).mono hf) ZqX) ?_;rintro _ h28 _ ⟨a13,n14,c15,a16,n17,c18,ZTc,a19,n20,c21,ZD8,a22,n23,c24,ZD7,a25,n26,c27,rfl,rfl⟩ hS;obtain rfl:=hS.on k0;obtain rfl:=hS.Xm k1;obtain rfl:=hS.Xm k2;obtain rfl:=hS.Xm k3;obtain rfl:=hS.on k4;refine WO.w gN rfl (XT ZIN (ZG lk Yf) rfl (cs':= (cG a13 x12.Zv.length c15 a16 x12.qK.length c18 a19 x12.qQ.length c21 a22 x12.qJ.length c24 a25 x12.qG.length c27 x12.said none 0 0)) rfl) ?_;refine r1 ?_;rintro _ h31 ⟨b30,ZXW,rfl,hS⟩;refine r6 ?_;refine r1 ?_;obtain⟨x32,hx32,hL⟩:=bind_some hL;have hS:=hS.nil (e:=ZP);refine WO.cl gN rfl (Xg.fn ZLB (Zf lk (Zf lk Zy))) hS (.c k1 (.c k1 (.c k1 (.c k1 (.c k1 (.c k1 (.c k0 .n))))))) (fun g' hz hf hO=>ZIa (p0:= (Z6.mk x12 [])) (by rw [hz];exact hS.hw) hO hx32) ?_;rintro _ h51 _ ⟨a33,n34,c35,a36,n37,c38,ZwJ,a39,n40,c41,ZJS,a42,n43,c44,ZJR,a45,n46,c47,a48,n49,c50,rfl,rfl⟩ hS;obtain rfl:=hS.on k1;obtain rfl:=hS.Xm k2;obtain rfl:=hS.Xm k3;obtain rfl:=hS.Xm k4;obtain rfl:=hS.on k5;obtain rfl:=hS.on k6;refine r3 ?_;refine WC.Xw mixed Kq0 ?_;refine r6 ?_;refine r1 ?_;refine WX.wr (fun x=>x=b30) hS gN rfl (fun _ _ hR=>ZW ZE5 (Yt fh rfl) (At.eqv (hR b30 rfl) (hS.atB k0)) (j:=6) rfl (v:= .slice a48 x32.qX.length c50) rfl) ?_ rfl rfl;rintro h53 e54 hS;refine WX.hu gN (Za3 hS k7 ZdD lk lk (vs:= (cW x32.Za a33 c35 a36 c38 a39 c41 a42 c44 a45 c47)) rfl rfl rfl rfl (cs':= (cW x32.Za a33 c35 a36 c38 a39 c41 a42 c44 a45 c47)) rfl) ?_ rfl rfl [7] Kq0 (.c .z (hS.dj (.c k7 (.c k0 .n))) YO.e);rintro h55 hS;refine WX.w gN rfl (Zc7 lk) ?_ Kq0;refine WX.w gN rfl (Zc7 lk) ?_ Kq0;refine r3 ?_;have hr:=Oi0 hL;subst hr;exact Yo.gen (vs:= [.agg [.slice a33 x32.Za.Zv.length c35,.slice a36 x32.Za.qK.length c38,.slice a39 x32.Za.qQ.length c41,.slice a42 x32.Za.qJ.length c44,.slice a45 x32.Za.qG.length c47,.int .i64 x32.Za.said].toArray,.slice a48 x32.qX.length c50,.int .i64 0]) rfl (Xf (YZ rfl (YZ rfl (YZ rfl (YZ rfl (YB rfl (Zz rfl fh)))))) (Kv ZpZ ZdD (hS.atB k0) (j:=0) rfl rfl (ws:= (cW x32.Za a33 c35 a36 c38 a39 c41 a42 c44 a45 c47)) rfl) (ZU lk (ZU lk ZC))) rfl ⟨_,⟨a33,x32.Za.Zv.length,c35,a36,x32.Za.qK.length,c38,ZwJ,a39,x32.Za.qQ.length,c41,ZJS,a42,x32.Za.qJ.length,c44,ZJR,a45,x32.Za.qG.length,c47,a48,x32.qX.length,c50,rfl,rfl⟩,hT ▸ hS.only (.c k2 (.c k2 (.c k2 (.c k2 (.c k2 (.c k2 .n))))))⟩
end Go.Proofs.YtbmbbcaaimehkaaGreat
end
end
section
namespace Go.Proofs.YtbmbbcaaimehkaaGreat
open Go.Lf
def Zlj (v15:Int) (Qy:(Int×(List Int)×(List (List Int))×(List (List Zw))×(List (List Zr))×(List Ze)×Int×(List (Int×Int))×(List (Int×Bool)) ->Option Bool)):(List Int)×(List (List Int))×(List (List Zw))×(List (List Zr))×(List Ze)×Int×(List (Int×Int))×(List (Int×Bool)) ->Option Bool:=fun(v43,v46,v49,v52,v55,v58,v59,v60)=>
 Qy (Xa (v15 + 1),v43,v46,v49,v52,v55,v58,v59,v60)
def Zlg (ZhU:Int) (ZcQ:(Int ->Option Bool)):Unit ->Option Bool:=fun _=>
 ZcQ (Xa (ZhU + 1))
def Ztr (F:Nat) (v15:Int) (Qy:(Int×(List Int)×(List (List Int))×(List (List Zw))×(List (List Zr))×(List Ze)×Int×(List (Int×Int))×(List (Int×Bool)) ->Option Bool)) (Ky:(Zb×(List ZI)×Int)) (Zek:(List (Int×Int))) (Zej:(List (Int×Bool))):Int ->(Int ->Option Bool) ->Option Bool:=fun ZhU ZcQ=>
 (bif decide (ZhU < (Ky.2.1.length:Int)) then(ZQ Ky.2.1 ZhU).bind fun Zc9=>(bif(Zc9.deed !=1) then(Zlg ZhU ZcQ) () else(Zu5 Zc9.place (Ky.1.Zv.length:Int)).bind fun x153=>(bif(!x153) then some false else(ZwU Zek Zc9.n 0).bind fun ZtT=>(ZzO F Ky.1 Zc9.place).bind fun Zg7=>(gd (ZtT.2 && (!(decide (Zc9.hops > (Xa ((Xa (1 + Zg7.2.2)) - ZtT.1)))))) (ZFK Zej Zc9.n false) default).bind fun Zee=>(bif(ZtT.2 && ((decide (Zc9.hops > (Xa ((Xa (1 + Zg7.2.2)) - ZtT.1)))) || (Zee != (Zc9.hops==0)))) then some false else(Zlg ZhU ZcQ) ()))) else(Zlj v15 Qy) (Ky.1.Zv,Ky.1.qK,Ky.1.qQ,Ky.1.qJ,Ky.1.qG,Ky.1.said,Zek,Zej))
def Zlh (F:Nat) (v15:Int) (Qy:(Int×(List Int)×(List (List Int))×(List (List Zw))×(List (List Zr))×(List Ze)×Int×(List (Int×Int))×(List (Int×Bool)) ->Option Bool)) (Ky:(Zb×(List ZI)×Int)):(List (Int×Int))×(List (Int×Bool)) ->Option Bool:=fun(Zek,Zej)=>
 loop F (Ztr F v15 Qy Ky Zek Zej) 0
def Zli (F:Nat) (p1:(List Zx)) (v15:Int) (v17:(List Int)) (v20:(List (List Int))) (v23:(List (List Zw))) (v26:(List (List Zr))) (v29:(List Ze)) (v32:Int) (v33:(List (Int×Int))) (v34:(List (Int×Bool))) (Qy:(Int×(List Int)×(List (List Int))×(List (List Zw))×(List (List Zr))×(List Ze)×Int×(List (Int×Int))×(List (Int×Bool)) ->Option Bool)):Int×Int×Int ->Option Bool:=fun(v72,v73,v74)=>
 (Zpu F (Zb.mk v17 v20 v23 v26 v29 v32) (Zx.mk v72 v73 v74)).bind fun Ky=>(bif(Ky.2.2 !=0) then(bif decide (v15 >= (p1.length:Int)) then some false else(Zlj v15 Qy) (v17,v20,v23,v26,v29,v32,v33,v34)) else(Zpt F Ky.1).bind fun ZJs=>(bif(((!ZJs) || ((Ky.1.Zv.length:Int) != (v17.length:Int))) || ((Ky.1.qQ.length:Int) != (v23.length:Int))) then some false else(bif(v72==1) then(Zu6 (Zb.mk v17 v20 v23 v26 v29 v32) (Zx.mk v72 v73 v74)).bind fun x158=>(bif(!x158) then some false else(ZQ v23 v73).bind fun ZBg=>(ZQ ZBg v74).bind fun ZBf=>(ZQ v23 v73).bind fun ZBe=>(ZQ ZBe v74).bind fun ZnJ=>(Zlh F v15 Qy Ky) (Uw (Zhd v33 v32 0) v32 ZBf.age,Uw (Zhd v34 v32 false) v32 ZnJ.here)) else(Zlh F v15 Qy Ky) (v33,v34))))
def Zts (F:Nat) (p1:(List Zx)):Int×(List Int)×(List (List Int))×(List (List Zw))×(List (List Zr))×(List Ze)×Int×(List (Int×Int))×(List (Int×Bool)) ->(Int×(List Int)×(List (List Int))×(List (List Zw))×(List (List Zr))×(List Ze)×Int×(List (Int×Int))×(List (Int×Bool)) ->Option Bool) ->Option Bool:=fun(v15,v17,v20,v23,v26,v29,v32,v33,v34) Qy=>
 (bif((decide (v15 < (p1.length:Int))) || ((decide ((v29.length:Int) > 0)) && (decide (v15 < 3000)))) then(bif decide (v15 < (p1.length:Int)) then(ZQ p1 v15).bind fun ZvX=>(Zli F p1 v15 v17 v20 v23 v26 v29 v32 v33 v34 Qy) (ZvX.act,ZvX.a,ZvX.b) else(Zli F p1 v15 v17 v20 v23 v26 v29 v32 v33 v34 Qy) (5,0,0)) else(gd ((v29.length:Int)==0) (ZIs) default).bind fun ZJq=>some (((v29.length:Int)==0) && ZJq))
def f7L (F:Nat) (p0:Zb) (p1:(List Zx)):Option Bool:=
 (ZzP F p0 p1 []).bind fun x3=>(bif(!x3) then(ZIs).bind fun x4=>some x4 else loop F (Zts F p1) (0,p0.Zv,p0.qK,p0.qQ,p0.qJ,p0.qG,p0.said,[],[]))
end Go.Proofs.YtbmbbcaaimehkaaGreat
end
section
set_option maxRecDepth 20000
noncomputable section
namespace Go.Proofs.YtbmbbcaaimehkaaGreat
open Go.YG Go.Lf
theorem ZNz {F wm:Nat} {h:H} {p0:Zb} {p1:(List Zx)} {Zi:Option Addr} {Zh:Nat} {Zq:Option Addr} {Zo:Nat} {Zk:Option Addr} {Zj:Nat} {Zp:Option Addr} {Zn:Nat} {Zm:Option Addr} {Zl:Nat} {Q8:Option Addr} {Q7:Nat} {r:Bool} (ZX:wm <=h.size) (ZA:Sl (Zu .i64) wm h Zi Zh p0.Zv) (ZM:Sl (ZE (Zu .i64)) wm h Zq Zo p0.qK) (ZL:Sl (ZE Zc) wm h Zk Zj p0.qQ) (ZN:Sl (ZE Zg) wm h Zp Zn p0.qJ) (ZK:Sl Zd wm h Zm Zl p0.qG) (Zam:Sl KH wm h Q8 Q7 p1) (hL:f7L F p0 p1=some r):
 WR XX 7 #[.agg [.slice Zi p0.Zv.length Zh,.slice Zq p0.qK.length Zo,.slice Zk p0.qQ.length Zj,.slice Zp p0.qJ.length Zn,.slice Zm p0.qG.length Zl,.int .i64 p0.said].toArray,.slice Q8 p1.length Q7] wm h (CP (fun(v:Value) (Gb:List (Ast wm))=>v= .bool r∧Gb= []) [] h):=by
 refine bg Tryz.ntmps7 ZX Yd.nil ?_;intro T hT hS;unfold f7L at hL;refine r3 ?_;rintro _ h2 ⟨b1,eb1,rfl,hS⟩;refine r8 ?_;obtain⟨x3,hx3,hL⟩:=bind_some hL;refine WO.cp gN rfl (Xg.fn ZLK (Zf lk (Zf lk (Zf lk Zy)))) (WR.Qb rfl (ZIm (Nat.le_refl _) (hS.Y0 ZA) (hS.Y0 ZM) (hS.Y0 ZL) (hS.Y0 ZN) (hS.Y0 ZK) (hS.Y0 Zam) Sl.nil hx3)) ?_;refine r3 ?_;refine cn hL ?_ ?_
 ·intro hc hL;refine r2 ?_;obtain⟨x4,hx4,hL⟩:=bind_some hL;refine WO.cp gN rfl (Xg.fn ZEJ Zy) (ZzS hx4) ?_;refine r4 ?_;refine r1 ?_;exact rt hL hT hS
 ·intro hc hL;refine r4 ?_;refine WO.hn gN rfl (Zwv (Value.int .i64) (Value.int .i64) hS) ?_;rintro _ h5 ⟨b6,eb6,rfl,hS⟩;refine r4 ?_;refine r1 ?_;refine WO.hn gN rfl (Zwv (Value.int .i64) Value.bool hS) ?_;rintro _ h7 ⟨b8,eb8,rfl,hS⟩;refine r8 ?_;refine r2 ?_;have hS:=hS.add (A:=Ye wm (ZE (Zu .i64)) (Zi,Zh) p0.Zv) (hS.sl ZA) (fun _ z=>z);have hS:=hS.add (A:=Ye wm (ZE (ZE (Zu .i64))) (Zq,Zo) p0.qK) (hS.sl ZM) (fun _ z=>z);have hS:=hS.add (A:=Ye wm (ZE (ZE Zc)) (Zk,Zj) p0.qQ) (hS.sl ZL) (fun _ z=>z);have hS:=hS.add (A:=Ye wm (ZE (ZE Zg)) (Zp,Zn) p0.qJ) (hS.sl ZN) (fun _ z=>z);have hS:=hS.add (A:=Ye wm (ZE Zd) (Zm,Zl) p0.qG) (hS.sl ZK) (fun _ z=>z);refine WC.loop (WL.lift hL (fun(p:Int×(List Int)×(List (List Int))×(List (List Zw))×(List (List Zr))×(List Ze)×Int×(List (Int×Int))×(List (Int×Bool))) (s:Fs)=>match p with | (v15,v17,v20,v23,v26,v29,v32,v33,v34)=>∃ (Zru:Fr) (h9:H) (a18:Option Addr) (c19:Nat) (a21:Option Addr) (c22:Nat) (a24:Option Addr) (c25:Nat) (a27:Option Addr) (c28:Nat) (a30:Option Addr) (c31:Nat),s= ⟨Zru,[],h9,none⟩∧Sp wm T h [Ye wm (ZE (Zu .i64)) (a18,c19) v17,Ye wm (ZE (ZE (Zu .i64))) (a21,c22) v20,Ye wm (ZE (ZE Zc)) (a24,c25) v23,Ye wm (ZE (ZE Zg)) (a27,c28) v26,Ye wm (ZE Zd) (a30,c31) v29,bx wm b1 (cV a18 v17.length c19 a21 v20.length c22 a24 v23.length c25 a27 v26.length c28 a30 v29.length c31 v32),mp wm (Value.int .i64) (Value.int .i64) (some b6) v33,mp wm (Value.int .i64) Value.bool (some b8) v34] h9∧Zru.at 1= .slice Q8 p1.length Q7∧Zru.at 2= .pointer (some ⟨b1,0,none⟩)∧Zru.at 5= .map (some b6)∧Zru.at 6= .map (some b8)∧Zru.at 7= .int .i64 v15) ⟨_,_,Zi,Zh,Zq,Zo,Zk,Zj,Zp,Zn,Zm,Zl,rfl,hS.only (.c k4 (.c k3 (.c k2 (.c k1 (.c k0 (.c k2 (.c k1 (.c k0 .n)))))))),YH⟩ ?_);clear hL hS;rintro Qy ⟨v15,v17,v20,v23,v26,v29,v32,v33,v34⟩ s Zmp hL ⟨Zru,h9,a18,c19,a21,c22,a24,c25,a27,c28,a30,c31,rfl,hS,e11,e12,e13,e14,e16⟩;dsimp only [Zts] at hL;refine XY ?_;refine r3 ?_;refine WO.gv (Zt.no rfl rfl rfl (Y1 rfl (YB rfl (Zz rfl fh)))) rfl (fun hg=>(Zgv (YW (YB rfl fh) rfl hg) (Zds fh hg) lk)) ?_;refine r3 ?_;refine cn hL ?_ ?_
  ·intro hc hL;refine r2 ?_;refine WC.Za2 (r:=r) (fun(p:(List Int)×(List (List Int))×(List (List Zw))×(List (List Zr))×(List Ze)×Int×(List (Int×Int))×(List (Int×Bool))) (s:Fs)=>match p with | (v43,v46,v49,v52,v55,v58,v59,v60)=>∃ (Zrp:Fr) (h36:H) (a44:Option Addr) (c45:Nat) (a47:Option Addr) (c48:Nat) (a50:Option Addr) (c51:Nat) (a53:Option Addr) (c54:Nat) (a56:Option Addr) (c57:Nat),s= ⟨Zrp,[],h36,none⟩∧Sp wm T h [Ye wm (ZE (Zu .i64)) (a44,c45) v43,Ye wm (ZE (ZE (Zu .i64))) (a47,c48) v46,Ye wm (ZE (ZE Zc)) (a50,c51) v49,Ye wm (ZE (ZE Zg)) (a53,c54) v52,Ye wm (ZE Zd) (a56,c57) v55,bx wm b1 (cV a44 v43.length c45 a47 v46.length c48 a50 v49.length c51 a53 v52.length c54 a56 v55.length c57 v58),mp wm (Value.int .i64) (Value.int .i64) (some b6) v59,mp wm (Value.int .i64) Value.bool (some b8) v60] h36∧Zrp.at 1= .slice Q8 p1.length Q7∧Zrp.at 2= .pointer (some ⟨b1,0,none⟩)∧Zrp.at 5= .map (some b6)∧Zrp.at 6= .map (some b8)∧Zrp.at 7= .int .i64 v15) (Zlj v15 Qy) ?_ ?_
   ·clear hL hS;rintro⟨v43,v46,v49,v52,v55,v58,v59,v60⟩ s hL ⟨Zrp,h36,a44,c45,a47,c48,a50,c51,a53,c54,a56,c57,rfl,hS,e38,e39,e40,e41,e42⟩;dsimp only [Zlj] at hL;refine r4 ?_;refine r1 ?_;exact Yh.Y7 (Zmp _ _ hL ⟨_,_,a44,c45,a47,c48,a50,c51,a53,c54,a56,c57,rfl,hS.only (.c k0 (.c k0 (.c k0 (.c k0 (.c k0 (.c k0 (.c k0 (.c k0 .n)))))))),YH⟩)
   ·skip;refine r3 ?_;refine WO.w gN rfl (XT ZOe (ZG lk Yf) rfl (cs':= [.int .i64 5,.int .i64 0,.int .i64 0]) rfl) ?_;refine r1 ?_;rintro _ h62 ⟨b61,ZXL,rfl,hS⟩;refine r1 ?_;rintro h63 hS;refine r2 ?_;refine WC.Za2 (r:=r) (fun(p:Int×Int×Int) (s:Fs)=>match p with | (v72,v73,v74)=>∃ (ZbC:Fr) (h64:H),s= ⟨ZbC,[],h64,none⟩∧Sp wm T h [bx wm b1 (cV a18 v17.length c19 a21 v20.length c22 a24 v23.length c25 a27 v26.length c28 a30 v29.length c31 v32),bx wm b61 [.int .i64 v72,.int .i64 v73,.int .i64 v74],mp wm (Value.int .i64) (Value.int .i64) (some b6) v33,mp wm (Value.int .i64) Value.bool (some b8) v34,Ye wm (ZE (Zu .i64)) (a18,c19) v17,Ye wm (ZE (ZE (Zu .i64))) (a21,c22) v20,Ye wm (ZE (ZE Zc)) (a24,c25) v23,Ye wm (ZE (ZE Zg)) (a27,c28) v26,Ye wm (ZE Zd) (a30,c31) v29] h64∧ZbC.at 1= .slice Q8 p1.length Q7∧ZbC.at 2= .pointer (some ⟨b1,0,none⟩)∧ZbC.at 5= .map (some b6)∧ZbC.at 6= .map (some b8)∧ZbC.at 7= .int .i64 v15∧ZbC.at 8= .pointer (some ⟨b61,0,none⟩)) (Zli F p1 v15 v17 v20 v23 v26 v29 v32 v33 v34 Qy) ?_ ?_
    ·clear hL hS;rintro⟨v72,v73,v74⟩ s hL ⟨ZbC,h64,rfl,hS,e66,e67,e68,e69,e70,e71⟩;dsimp only [Zli] at hL;refine r4 ?_;obtain⟨Ky,ZQt,hL⟩:=bind_some hL;refine WO.cl gN rfl (Xg.fn ZLM (Zf lk (Zf lk Zy))) hS .n (fun g' hz hf hO=>ZIq (p0:= (Zb.mk v17 v20 v23 v26 v29 v32)) (p1:= (Zx.mk v72 v73 v74)) (by rw [hz];exact hS.hw) ((hS.fsl k4).mono hf) ((hS.fsl k5).mono hf) ((hS.fsl k6).mono hf) ((hS.fsl k7).mono hf) ((hS.fsl k8).mono hf) ZQt) ?_;rintro _ h94 _ ⟨a76,n77,c78,a79,n80,c81,ZTb,a82,n83,c84,ZTa,a85,n86,c87,ZS9,a88,n89,c90,a91,n92,c93,rfl,rfl⟩ hS;simp only [List.cons_append,List.nil_append] at hS;obtain rfl:=hS.on k0;obtain rfl:=hS.Xm k1;obtain rfl:=hS.Xm k2;obtain rfl:=hS.Xm k3;obtain rfl:=hS.on k4;obtain rfl:=hS.on k5;refine WO.fzn hS k0 ?_;rintro h96 ⟨ZWf,hS⟩;refine WO.ZHF hS k1 ?_;rintro h98 ⟨ZWe,hS⟩;refine WO.ZHF hS k2 ?_;rintro ZXr ⟨ZTy,hS⟩;refine WO.ZHF hS k3 ?_;rintro ZNy ⟨ZTx,hS⟩;refine WO.fzn hS k4 ?_;rintro ZHD ⟨ZTw,hS⟩;refine WO.fzn hS k5 ?_;rintro Zy7 ⟨ZTv,hS⟩;refine r4 ?_;refine r1 ?_;rintro _ ZXp ⟨ZrX,ZUB,rfl,hS⟩;refine r1 ?_;rintro ZRU hS;refine r8 ?_;refine r3 ?_;refine cn hL ?_ ?_
     ·intro hc hL;refine r8 ?_;refine r1 ?_;refine cn hL ?_ ?_
      ·intro hc hL;refine r8 ?_;refine r1 ?_;refine YT.ret ?_;refine r3 ?_;exact rt hL hT hS
      ·intro hc hL;refine r4 ?_;refine r1 ?_;exact YT.Y7 _ hL ⟨_,_,a18,c19,a21,c22,a24,c25,a27,c28,a30,c31,rfl,hS.only (.c k11 (.c k11 (.c k11 (.c k11 (.c k11 (.c k7 (.c k8 (.c k8 .n)))))))),YH⟩
     ·intro hc hL;refine r6 ?_;obtain⟨ZJs,ZKJ,hL⟩:=bind_some hL;refine WO.cp gN rfl (Xg.fn ZEI (Zf lk Zy)) (ZzQ (hS.JG k6) (hS.JG k5) (hS.JG k4) (hS.JG k3) (hS.JG k2) ZKJ) ?_;refine r16 ?_;refine r4 ?_;refine r1 ?_;refine cn hL ?_ ?_
      ·intro hc hL;refine r8 ?_;refine YT.ret ?_;refine r3 ?_;exact rt hL hT hS
      ·intro hc hL;refine r2 ?_;refine WC.Za2 (r:=r) (fun(p:(List (Int×Int))×(List (Int×Bool))) (s:Fs)=>match p with | (Zek,Zej)=>∃ (Qq:Fr) (h112:H),s= ⟨Qq,[],h112,none⟩∧Sp wm T h [bx wm b1 (cV a18 v17.length c19 a21 v20.length c22 a24 v23.length c25 a27 v26.length c28 a30 v29.length c31 v32),bx wm ZrX (cW Ky.1 a76 c78 a79 c81 a82 c84 a85 c87 a88 c90),mp wm (Value.int .i64) (Value.int .i64) (some b6) Zek,mp wm (Value.int .i64) Value.bool (some b8) Zej,Ye wm (ZE ZP) (a91,c93) Ky.2.1,Ye wm (ZE (Zu .i64)) (a18,c19) v17,Ye wm (ZE (ZE (Zu .i64))) (a21,c22) v20,Ye wm (ZE (ZE Zc)) (a24,c25) v23,Ye wm (ZE (ZE Zg)) (a27,c28) v26,Ye wm (ZE Zd) (a30,c31) v29,Ye wm (ZE (Zu .i64)) (a76,c78) Ky.1.Zv,Ye wm (ZE (ZE (Zu .i64))) (a79,c81) Ky.1.qK,Ye wm (ZE (ZE Zc)) (a82,c84) Ky.1.qQ,Ye wm (ZE (ZE Zg)) (a85,c87) Ky.1.qJ,Ye wm (ZE Zd) (a88,c90) Ky.1.qG] h112∧Qq.at 1= .slice Q8 p1.length Q7∧Qq.at 2= .pointer (some ⟨b1,0,none⟩)∧Qq.at 5= .map (some b6)∧Qq.at 6= .map (some b8)∧Qq.at 7= .int .i64 v15∧Qq.at 9= .pointer (some ⟨ZrX,0,none⟩)∧Qq.at 10= .slice a91 Ky.2.1.length c93) (Zlh F v15 Qy Ky) ?_ ?_
       ·clear hL hS;rintro⟨Zek,Zej⟩ s hL ⟨Qq,h112,rfl,hS,ZC5,e115,e116,e117,e118,e119,e120⟩;dsimp only [Zlh] at hL;refine r8 ?_;refine r1 ?_;refine WC.loop (WL.lift hL (fun(ZhU:Int) (s:Fs)=>∃ (Zck:Fr) (ZCt:H),s= ⟨Zck,[],ZCt,none⟩∧Sp wm T h [bx wm b1 (cV a18 v17.length c19 a21 v20.length c22 a24 v23.length c25 a27 v26.length c28 a30 v29.length c31 v32),bx wm ZrX (cW Ky.1 a76 c78 a79 c81 a82 c84 a85 c87 a88 c90),mp wm (Value.int .i64) (Value.int .i64) (some b6) Zek,mp wm (Value.int .i64) Value.bool (some b8) Zej,Ye wm (ZE ZP) (a91,c93) Ky.2.1,Ye wm (ZE (Zu .i64)) (a18,c19) v17,Ye wm (ZE (ZE (Zu .i64))) (a21,c22) v20,Ye wm (ZE (ZE Zc)) (a24,c25) v23,Ye wm (ZE (ZE Zg)) (a27,c28) v26,Ye wm (ZE Zd) (a30,c31) v29,Ye wm (ZE (Zu .i64)) (a76,c78) Ky.1.Zv,Ye wm (ZE (ZE (Zu .i64))) (a79,c81) Ky.1.qK,Ye wm (ZE (ZE Zc)) (a82,c84) Ky.1.qQ,Ye wm (ZE (ZE Zg)) (a85,c87) Ky.1.qJ,Ye wm (ZE Zd) (a88,c90) Ky.1.qG] ZCt∧Zck.at 1= .slice Q8 p1.length Q7∧Zck.at 2= .pointer (some ⟨b1,0,none⟩)∧Zck.at 5= .map (some b6)∧Zck.at 6= .map (some b8)∧Zck.at 7= .int .i64 v15∧Zck.at 9= .pointer (some ⟨ZrX,0,none⟩)∧Zck.at 124= .slice a91 Ky.2.1.length c93∧Zck.at 125= .int .i64 (Ky.2.1.length:Int)∧Zck.at 126= .int .i64 ZhU) ⟨_,_,rfl,hS.only (.c k0 (.c k0 (.c k0 (.c k0 (.c k0 (.c k0 (.c k0 (.c k0 (.c k0 (.c k0 (.c k0 (.c k0 (.c k0 (.c k0 (.c k0 .n))))))))))))))),YH⟩ ?_);clear hL hS;rintro ZcQ ZhU s Zx0 hL ⟨Zck,ZCt,rfl,hS,e125,e126,e127,e128,e129,ZYG,ZYF,ZSk,ZSj⟩;dsimp only [Ztr] at hL;refine r6 ?_;refine cn hL ?_ ?_
        ·intro hc hL;refine r2 ?_;refine WC.Za2 (r:=r) (fun(_:Unit) (s:Fs)=>∃ (UL:Fr) (Zpi:H),s= ⟨UL,[],Zpi,none⟩∧Sp wm T h [bx wm b1 (cV a18 v17.length c19 a21 v20.length c22 a24 v23.length c25 a27 v26.length c28 a30 v29.length c31 v32),bx wm ZrX (cW Ky.1 a76 c78 a79 c81 a82 c84 a85 c87 a88 c90),mp wm (Value.int .i64) (Value.int .i64) (some b6) Zek,mp wm (Value.int .i64) Value.bool (some b8) Zej,Ye wm (ZE ZP) (a91,c93) Ky.2.1,Ye wm (ZE (Zu .i64)) (a18,c19) v17,Ye wm (ZE (ZE (Zu .i64))) (a21,c22) v20,Ye wm (ZE (ZE Zc)) (a24,c25) v23,Ye wm (ZE (ZE Zg)) (a27,c28) v26,Ye wm (ZE Zd) (a30,c31) v29,Ye wm (ZE (Zu .i64)) (a76,c78) Ky.1.Zv,Ye wm (ZE (ZE (Zu .i64))) (a79,c81) Ky.1.qK,Ye wm (ZE (ZE Zc)) (a82,c84) Ky.1.qQ,Ye wm (ZE (ZE Zg)) (a85,c87) Ky.1.qJ,Ye wm (ZE Zd) (a88,c90) Ky.1.qG] Zpi∧UL.at 1= .slice Q8 p1.length Q7∧UL.at 2= .pointer (some ⟨b1,0,none⟩)∧UL.at 5= .map (some b6)∧UL.at 6= .map (some b8)∧UL.at 7= .int .i64 v15∧UL.at 9= .pointer (some ⟨ZrX,0,none⟩)∧UL.at 124= .slice a91 Ky.2.1.length c93∧UL.at 125= .int .i64 (Ky.2.1.length:Int)∧UL.at 126= .int .i64 ZhU) (Zlg ZhU ZcQ) ?_ ?_
         ·clear hL hS;rintro _ s hL ⟨UL,Zpi,rfl,hS,e138,ZSi,ZSh,ZSg,ZYC,e143,ZSf,ZSe,ZSd⟩;dsimp only [Zlg] at hL;refine r4 ?_;exact Yh.Y7 (Zx0 _ _ hL ⟨_,_,rfl,hS.only (.c k0 (.c k0 (.c k0 (.c k0 (.c k0 (.c k0 (.c k0 (.c k0 (.c k0 (.c k0 (.c k0 (.c k0 (.c k0 (.c k0 (.c k0 .n))))))))))))))),YH⟩)
         ·skip;refine r3 ?_;obtain⟨Zc9,ZEm,hL⟩:=bind_some hL;obtain⟨ZZA,ZVL,_,ZGB,ZHo,ZRD,ZRm⟩:=Sl.at_ (hS.fsl k4) ZEm;refine WO.w gN rfl (ZH ZnW Zfy lk lk rfl ZGB ZEm) ?_;refine WO.w gN rfl (Xj ZE4 Zfy (Yt fh rfl) ZHo (j:=0) rfl rfl (ws:= [.int .i64 Zc9.deed,.int .i64 Zc9.place,.int .i64 Zc9.at_,.int .i64 Zc9.n,.int .i64 Zc9.hops]) rfl) ?_;refine r1 ?_;rintro _ ZXj ⟨ZZz,ZUt,rfl,hS⟩;refine r1 ?_;rintro ZXi hS;refine r8 ?_;refine r2 ?_;refine cn hL ?_ ?_
          ·intro hc hL;refine r3 ?_;exact YT.Y7 _ hL ⟨_,_,rfl,hS.only (.c k1 (.c k1 (.c k1 (.c k1 (.c k1 (.c k1 (.c k1 (.c k1 (.c k1 (.c k1 (.c k1 (.c k1 (.c k1 (.c k1 (.c k1 .n))))))))))))))),YH⟩
          ·intro hc hL;refine r8 ?_;refine r2 ?_;obtain⟨x153,hx153,hL⟩:=bind_some hL;refine WO.cp gN rfl (Xg.fn ZLJ (Zf lk (Zf lk Zy))) (ZIl hx153) ?_;refine r3 ?_;refine cn hL ?_ ?_
           ·intro hc hL;refine r8 ?_;refine YT.ret ?_;refine r4 ?_;refine YT.ret ?_;refine r3 ?_;exact rt hL hT hS
           ·intro hc hL;refine r6 ?_;refine r1 ?_;obtain⟨ZtT,ZKG,hL⟩:=bind_some hL;refine WO.w gN rfl (ZAi (kv:= (Value.int .i64)) (vv:= (Value.int .i64)) (k:=Zc9.n) (z:=0) ZBP ZDU Zbs (Yt (YB rfl fh) rfl) (Yt fh rfl) (hS.get k3).at_ ZKG (w:= .int .i64 ZtT.1) rfl) ?_;refine XY ?_;obtain⟨Zg7,ZoV,hL⟩:=bind_some hL;refine WO.cp gN rfl (Xg.fn ZLI (Zf lk (Zf lk Zy))) (WR.Qb rfl (ZIj (Nat.le_refl _) (hS.JG k11) (hS.JG k12) (hS.JG k13) (hS.JG k14) (hS.JG k15) ZoV)) ?_;refine r16 ?_;refine r8 ?_;obtain⟨Zee,Zs4,hL⟩:=Yq hL;refine WO.gv (Zt.no2 rfl rfl rfl (YB rfl (Zz rfl fh))) rfl (fun hg=>(ZhI (kv:= (Value.int .i64)) (vv:=Value.bool) (k:=Zc9.n) (z:=false) ZBP ZDT Zsm (YW (YB rfl fh) rfl hg) (YW fh rfl hg) (hS.get k4).at_ (Zs4 hg) (w:= .bool Zee) rfl)) ?_;refine r3 ?_;refine WO.gv (Zt.no2 rfl rfl rfl (Y1 rfl (YB rfl (Zz rfl fh)))) rfl (fun hg=>(Uf (YW (YB rfl (Zz rfl fh)) rfl hg) (YW fh rfl hg) (ZaV Zwa))) ?_;refine WO.gv (Zt.yes rfl rfl rfl (YZ rfl (YZ rfl fh))) rfl (fun hg=>(Zlr (YW (YZ rfl fh) rfl hg) lk (Zds fh hg))) ?_;refine r3 ?_;refine cn hL ?_ ?_
            ·intro hc hL;refine r6 ?_;refine r1 ?_;refine YT.ret ?_;refine r4 ?_;refine YT.ret ?_;refine r3 ?_;exact rt hL hT hS
            ·intro hc hL;refine r2 ?_;exact YT.Y7 _ hL ⟨_,_,rfl,hS.only (.c k1 (.c k1 (.c k1 (.c k1 (.c k1 (.c k1 (.c k1 (.c k1 (.c k1 (.c k1 (.c k1 (.c k1 (.c k1 (.c k1 (.c k1 .n))))))))))))))),YH⟩
        ·intro hc hL;refine r8 ?_;rintro ZXh hS;refine r2 ?_;exact YT.Y7 _ hL ⟨_,_,a76,c78,a79,c81,a82,c84,a85,c87,a88,c90,rfl,hS.only (.c k10 (.c k10 (.c k10 (.c k10 (.c k10 (.c k0 (.c k1 (.c k1 .n)))))))),YH⟩
       ·skip;refine r6 ?_;refine r1 ?_;refine cn hL ?_ ?_
        ·intro hc hL;refine r4 ?_;refine r1 ?_;obtain⟨x158,hx158,hL⟩:=bind_some hL;refine WO.cp gN rfl (Xg.fn ZLL (Zf lk (Zf lk Zy))) (ZIo (p0:= (Zb.mk v17 v20 v23 v26 v29 v32)) (p1:= (Zx.mk v72 v73 v74)) (hS.JG k11) (hS.JG k12) (hS.JG k13) (hS.JG k14) (hS.JG k15) hx158) ?_;refine r3 ?_;refine cn hL ?_ ?_
         ·intro hc hL;refine r6 ?_;refine r1 ?_;refine YT.ret ?_;refine r1 ?_;refine YT.ret ?_;refine r3 ?_;exact rt hL hT hS
         ·intro hc hL;refine r2 ?_;refine WC.Xw mixed Kq0 ?_;refine r4 ?_;refine r1 ?_;refine WX.wr (fun x=>x=b1) hS gN rfl (fun _ _ hR=>ZW Xr (Yt fh rfl) (At.eqv (hR b1 rfl) (hS.atB k7)) (j:=5) rfl (v:= .int .i64 v32) rfl) ?_ rfl rfl;rintro ZHB ZYw hS;refine r1 ?_;refine WX.wr (fun x=>x=b1) hS gN rfl (fun _ _ hR=>ZW Zp0 (Yt fh rfl) (At.eqv (hR b1 rfl) (hS.atB k7)) (j:=2) rfl (v:= .slice a24 v23.length c25) rfl) ?_ rfl rfl;rintro ZXg ZYv hS;refine r1 ?_;refine WX.wr (fun x=>x=b61) hS gN rfl (fun _ _ hR=>ZW Xr (Yt fh rfl) (At.eqv (hR b61 rfl) (hS.atB k8)) (j:=1) rfl (v:= .int .i64 v73) rfl) ?_ rfl rfl;rintro ZRO ZYu hS;obtain⟨ZBg,ZxK,hL⟩:=bind_some hL;obtain⟨ZOn,ZVI,⟨a168,Zz9⟩,Zyz,ZHm,ZRC,ZGP⟩:=Sl.at_ (hS.fsl k13) ZxK;refine WX.w gN rfl (ZH Uj QG lk lk rfl Zyz ZxK) ?_ rfl;have hS:=hS.add (A:=Ye wm (ZE Zc) (a168,Zz9) ZBg) ZGP (fun _ z=>z);refine WX.wr (fun x=>x=ZOn) hS gN rfl (fun _ _ hR=>ZW UQ (Yt fh rfl) (At.eqv (hR ZOn rfl) ZHm) (j:=0) rfl (v:= .slice a168 ZBg.length Zz9) rfl) ?_ rfl rfl;rintro Zy6 ZYt hS;refine r1 ?_;refine WX.wr (fun x=>x=b61) hS gN rfl (fun _ _ hR=>ZW Xr (Yt fh rfl) (At.eqv (hR b61 rfl) (hS.atB k9)) (j:=2) rfl (v:= .int .i64 v74) rfl) ?_ rfl rfl;rintro ZXb ZSc hS;obtain⟨ZBf,ZxJ,hL⟩:=bind_some hL;obtain⟨ZOm,ZVH,_,Zyx,ZHl,ZRB,ZRk⟩:=Sl.at_ (hS.fsl k0) ZxJ;refine WX.w gN rfl (ZH Ui Xt lk lk rfl Zyx ZxJ) ?_ rfl;refine r1 ?_;refine WX.wr (fun x=>x=ZOm) hS gN rfl (fun _ _ hR=>ZW Xr (Yt fh rfl) (At.eqv (hR ZOm rfl) ZHl) (j:=2) rfl (v:= .int .i64 ZBf.age) rfl) ?_ rfl rfl;rintro ZXa ZSb hS;refine r4 ?_;obtain⟨ZBe,ZEl,hL⟩:=bind_some hL;obtain⟨ZZx,ZVF,⟨a182,c183⟩,ZGz,ZHk,ZRA,ZGO⟩:=Sl.at_ (hS.fsl k14) ZEl;refine WX.w gN rfl (ZH Uj QG lk lk rfl ZGz ZEl) ?_ rfl;have hS:=hS.add (A:=Ye wm (ZE Zc) (a182,c183) ZBe) ZGO (fun _ z=>z);refine WX.w gN rfl (ZW UQ (Yt fh rfl) ZHk (j:=0) rfl (v:= .slice a182 ZBe.length c183) rfl) ?_ rfl;refine r2 ?_;obtain⟨ZnJ,ZoT,hL⟩:=bind_some hL;obtain⟨ZSH,ZP5,_,Zq7,Zrc,ZRz,ZGN⟩:=Sl.at_ (hS.fsl k0) ZoT;refine WX.w gN rfl (ZH Ui Xt lk lk rfl Zq7 ZoT) ?_ rfl;refine r1 ?_;refine WX.w gN rfl (ZW Zr6 (Yt fh rfl) Zrc (j:=0) rfl (v:= .bool ZnJ.here) rfl) ?_ rfl;refine WX.hv gN rfl (ZD1 (kv:= (Value.int .i64)) (vv:= (Value.int .i64)) (k:=v32) (z:=0) hS k11 ZBP ZDU Zbs lk lk) ?_ rfl rfl [5,7,9,11,13,16] Kq0 (.c (.s (.s (.s (.s (.s .z))))) (fun x hx=>(hS.dj (.c k11 (.c k9 .n))) x (congrArg some hx.symm)) (.c (.s (.s (.s (.s .z)))) (fun x hx=>(hS.dj (.c k11 (.c k9 .n))) x (congrArg some hx.symm)) (.c (.s (.s (.s .z))) (fun x hx=>(hS.dj (.c k11 (.c k10 .n))) x (congrArg some hx.symm)) (.c (.s (.s .z)) (fun x hx=>(hS.djF k11 (Sl.ZDX (hS.fsl k15) Zyz ZxK)) x (congrArg some hx.symm)) (.c (.s .z) (fun x hx=>(hS.dj (.c k11 (.c k10 .n))) x (congrArg some hx.symm)) (.c .z (fun x hx=>(hS.djF k11 (Sl.ZDX (hS.fsl k1) Zyx ZxJ)) x (congrArg some hx.symm)) YO.e))))));rintro _ ZW9 ⟨ZOl,rfl,hS⟩;refine WX.w gN rfl (Zd1 lk (v:= .int .i64 (ZOl:Nat)) rfl) ?_ Kq0;refine WX.hu gN (ZD0 (kv:= (Value.int .i64)) (vv:= (Value.int .i64)) (v:=ZBf.age) hS k0 (Yt (YZ rfl (YZ rfl (YZ rfl (Y1 rfl (Zz rfl fh))))) rfl) (Yt fh rfl) (Yt (YZ rfl (Y1 rfl (Zz rfl fh))) rfl)) ?_ rfl Kq0 [5] Kq0 (.c (.s (.s (.s (.s (.s .z))))) (hS.dj (.c k0 (.c k9 .n))) YO.e);rintro ZW7 hS;refine WX.hv gN rfl (ZD1 (kv:= (Value.int .i64)) (vv:=Value.bool) (k:=v32) (z:=false) hS k12 ZBP ZDT Zsm lk lk) ?_ rfl Kq0 [] Kq0 YO.e;rintro _ ZNt ⟨ZSG,rfl,hS⟩;refine WX.w gN rfl (Zd1 lk (v:= .int .i64 (ZSG:Nat)) rfl) ?_ Kq0;refine WX.hu gN (ZD0 (kv:= (Value.int .i64)) (vv:=Value.bool) (v:=ZnJ.here) hS k0 (Yt (YZ rfl (YZ rfl (YZ rfl (Y1 rfl fh)))) rfl) (Yt fh rfl) (Yt (Y1 rfl fh) rfl)) ?_ rfl Kq0 [] Kq0 YO.e;rintro ZW6 hS;refine r1 ?_;exact YT.Y7 _ hL ⟨_,_,rfl,hS.only (.c k11 (.c k4 (.c k1 (.c k0 (.c k2 (.c k8 (.c k8 (.c k8 (.c k8 (.c k8 (.c k6 (.c k5 (.c k4 (.c k3 (.c k2 .n))))))))))))))),YH⟩
        ·intro hc hL;refine r1 ?_;exact YT.Y7 _ hL ⟨_,_,rfl,hS.only (.c k7 (.c k0 (.c k7 (.c k7 (.c k0 (.c k6 (.c k6 (.c k6 (.c k6 (.c k6 (.c k4 (.c k3 (.c k2 (.c k1 (.c k0 .n))))))))))))))),YH⟩
    ·skip;refine r8 ?_;refine cn hL ?_ ?_
     ·intro hc hL;refine r3 ?_;obtain⟨ZvX,ZEj,hL⟩:=bind_some hL;obtain⟨ZZu,ZVC,_,ZGx,ZHh,ZGV,ZRh⟩:=Sl.at_ Zam ZEj;refine WO.w gN rfl (ZH ZDV Zqy lk lk rfl ZGx ZEj) ?_;refine WO.w gN rfl (Xj ZE6 Zqy (Yt fh rfl) (At.fz hS.fz ZGV ZHh) (j:=0) rfl rfl (ws:= (cS ZvX)) rfl) ?_;refine r1 ?_;rintro ZRM hS;refine r1 ?_;exact YT.Y7 _ hL ⟨_,_,rfl,hS.only (.c k6 (.c k0 (.c k5 (.c k5 (.c k0 (.c k0 (.c k0 (.c k0 (.c k0 .n))))))))),YH⟩
     ·intro hc hL;refine r1 ?_;exact YT.Y7 _ hL ⟨_,_,rfl,hS.only (.c k6 (.c k0 (.c k5 (.c k5 (.c k0 (.c k0 (.c k0 (.c k0 (.c k0 .n))))))))),YH⟩
  ·intro hc hL;refine XY ?_;obtain⟨ZJq,ZKE,hL⟩:=Yq hL;refine WO.gcp (Zt.yes rfl rfl rfl fh) rfl (fun hg=>(Xg.fn ZEJ Zy)) (fun hg=>ZzS (ZKE hg)) ?_;refine r4 ?_;refine r1 ?_;exact rt hL hT hS
theorem ZNA {F:Nat} {h:H} {p0:Zb} {p1:(List Zx)} {Zi:Option Addr} {Zh:Nat} {Zq:Option Addr} {Zo:Nat} {Zk:Option Addr} {Zj:Nat} {Zp:Option Addr} {Zn:Nat} {Zm:Option Addr} {Zl:Nat} {Q8:Option Addr} {Q7:Nat} {r:Bool} (ZA:Sl (Zu .i64) h.size h Zi Zh p0.Zv) (ZM:Sl (ZE (Zu .i64)) h.size h Zq Zo p0.qK) (ZL:Sl (ZE Zc) h.size h Zk Zj p0.qQ) (ZN:Sl (ZE Zg) h.size h Zp Zn p0.qJ) (ZK:Sl Zd h.size h Zm Zl p0.qG) (Zam:Sl KH h.size h Q8 Q7 p1) (hL:f7L F p0 p1=some r):Pure XX 7 #[.agg [.slice Zi p0.Zv.length Zh,.slice Zq p0.qK.length Zo,.slice Zk p0.qQ.length Zj,.slice Zp p0.qJ.length Zn,.slice Zm p0.qG.length Zl,.int .i64 p0.said].toArray,.slice Q8 p1.length Q7] h (.bool r):=
 WR.Qb rfl (ZNz (Nat.le_refl _) ZA ZM ZL ZN ZK Zam hL)
end Go.Proofs.YtbmbbcaaimehkaaGreat
end
end
section
namespace Go.Proofs.YtbmbbcaaimehkaaGreat
open Go.Lf
end Go.Proofs.YtbmbbcaaimehkaaGreat
end
section
set_option maxRecDepth 20000
noncomputable section
namespace Go.Proofs.YtbmbbcaaimehkaaGreat
open Go.YG Go.Lf
end Go.Proofs.YtbmbbcaaimehkaaGreat
end
end
section
end
section
namespace Go.Lf
theorem Zv4 {k:Nat} (h:k < 4611686018427387904):Xa ((k:Int) + 1)= ((k + 1:Nat):Int):=by
 rw [Zah (by omega) (by omega)];rfl
theorem Zv5 {k:Nat} (h:k < 4611686018427387904) (h0:0 < k):Xa ((k:Int) - 1)= ((k - 1:Nat):Int):=by
 rw [Zah (by omega) (by omega)];omega
theorem Znu {α:Type} {Ji:Nat} {xs ys:List α} (h:xs.length + ys.length <=1000000) (hb:Ji <=1000):app Ji xs ys=some (xs ++ ys):=
 Zr2 (Nat.le_trans (Nat.mul_le_mul (show 2 * (xs.length + ys.length) + 1000 <=2001000 by omega) hb) (by decide))
def iter {α β σ:Type} (g:Nat ->α ->σ ->(σ ->Option β) ->Option β) (d:σ ->Option β):Nat ->List α ->σ ->Option β
 | _,[],s=>d s
 | i,x::l,s=>g i x s (fun s'=>iter g d (i + 1) l s')
end Go.Lf
end
section
namespace Go.Proofs.YtbmbbcaaimehkaaGreat
open Go.Lf
section
variable {β γ:Type}
theorem ZfK {body:γ ->(γ ->Option β) ->Option β} {r:Option β} (S:Nat ->γ) {n F:Nat} (hF:n < F) (hb:∀ k,k < n ->∀ next,body (S k) next=next (S (k + 1))) (he:∀ next,body (S n) next=r):loop F body (S 0)=r:=by
 have:∀ j F,j <=n ->n - j < F ->loop F body (S j)=r:=by
  intro j F hj hF;obtain⟨d,hd⟩:∃ d,d=n - j:= ⟨_,rfl⟩
  induction d generalizing j F with
  | zero=>
    have:j=n:=by omega
    subst this;cases F with
    | zero=>omega
    | succ F=>rw [ZcT];exact he _
  | succ d ih=>
    cases F with
    | zero=>omega
    | succ F=>rw [ZcT,hb j (by omega)];exact ih (j + 1) F (by omega) (by omega) (by omega)
 exact this 0 F (Nat.zero_le _) (by omega)
theorem ZoG {body:γ ->(γ ->Option β) ->Option β} {r1 r2:Option β} (S:Nat ->γ) (c:Nat ->Bool) {n F:Nat} (hF:n < F) (hb:∀ k,k < n ->∀ next,body (S k) next=bif c k then r1 else next (S (k + 1))) (he:∀ next,body (S n) next=r2):loop F body (S 0)=bif(List.range n).any c then r1 else r2:=by
 cases h:(List.range n).any c with
 | false=>
   rw [List.any_eq_false] at h;refine ZfK S hF (fun k hk next=>?_) he;have:=h k (List.mem_range.2 hk);rw [hb k hk,Bool.eq_false_iff.2 this];rfl
 | true=>
   have hex:∃ k,k < n∧c k=true:=by
    obtain⟨k,h1,h2⟩:=List.any_eq_true.1 h;exact⟨k,List.mem_range.1 h1,h2⟩
   have hm:∃ m,(m < n∧c m=true)∧∀ k,k < m ->c k=false:=by
    obtain⟨k,hk⟩:=hex
    induction k using Nat.strongRecOn with
    | _ k ih=>
      by_cases hz:∃ j,j < k∧c j=true
      ·obtain⟨j,h1,h2⟩:=hz;exact ih j h1 ⟨by omega,h2⟩
      ·exact⟨k,hk,fun j hj=>Bool.eq_false_iff.2 fun q=>hz ⟨j,hj,q⟩⟩
   obtain⟨m,⟨h1,h2⟩,h3⟩:=hm;refine ZfK S (n:=m) (by omega) (fun k hk next=>?_) (fun next=>?_)
   ·rw [hb k (by omega),h3 k hk];rfl
   ·rw [hb m h1,h2];rfl
end
theorem YD {k:Nat} (h:k < 4611686018427387904):Xa ((k:Int) + 1)= ((k + 1:Nat):Int):=Zv4 h
theorem ZO {k n:Nat} (h:k < n):decide ((k:Int) < (n:Int))=true:=decide_eq_true (by omega)
theorem ZT (n:Nat):decide ((n:Int) < (n:Int))=false:=decide_eq_false (by omega)
theorem XI {α:Type} {l:List α} {k:Nat} (h:k < l.length):ZQ l (k:Int)=some l[k]:=by rw [ZiV,List.getElem?_eq_getElem h]
theorem app1 {α:Type} {b:Nat} {l:List α} {x:α} (h:l.length <=900000) (hb:b <=1000):app b l [x]=some (l ++ [x]):=Znu (by simp;omega) hb
theorem QE {α:Type} [BEq α] [LawfulBEq α] (a:α):(a !=a)=false:=by simp
end Go.Proofs.YtbmbbcaaimehkaaGreat
end
section
namespace Go.Proofs.YtbmbbcaaimehkaaGreat
open Go.Lf
structure WM (n:Nat) (w:Zb):Prop where
 Zv:w.Zv.length < n
 qK:w.qK.length < n
 qQ:w.qQ.length < n
 qJ:w.qJ.length < n
 qG:w.qG.length < n
 box:∀ l ∈ w.qK,l.length < n
 row:∀ l ∈ w.qQ,l.length < n
 hel:∀ l ∈ w.qJ,l.length < n
 Xd:∀ x ∈ w.qG,x.qV.length < n∧x.Yk.length < n
theorem WM.mono {n m:Nat} {w:Zb} (h:WM n w) (hm:n <=m):WM m w:=
 ⟨Nat.lt_of_lt_of_le h.Zv hm,Nat.lt_of_lt_of_le h.qK hm,Nat.lt_of_lt_of_le h.qQ hm,Nat.lt_of_lt_of_le h.qJ hm,Nat.lt_of_lt_of_le h.qG hm,fun l q=>Nat.lt_of_lt_of_le (h.box l q) hm,fun l q=>Nat.lt_of_lt_of_le (h.row l q) hm,fun l q=>Nat.lt_of_lt_of_le (h.hel l q) hm,fun x q=>⟨Nat.lt_of_lt_of_le (h.Xd x q).1 hm,Nat.lt_of_lt_of_le (h.Xd x q).2 hm⟩⟩
abbrev ZzV:Zb:= ⟨[],[],[],[],[],0⟩
theorem ZkI {α:Type} (l:List α) (c:α ->Bool) (d:α):(List.range l.length).any (fun k=>c (l.getD k d))=l.any c:=by
 rw [Bool.eq_iff_iff,List.any_eq_true,List.any_eq_true]
 constructor
 ·rintro⟨k,h1,h2⟩;have hk:=List.mem_range.1 h1;rw [List.getD_eq_getElem?_getD,List.getElem?_eq_getElem hk] at h2;exact⟨_,List.getElem_mem hk,h2⟩
 ·rintro⟨x,h1,h2⟩;obtain⟨k,hk,rfl⟩:=List.getElem_of_mem h1;exact⟨k,List.mem_range.2 hk,by rw [List.getD_eq_getElem?_getD,List.getElem?_eq_getElem hk];exact h2⟩
theorem Yp {β γ:Type} {body:γ ->(γ ->Option β) ->Option β} {r:Option β} {s0:γ} (S:Nat ->γ) (h0:S 0=s0) {n F:Nat} (hF:n < F) (hb:∀ k,k < n ->∀ next,body (S k) next=next (S (k + 1))) (he:∀ next,body (S n) next=r):loop F body s0=r:=h0 ▸ ZfK S hF hb he
def row (w:Zb) (m:Nat):List Zw:=w.qQ.getD m []
def E (w:Zb) (m p:Nat):Zw:= (row w m).getD p default
structure WN (w:Zb):Prop where
 m1:1 <=w.qQ.length
 m2:w.qQ.length <=5
 p1:1 <=w.Zv.length
 p2:w.Zv.length <=8
 bx:w.qK.length=w.Zv.length
 hd:w.qJ.length=w.qQ.length
 rw_:∀ l ∈ w.qQ,l.length=w.Zv.length
theorem Yj {α:Type} {l:List α} {k:Nat} {d:α} (h:k < l.length):l.getD k d ∈ l:=by
 rw [List.getD_eq_getElem?_getD,List.getElem?_eq_getElem h];exact List.getElem_mem h
theorem YM {α:Type} {l:List α} {k:Nat} (d:α) (h:k < l.length):ZQ l (k:Int)=some (l.getD k d):=by
 rw [XI h,List.getD_eq_getElem?_getD,List.getElem?_eq_getElem h];rfl
theorem WN.row {w:Zb} (s:WN w) {m:Nat} (h:m < w.qQ.length):ZQ w.qQ (m:Int)=some (row w m):=YM [] h
theorem WN.len {w:Zb} (s:WN w) {m:Nat} (h:m < w.qQ.length):(Proofs.YtbmbbcaaimehkaaGreat.row w m).length=w.Zv.length:=s.rw_ _ (Yj h)
theorem WN.ent {w:Zb} (s:WN w) {m p:Nat} (h:m < w.qQ.length) (hp:p < w.Zv.length):ZQ (Proofs.YtbmbbcaaimehkaaGreat.row w m) (p:Int)=some (E w m p):=YM default (by rw [s.len h];exact hp)
def Xe (w:Zb) (p k:Nat):List Yr:= (List.range k).filterMap fun m=>if(E w m p).here then some ⟨(m:Int),true,(E w m p).age⟩ else none
def Wy (x:Ze) (p j:Nat):List Yr:= (List.range j).filterMap fun i=>if x.qV.getD i 0= (p:Int) then some ⟨x.Z9,false,x.Yk.getD i 0⟩ else none
def WQ (x:Ze) (p:Nat):List Yr:=if x.kind=2 then Wy x p x.qV.length else []
def X3 (l:List Ze) (p:Nat):List Yr:=l.flatMap fun x=>WQ x p
def YC (w:Zb) (p:Nat):List Yr:=Xe w p w.qQ.length ++ X3 w.qG p
def WZ (l:List Yr):Yr:=l.getLastD ⟨0,false,0⟩
theorem Zix (l:List Yr) (x:Yr):WZ (l ++ [x])=x:=by unfold WZ;simp
theorem Zzh {α β:Type} (f:α ->Option β) (a:α): [a].filterMap f= (f a).toList:=by
 cases h:f a <;> simp [List.filterMap_cons,h]
theorem JF (w:Zb) (p k:Nat):Xe w p (k + 1)=Xe w p k ++ (if(E w k p).here then [⟨(k:Int),true,(E w k p).age⟩] else []):=by
 unfold Xe;rw [List.range_succ,List.filterMap_append,Zzh];congr 1;by_cases h:(E w k p).here=true
 ·rw [if_pos h,if_pos h];rfl
 ·rw [if_neg h,if_neg h];rfl
theorem Zfs (x:Ze) (p j:Nat):Wy x p (j + 1)=Wy x p j ++ (if x.qV.getD j 0= (p:Int) then [⟨x.Z9,false,x.Yk.getD j 0⟩] else []):=by
 unfold Wy;rw [List.range_succ,List.filterMap_append,Zzh];congr 1;by_cases h:x.qV.getD j 0= (p:Int)
 ·rw [if_pos h,if_pos h];rfl
 ·rw [if_neg h,if_neg h];rfl
theorem ZtY {l:List Ze} {k:Nat} (h:k < l.length) (p:Nat):X3 (l.take (k + 1)) p=X3 (l.take k) p ++ WQ l[k] p:=by
 unfold X3;rw [List.take_add_one,List.getElem?_eq_getElem h,List.flatMap_append];simp
theorem ZcW (w:Zb) (p k:Nat):(Xe w p k).length <=k:=by
 have:=List.length_filterMap_le (fun m=>if(E w m p).here then some (⟨(m:Int),true,(E w m p).age⟩:Yr) else none) (List.range k);unfold Xe;rw [List.length_range] at this;exact this
theorem Zeh (x:Ze) (p j:Nat):(Wy x p j).length <=j:=by
 have:=List.length_filterMap_le (fun i=>if x.qV.getD i 0= (p:Int) then some (⟨x.Z9,false,x.Yk.getD i 0⟩:Yr) else none) (List.range j);unfold Wy;rw [List.length_range] at this;exact this
def Mvd (n:Nat) (l:List Ze):Prop:=∀ x ∈ l,x.kind=2 ->x.Yk.length=x.qV.length∧x.qV.length <=n
theorem Zv3 {n:Nat} {l:List Ze} (h:Mvd n l) (p:Nat):(X3 l p).length <=n * l.length:=by
 induction l with
 | nil=>simp [X3]
 | cons x l ih=>
   have:=ih fun y hy=>h y (by simp [hy])
   have hx:(WQ x p).length <=n:=by
    unfold WQ;by_cases hk:x.kind=2
    ·rw [if_pos hk];exact Nat.le_trans (Zeh _ _ _) (h x (by simp) hk).2
    ·rw [if_neg hk];simp
   unfold X3 at this ⊢;rw [List.flatMap_cons,List.length_append,List.length_cons,Nat.mul_succ];omega
theorem QZ (a b:Int):(a !=b)=decide (a ≠ b):=by
 by_cases h:a=b <;> simp [h]
theorem Yg (a b:Int):(a==b)=decide (a=b):=by
 by_cases h:a=b <;> simp [h]
theorem ZaQ {α:Type} (c:Prop) [Decidable c] (a b:α):(bif decide c then a else b)=if c then a else b:=by
 by_cases h:c <;> simp [h]
def stP (l:List Yr) (k:Nat):Int×Int×Int×Bool×Int:= ((l.length:Int),(k:Int),(WZ l).machine,(WZ l).here,(WZ l).age)
theorem Zuv (l:List Yr):Yr.mk (WZ l).machine (WZ l).here (WZ l).age=WZ l:=rfl
theorem ZhR {F:Nat} (hF:1000 <=F) (hM:F <=1000000) {w:Zb} (s:WN w) (hv:Mvd 900 w.qG) (hw:w.qG.length < 900) {p:Nat} (hp:p < w.Zv.length):
 ZdR F w (p:Int)=some (WZ (YC w p),((YC w p).length:Int)):=by
 have h0:=s.m2;have hh:=ZcW w p w.qQ.length
 have hlen:∀ k,k <=w.qG.length ->(X3 (w.qG.take k) p).length <=900 * 900:=fun k hk=>by
  have:=Zv3 (l:=w.qG.take k) (fun x hx=>hv x (List.mem_of_mem_take hx)) p;rw [List.length_take] at this;exact Nat.le_trans this (by apply Nat.mul_le_mul (Nat.le_refl _);omega)
 have h1:loop F (Zje F w (p:Int)) (stP (Xe w p w.qQ.length) 0)=some (WZ (YC w p),((YC w p).length:Int)):=by
  refine Yp (fun k=>stP (Xe w p w.qQ.length ++ X3 (w.qG.take k) p) k) (by simp [X3]) (n:=w.qG.length) (by omega) (fun k hk next=>?_) (fun next=>?_)
  ·have hl:=hlen k (by omega);have hx:w.qG[k] ∈ w.qG:=List.getElem_mem hk;rw [ZtY hk];unfold Zje stP;dsimp only;rw [ZO hk,Cq1,XI hk];simp only [Bq0];rw [QZ,ZaQ];by_cases hk2:w.qG[k].kind=2
   ·rw [if_neg (fun q=>q hk2)];obtain⟨v1,v2⟩:=hv _ hx hk2;have hwk:WQ w.qG[k] p=Wy w.qG[k] p w.qG[k].qV.length:=by unfold WQ;rw [if_pos hk2]
    rw [hwk];have hll:(Xe w p w.qQ.length ++ X3 (w.qG.take k) p).length <=5 + 900 * 900:=by rw [List.length_append];omega
    rw [← List.append_assoc];generalize Xe w p w.qQ.length ++ X3 (w.qG.take k) p=l at hll ⊢;refine Yp (fun j=>stP (l ++ Wy w.qG[k] p j) j) (by simp [Wy,stP]) (n:=w.qG[k].qV.length) (by omega) (fun j hj Zxg=>?_) (fun Zxg=>?_)
    ·have hl2:=Zeh w.qG[k] p j;rw [Zfs];unfold ZmQ stP;dsimp only;rw [ZO hj,Cq1,YM 0 hj,YM 0 (show j < w.qG[k].Yk.length by omega)];simp only [Bq0];rw [Yg,ZaQ];unfold Zjc;dsimp only;by_cases hq:w.qG[k].qV.getD j 0= (p:Int)
     ·rw [if_pos hq,if_pos hq,YD (by rw [List.length_append];omega),YD (by omega),← List.append_assoc,Zix];simp [Int.add_assoc]
     ·rw [if_neg hq,if_neg hq,YD (by omega),List.append_nil]
    ·unfold ZmQ stP;dsimp only;rw [ZT,Cq0];unfold Zf2;dsimp only;rw [YD (by omega)]
   ·rw [if_pos hk2];have hwk:WQ w.qG[k] p= []:=by unfold WQ;rw [if_neg hk2]
    rw [hwk,List.append_nil];unfold Zf2;dsimp only;rw [YD (by omega)]
  ·unfold Zje stP;dsimp only;rw [ZT,Cq0,List.take_of_length_le (Nat.le_refl _),Zuv];rfl
 unfold ZdR;refine Yp (fun k=>stP (Xe w p k) k) (by rfl) (n:=w.qQ.length) (by omega) (fun k hk next=>?_) (fun next=>?_)
 ·unfold ZmR stP;dsimp only;rw [ZO hk,Cq1,s.row hk];simp only [Bq0];rw [s.ent hk hp];simp only [Bq0];have hl:=ZcW w p k;rw [JF];unfold Zjd;dsimp only;cases hE:(E w k p).here with
  | true=>
    simp only [Cq1,if_true];rw [YD (by omega),YD (by omega),Zix];simp
  | false=>
    simp only [Cq0];rw [YD (by omega)];simp
 ·unfold ZmR;dsimp only [stP];rw [ZT];exact h1
def inn (w:Zb) (q:Int):Int:=w.Zv.getD q.toNat 0
def up (w:Zb):Nat ->Int ->Int
 | 0,q=>q
 | k + 1,q=>if q < 0 then q else up w k (inn w q)
theorem ZlI {w:Zb} {q:Int} (h:q < 0) (k:Nat):up w k q=q:=by
 cases k with
 | zero=>rfl
 | succ k=>show(if q < 0 then q else _)=q;rw [if_pos h]
theorem QD (w:Zb) (k:Nat) (q:Int):up w (k + 1) q=if up w k q < 0 then up w k q else inn w (up w k q):=by
 induction k generalizing q with
 | zero=>rfl
 | succ k ih=>
   show(if q < 0 then q else up w (k + 1) (inn w q))=_;by_cases h:q < 0
   ·rw [if_pos h,ZlI h,if_pos h]
   ·rw [if_neg h,ih];show _=if(if q < 0 then q else up w k (inn w q)) < 0 then _ else _
    rw [if_neg h];show _=if _ then(if q < 0 then q else up w k (inn w q)) else inn w (if q < 0 then q else up w k (inn w q))
    rw [if_neg h]
theorem up_add (w:Zb) (a b:Nat) (q:Int):up w (a + b) q=up w b (up w a q):=by
 induction a generalizing q with
 | zero=>rw [Nat.zero_add];rfl
 | succ a ih=>
   rw [show a + 1 + b= (a + b) + 1 by omega];show(if q < 0 then q else up w (a + b) (inn w q))=up w b (if q < 0 then q else up w a (inn w q));by_cases h:q < 0
   ·rw [if_pos h,if_pos h,ZlI h]
   ·rw [if_neg h,if_neg h,ih]
theorem Ux {w:Zb} {q:Int} {a:Nat} (h:up w a q < 0) {b:Nat} (hb:a <=b):up w b q < 0:=by
 obtain⟨d,rfl⟩:∃ d,b=a + d:= ⟨b - a,by omega⟩
 rw [up_add,ZlI h];exact h
def okN (w:Zb) (q:Int):Prop:=-1 <=q∧q < (w.Zv.length:Int)
instance (w:Zb) (q:Int):Decidable (okN w q):=by unfold okN;infer_instance
structure Inn (w:Zb):Prop where
 rng:∀ p:Nat,p < w.Zv.length ->okN w (inn w p)
 acy:∀ p:Nat,p < w.Zv.length ->up w w.Zv.length p < 0
theorem Inn.up {w:Zb} (h:Inn w) {q:Int} (hq:okN w q) (k:Nat):okN w (up w k q):=by
 induction k with
 | zero=>exact hq
 | succ k ih=>
   rw [QD];by_cases h2:Proofs.YtbmbbcaaimehkaaGreat.up w k q < 0
   ·rw [if_pos h2];exact ih
   ·rw [if_neg h2];have:=h.rng (Proofs.YtbmbbcaaimehkaaGreat.up w k q).toNat (by have:=ih.2;omega)
    rwa [Int.toNat_of_nonneg (by omega)] at this
theorem X5 {c:Nat ->Prop} {n:Nat} (h:c n):∃ m,m <=n∧c m∧∀ k,k < m ->¬ c k:=by
 induction n using Nat.strongRecOn with
 | _ n ih=>
   by_cases hz:∃ j,j < n∧c j
   ·obtain⟨j,h1,h2⟩:=hz;obtain⟨m,q1,q2,q3⟩:=ih j h1 h2;exact⟨m,by omega,q2,q3⟩
   ·exact⟨n,Nat.le_refl _,h,fun k hk q=>hz ⟨k,hk,q⟩⟩
theorem ZFJ:∀ (n:Nat) (f:Nat ->Nat),(∀ i,i <=n ->f i < n) ->∃ i j,i < j∧j <=n∧f i=f j:=by
 intro n
 induction n with
 | zero=>intro f h;exact absurd (h 0 (Nat.le_refl _)) (Nat.not_lt_zero _)
 | succ n ih=>
   intro f h;by_cases hz:∃ i,i <=n∧f i=f (n + 1)
   ·obtain⟨i,h1,h2⟩:=hz;exact⟨i,n + 1,by omega,Nat.le_refl _,h2⟩
   ·have hne:∀ i,i <=n ->f i ≠ f (n + 1):=fun i hi q=>hz ⟨i,hi,q⟩
    have hl:=h (n + 1) (Nat.le_refl _)
    obtain⟨i,j,h1,h2,h3⟩:=ih (fun i=>if f i < f (n + 1) then f i else f i - 1) (fun i hi=>by
     have:=h i (by omega);have:=hne i hi;by_cases q:f i < f (n + 1)
     ·rw [if_pos q];omega
     ·rw [if_neg q];omega)
    refine⟨i,j,h1,by omega,?_⟩;have a1:=hne i (by omega);have a2:=hne j h2;by_cases q1:f i < f (n + 1) <;> by_cases q2:f j < f (n + 1)
    ·rwa [if_pos q1,if_pos q2] at h3
    ·rw [if_pos q1,if_neg q2] at h3;omega
    ·rw [if_neg q1,if_pos q2] at h3;omega
    ·rw [if_neg q1,if_neg q2] at h3;omega
theorem ZhL {w:Zb} (hr:∀ p:Nat,p < w.Zv.length ->okN w (inn w p)):(∀ p:Nat,p < w.Zv.length ->up w w.Zv.length p < 0)↔∀ p:Nat,p < w.Zv.length ->∀ j,j <=w.Zv.length ->up w (j + 1) p ≠ (p:Int):=by
 constructor
 ·intro h p hp j hj e
  have:∀ m:Nat,up w (m * (j + 1)) p= (p:Int):=fun m=>by
   induction m with
   | zero=>rw [Nat.zero_mul];rfl
   | succ m ih=>rw [Nat.succ_mul,up_add,ih,e]
  have h2:=Ux (h p hp) (b:=w.Zv.length * (j + 1)) (Nat.le_mul_of_pos_right _ (by omega));rw [this] at h2;omega
 ·intro h p hp;rcases Int.lt_or_le (up w w.Zv.length p) 0 with q | q
  ·exact q
  ·exfalso
   have hk:∀ k,k <=w.Zv.length ->0 <=up w k p:=fun k hk=>by
    rcases Int.lt_or_le (up w k p) 0 with z | z
    ·have:=Ux z hk;omega
    ·exact z
   have hok:∀ k,okN w (up w k p):=fun k=>by
    induction k with
    | zero=>exact⟨by show(-1:Int) <= (p:Int);omega,by show(p:Int) < _;omega⟩
    | succ k ih=>
      rw [QD];by_cases h2:up w k p < 0
      ·rw [if_pos h2];exact ih
      ·rw [if_neg h2];have:=hr (up w k p).toNat (by have:=ih.2;omega)
       rwa [Int.toNat_of_nonneg (by omega)] at this
   obtain⟨i,j,h1,h2,h3⟩:=ZFJ w.Zv.length (fun k=>(up w k p).toNat) fun k hk'=>by
    have:= (hok k).2;have:=hk k hk';omega
   have e:up w i p=up w j p:=by have:=hk i (by omega);have:=hk j h2;omega
   have hi:=hk i (by omega);have:=h (up w i p).toNat (by have:= (hok i).2;omega) (j - i - 1) (by omega);apply this;rw [Int.toNat_of_nonneg hi,show j - i - 1 + 1=j - i by omega,← up_add,show i + (j - i)=j by omega,e]
end Go.Proofs.YtbmbbcaaimehkaaGreat
end
section
namespace Go.Proofs.YtbmbbcaaimehkaaGreat
open Go.Lf
section
variable {β γ:Type} {R:β ->Prop}
theorem QX {c:Bool} {A B:Option β} (h1:c=true ->∃ b,A=some b∧R b) (h2:c=false ->∃ b,B=some b∧R b):∃ b,(bif c then A else B)=some b∧R b:=by
 cases c
 ·exact h2 rfl
 ·exact h1 rfl
theorem J3 {body:γ ->(γ ->Option β) ->Option β} (r1:β) (r2:Option β) {s0:γ} (S:Nat ->γ) (h0:S 0=s0) (c:Nat ->Prop) {n F:Nat} (hF:n < F)
 (hb:∀ k,k < n ->((∀ next,body (S k) next=some r1)∧c k)∨((∀ next,body (S k) next=next (S (k + 1)))∧¬ c k)) (he:∀ next,body (S n) next=r2)
 (h1:∀ k,k < n ->c k ->R r1) (h2:(∀ k,k < n ->¬ c k) ->∃ b,r2=some b∧R b):∃ b,loop F body s0=some b∧R b:=by
 by_cases hz:∃ k,k < n∧c k
 ·obtain⟨k0,hk0⟩:=hz;obtain⟨m,hm,⟨hmn,hcm⟩,hlt⟩:=X5 (c:=fun k=>k < n∧c k) hk0;refine⟨r1,Yp S h0 (n:=m) (by omega) (fun k hk=>?_) ?_,h1 m hmn hcm⟩
  ·rcases hb k (by omega) with⟨_,q⟩ | ⟨q,_⟩
   ·exact absurd ⟨by omega,q⟩ (hlt k hk)
   ·exact q
  ·rcases hb m hmn with⟨q,_⟩ | ⟨_,q⟩
   ·exact q
   ·exact absurd hcm q
 ·have hno:∀ k,k < n ->¬ c k:=fun k hk q=>hz ⟨k,hk,q⟩
  obtain⟨b,e,hR⟩:=h2 hno;refine⟨b,?_,hR⟩;rw [← e];exact Yp S h0 hF (fun k hk=>(hb k hk).elim (fun q=>absurd q.2 (hno k hk)) fun q=>q.1) he
end
theorem JZ {w:Zb} {q:Int} (h:okN w q) (h2:¬ q < 0):∃ k:Nat,q= (k:Int)∧k < w.Zv.length:= ⟨q.toNat,by omega,by have:=h.2;omega⟩
theorem XO {w:Zb} {p:Nat} (hp:p < w.Zv.length):ZQ w.Zv (p:Int)=some (inn w p):=YM 0 hp
theorem ZeQ (k:Nat):decide ((k:Int) >=0)=true:=decide_eq_true (by omega)
def Chn (w:Zb) (p:Nat):Prop:=okN w (inn w p)∧∃ n,n <=w.Zv.length∧(∀ j,j < n ->¬ up w j p < 0∧okN w (inn w (up w j p)))∧up w n p < 0
theorem ZtD {w:Zb}:(∀ p,p < w.Zv.length ->Chn w p)↔Inn w:=by
 constructor
 ·intro h;exact⟨fun p hp=>(h p hp).1,fun p hp=>let⟨_,n,h1,_,h3⟩:=h p hp;Ux h3 h1⟩
 ·intro h p hp;refine⟨h.rng p hp,?_⟩;obtain⟨m,h1,h2,h3⟩:=X5 (c:=fun k=>up w k p < 0) (h.acy p hp);refine⟨m,h1,fun j hj=>⟨h3 j hj,?_⟩,h2⟩;have hq:okN w ((p:Int)):= ⟨by omega,by omega⟩
  obtain⟨k,e,hk⟩:=JZ (h.up hq j) (h3 j hj);rw [e];exact h.rng k hk
open Classical in
theorem ZjL {F:Nat} {w:Zb} (hF:1000 <=F) (h8:w.Zv.length <=8) {p:Nat} (hp:p < w.Zv.length) (next:Int ->Option Bool):
 ((ZQ w.Zv (p:Int)).bind fun Kn=>(bif((decide (Kn < (-1))) || (decide (Kn >= (w.Zv.length:Int)))) then some false else loop F (Zf0 w (p:Int) next) (0,(p:Int))))=if Chn w p then next ((p + 1:Nat):Int) else some false:=by
 rw [XO hp];simp only [Bq0];by_cases hr:okN w (inn w p)
 ·have e:(decide (inn w p < (-1)) || decide (inn w p >= (w.Zv.length:Int)))=false:=by
   have h1:=hr.1;have h2:=hr.2;rw [decide_eq_false (by omega),decide_eq_false (by omega)];rfl
  rw [e,Cq0];obtain⟨m,hm,hs,hlt⟩:=X5 (c:=fun k=>up w k p < 0∨k=w.Zv.length∨¬ okN w (inn w (up w k p))) (n:=w.Zv.length) (.inr (.inl rfl))
  have hj:∀ j,j < m ->¬ up w j p < 0∧j ≠ w.Zv.length∧okN w (inn w (up w j p)):=fun j hj=>by
   have:=hlt j hj;refine⟨fun q=>this (.inl q),fun q=>this (.inr (.inl q)),?_⟩;by_cases z:okN w (inn w (up w j p))
   ·exact z
   ·exact absurd (.inr (.inr z)) this
  have hok:∀ j,j <=m ->okN w (up w j p):=fun j hjm=>by
   induction j with
   | zero=>exact⟨by show(-1:Int) <= (p:Int);omega,by show(p:Int) < _;omega⟩
   | succ j ih=>
     have:=hj j (by omega);rw [QD,if_neg this.1];exact this.2.2
  refine Yp (fun j=>((j:Int),up w j p)) rfl (n:=m) (by omega) (fun j hjm nx=>?_) (fun nx=>?_)
  ·obtain⟨a1,a2,a3⟩:=hj j hjm;obtain⟨k,e,hk⟩:=JZ (hok j (by omega)) a1;unfold Zf0;dsimp only;rw [e,ZeQ,Cq1,YD (by omega),decide_eq_false (by omega),Cq0,XO hk];have e2:inn w (k:Int)=inn w (up w j p):=by rw [e]
   have h1:=a3.1;have h2:=a3.2;simp only [Bq0];rw [e2,decide_eq_false (show ¬ inn w (up w j p) < -1 by omega),Bool.not_false,YR];simp only [Bq0];rw [decide_eq_false (show ¬ inn w (up w j p) >= (w.Zv.length:Int) by omega)];simp only [Bool.or_self,Cq0];rw [QD,if_neg a1]
  ·by_cases hneg:up w m p < 0
   ·unfold Zf0;dsimp only;rw [decide_eq_false (by omega),Cq0,YD (by omega),if_pos ⟨hr,m,hm,fun j hjm=>⟨(hj j hjm).1,(hj j hjm).2.2⟩,hneg⟩]
   ·have hnc:¬ Chn w p:=by
     rintro⟨_,n,h1,h2,h3⟩
     have hmn:m < n:=by
      rcases Nat.lt_or_ge m n with z | z
      ·exact z
      ·exact absurd (Ux h3 z) hneg
     rcases hs with z | z | z
     ·exact hneg z
     ·omega
     ·exact z (h2 m hmn).2
    rw [if_neg hnc];obtain⟨k,e,hk⟩:=JZ (hok m (Nat.le_refl _)) hneg;unfold Zf0;dsimp only;rw [e,ZeQ,Cq1,YD (by omega)];by_cases hml:m=w.Zv.length
    ·rw [decide_eq_true (by omega)];rfl
    ·rw [decide_eq_false (by omega),Cq0,XO hk]
     have hb:¬ okN w (inn w (k:Int)):=by
      rcases hs with z | z | z
      ·exact absurd z hneg
      ·exact absurd z hml
      ·rwa [e] at z
     simp only [Bq0];by_cases h1:inn w (k:Int) < -1
     ·rw [decide_eq_true h1];rfl
     ·rw [decide_eq_false h1,Bool.not_false,YR];simp only [Bq0]
      rw [decide_eq_true (show inn w (k:Int) >= (w.Zv.length:Int) by
       rcases Int.lt_or_le (inn w (k:Int)) (w.Zv.length:Int) with z | z
       ·exact absurd ⟨by omega,z⟩ hb
       ·exact z)]
      rfl
 ·rw [if_neg (fun q=>hr q.1)]
  have e:(decide (inn w p < (-1)) || decide (inn w p >= (w.Zv.length:Int)))=true:=by
   by_cases h1:inn w p < -1
   ·rw [decide_eq_true h1];rfl
   ·rw [decide_eq_true (show inn w p >= (w.Zv.length:Int) by
     rcases Int.lt_or_le (inn w p) (w.Zv.length:Int) with z | z
     ·exact absurd ⟨by omega,z⟩ hr
     ·exact z),Bool.or_true]
  rw [e];rfl
theorem Zqz {F:Nat} (hF:1000 <=F) (w:Zb):∃ b,ZzE F w=some b∧(b=true↔WN w∧Inn w):=by
 unfold ZzE;refine QX (fun hc=>⟨false,rfl,?_⟩) (fun hc=>?_)
 ·simp only [Bool.false_eq_true,false_iff];rintro⟨s,_⟩;have:=s.m1;have:=s.m2;have:=s.p1;have:=s.p2;have:=s.bx;have:=s.hd;simp only [Bool.or_eq_true,decide_eq_true_eq,bne_iff_ne] at hc;omega
 ·simp only [Bool.or_eq_false_iff,decide_eq_false_iff_not,bne_eq_false_iff_eq] at hc;obtain⟨⟨⟨⟨⟨a1,a2⟩,a3⟩,a4⟩,a5⟩,a6⟩:=hc;refine J3 false (loop F (Zf1 F w) 0) (fun k=>(k:Int)) rfl (fun k=>(row w k).length ≠ w.Zv.length) (n:=w.qQ.length) (by omega) (fun k hk=>?_) (fun next=>?_) (fun k hk hc=>?_) (fun hall=>?_)
  ·have hx:ZQ w.qQ (k:Int)=some (row w k):=YM [] hk;by_cases hl:(row w k).length=w.Zv.length
   ·refine .inr ⟨fun next=>?_,fun q=>q hl⟩;unfold Zjb;rw [ZO hk,Cq1,hx];simp only [Bq0];rw [hl,QE,Cq0,YD (by omega)]
   ·refine .inl ⟨fun next=>?_,hl⟩;unfold Zjb;rw [ZO hk,Cq1,hx];simp only [Bq0];rw [QZ,decide_eq_true (by omega)];rfl
  ·unfold Zjb;rw [ZT];rfl
  ·simp only [Bool.false_eq_true,false_iff];rintro⟨s,_⟩;exact hc (s.len hk)
  ·have hrow:∀ l ∈ w.qQ,l.length=w.Zv.length:=fun l hl=>by
    obtain⟨k,hk,rfl⟩:=List.getElem_of_mem hl;have:=hall k hk;unfold row at this;rw [List.getD_eq_getElem?_getD,List.getElem?_eq_getElem hk] at this;exact Classical.byContradiction this
   have ZF0:WN w:= ⟨by omega,by omega,by omega,by omega,by omega,by omega,hrow⟩
   refine J3 false (some true) (fun k=>(k:Int)) rfl (fun k=>¬ Chn w k) (n:=w.Zv.length) (by omega) (fun k hk=>?_) (fun next=>?_) (fun k hk hc=>?_) (fun ZLP=>⟨true,rfl,?_⟩)
   ·by_cases hch:Chn w k
    ·refine .inr ⟨fun next=>?_,fun q=>q hch⟩;have:=ZjL hF (by omega) hk next;rw [if_pos hch] at this;unfold Zf1;rw [ZO hk,Cq1];exact this
    ·refine .inl ⟨fun next=>?_,hch⟩;have:=ZjL hF (by omega) hk next;rw [if_neg hch] at this;unfold Zf1;rw [ZO hk,Cq1];exact this
   ·unfold Zf1;rw [ZT];rfl
   ·simp only [Bool.false_eq_true,false_iff];rintro⟨_,h⟩;exact hc (ZtD.2 h k hk)
   ·exact⟨fun _=>⟨ZF0,ZtD.1 fun p hp=>Classical.byContradiction (ZLP p hp)⟩,fun _=>rfl⟩
end Go.Proofs.YtbmbbcaaimehkaaGreat
end
section
namespace Go.Proofs.YtbmbbcaaimehkaaGreat
open Go.Lf
abbrev ZsX:Zr:= ⟨0,0,0,0,0⟩
theorem KV (x y:Zr):JI x y=true↔x=y:=by
 unfold JI;cases x;cases y;simp [Zr.mk.injEq]
theorem Zg4 (x y:Zw):UN x y=true↔x=y:=by
 unfold UN;cases x;cases y;simp [Zw.mk.injEq]
theorem ZjD (x y:Yr):Ze0 x y=true↔x=y:=by
 unfold Ze0;cases x;cases y;simp [Yr.mk.injEq]
def Pur (x:Ze):Prop:=
 (x.kind=1∧x.place=0∧x.at_=0∧x.age=0∧x.qV= []∧x.Yk= [])∨
 (x.kind=2∧x.place=0∧x.at_=0∧x.age=0∧x.Yb=ZsX∧x.qV ≠ []∧x.qV.length=x.Yk.length)∨
 (x.kind=3∧x.Yb=ZsX∧x.qV= []∧x.Yk= [])
theorem ZgW {α:Type} (l:List α):decide ((l.length:Int) > 0)=true↔l ≠ []:=by
 rw [decide_eq_true_eq]
 constructor
 ·rintro h rfl;simp at h
 ·intro h;have:=List.length_pos_iff.2 h;omega
theorem ZwI (x:Ze):∃ b,ZuX x=some b∧(b=true↔Pur x):=by
 unfold ZuX Pur
 have nl:∀ l:List Int,decide ((l.length:Int) > 0)=false↔l= []:=fun l=>by
  rw [Bool.eq_false_iff,Ne,ZgW];exact Classical.not_not
 refine QX (fun hc=>⟨_,rfl,?_⟩) (fun hc=>QX (fun hc2=>⟨_,rfl,?_⟩) (fun hc2=>QX (fun hc3=>⟨_,rfl,?_⟩) (fun hc3=>⟨_,rfl,?_⟩)))
 ·have hk:x.kind=1:=by simpa using hc
  simp only [Ba0,Bool.not_eq_true',Bool.or_eq_false_iff,bne_eq_false_iff_eq,nl]
  constructor
  ·rintro⟨⟨⟨a,b⟩,c⟩,d,e⟩;exact .inl ⟨hk,a,b,c,d,e⟩
  ·rintro(⟨_,a,b,c,d,e⟩ | ⟨q,_⟩ | ⟨q,_⟩)
   ·exact⟨⟨⟨a,b⟩,c⟩,d,e⟩
   ·omega
   ·omega
 ·have hk:x.kind=2:=by simpa using hc2
  simp only [Ba0,Bool.not_eq_true',Bool.or_eq_false_iff,bne_eq_false_iff_eq,Bool.not_eq_false',KV,ZgW,beq_iff_eq]
  constructor
  ·rintro⟨⟨⟨⟨⟨a,b⟩,c⟩,d⟩,e⟩,f⟩;exact .inr (.inl ⟨hk,a,b,c,d,e,by omega⟩)
  ·rintro(⟨q,_⟩ | ⟨_,a,b,c,d,e,f⟩ | ⟨q,_⟩)
   ·omega
   ·exact⟨⟨⟨⟨⟨a,b⟩,c⟩,d⟩,e⟩,by omega⟩
   ·omega
 ·have hk:x.kind=3:=by simpa using hc3
  simp only [Ba0,Bool.not_eq_true',Bool.or_eq_false_iff,Bool.not_eq_false',KV,nl]
  constructor
  ·rintro⟨a,b,c⟩;exact .inr (.inr ⟨hk,a,b,c⟩)
  ·rintro(⟨q,_⟩ | ⟨q,_⟩ | ⟨_,a,b,c⟩)
   ·omega
   ·omega
   ·exact⟨a,b,c⟩
 ·simp only [Bool.false_eq_true,false_iff];have h1:x.kind ≠ 1:=by simpa using hc
  have h2:x.kind ≠ 2:=by simpa using hc2
  have h3:x.kind ≠ 3:=by simpa using hc3
  rintro(⟨q,_⟩ | ⟨q,_⟩ | ⟨q,_⟩)
  ·exact h1 q
  ·exact h2 q
  ·exact h3 q
def Ke (w:Zb) (x:Ze) (i:Nat):Prop:=
 0 <=x.qV.getD i 0∧x.qV.getD i 0 < (w.Zv.length:Int)∧(0 < i ->x.qV.getD (i - 1) 0 < x.qV.getD i 0)∧1 <=x.Yk.getD i 0∧x.Yk.getD i 0 <=30
def Plc (w:Zb) (x:Ze):Prop:=∀ i,i < x.qV.length ->Ke w x i
theorem Zox (w:Zb) (x:Ze) {i:Nat} (hi:i < x.qV.length) (ha:i < x.Yk.length) (h9:x.qV.length < 900) {β:Type} (r:β) (next:Option β):
 ((ZQ x.qV (i:Int)).bind fun x112=>(gd ((!((decide (x112 < 0)) || (decide (x112 >= (w.Zv.length:Int))))) && (decide ((i:Int) > 0))) (ZQ x.qV (Xa ((i:Int) - 1))) default).bind fun x115=>(gd (!(((decide (x112 < 0)) || (decide (x112 >= (w.Zv.length:Int)))) || ((decide ((i:Int) > 0)) && (decide (x112 <=x115))))) (ZQ x.Yk (i:Int)) default).bind fun Zj9=>(gd (!((((decide (x112 < 0)) || (decide (x112 >= (w.Zv.length:Int)))) || ((decide ((i:Int) > 0)) && (decide (x112 <=x115)))) || (decide (Zj9 < 1)))) (ZQ x.Yk (i:Int)) default).bind fun Zdz=>(bif(((((decide (x112 < 0)) || (decide (x112 >= (w.Zv.length:Int)))) || ((decide ((i:Int) > 0)) && (decide (x112 <=x115)))) || (decide (Zj9 < 1))) || (decide (Zdz > 30))) then some r else next))=open Classical in if Ke w x i then next else some r:=by
 rw [YM 0 hi];simp only [Bq0]
 have key:∀ (c d e:Bool) (y y2:Int),ZQ x.Yk (i:Int)=some (x.Yk.getD i 0) ->((gd (!(c || d)) (ZQ x.Yk (i:Int)) default).bind fun Zj9=>(gd (!((c || d) || decide (Zj9 < 1))) (ZQ x.Yk (i:Int)) default).bind fun Zdz=>(bif(((c || d) || (decide (Zj9 < 1))) || (decide (Zdz > 30))) then some r else next))=bif(c || d || decide (x.Yk.getD i 0 < 1) || decide (x.Yk.getD i 0 > 30)) then some r else next:=by
  intro c d e y y2 hg;rw [hg];cases h1:(c || d)
  ·simp only [Bool.not_false,YR,Bq0,Bool.false_or];cases h2:decide (x.Yk.getD i 0 < 1)
   ·simp only [Bool.not_false,YR,Bq0,Bool.false_or]
   ·simp only [Bool.not_true,Xv,Bq0,Bool.true_or,Cq1]
  ·simp only [Bool.not_true,Xv,Bq0,Bool.true_or,Cq1]
 by_cases hz:i=0
 ·subst hz;rw [show decide (((0:Nat):Int) > 0)=false from rfl];simp only [Bool.and_false,Xv,Bq0,Bool.false_and];rw [key _ _ false 0 0 (YM 0 ha)];unfold Ke;by_cases hp:0 <=x.qV.getD 0 0∧x.qV.getD 0 0 < (w.Zv.length:Int)∧(0 < 0 ->x.qV.getD (0 - 1) 0 < x.qV.getD 0 0)∧1 <=x.Yk.getD 0 0∧x.Yk.getD 0 0 <=30
  ·rw [if_pos hp];obtain⟨a,b,_,c,d⟩:=hp;rw [decide_eq_false (show ¬ x.qV.getD 0 0 < 0 by omega),decide_eq_false (show ¬ x.qV.getD 0 0 >= (w.Zv.length:Int) by omega),decide_eq_false (show ¬ x.Yk.getD 0 0 < 1 by omega),decide_eq_false (show ¬ x.Yk.getD 0 0 > 30 by omega)];rfl
  ·rw [if_neg hp]
   have:(decide (x.qV.getD 0 0 < 0) || decide (x.qV.getD 0 0 >= (w.Zv.length:Int)) || false || decide (x.Yk.getD 0 0 < 1) || decide (x.Yk.getD 0 0 > 30))=true:=by
    simp only [Bool.or_eq_true,decide_eq_true_eq,Bool.or_false];rcases Int.lt_or_le (x.qV.getD 0 0) 0 with z | z
    ·exact .inl (.inl (.inl z))
    ·rcases Int.lt_or_le (x.qV.getD 0 0) (w.Zv.length:Int) with z2 | z2
     ·rcases Int.lt_or_le (x.Yk.getD 0 0) 1 with z3 | z3
      ·exact .inl (.inr z3)
      ·rcases Int.lt_or_le 30 (x.Yk.getD 0 0) with z4 | z4
       ·exact .inr z4
       ·exact absurd ⟨z,z2,fun q=>absurd q (by omega),z3,z4⟩ hp
     ·exact .inl (.inl (.inr z2))
   rw [this];rfl
 ·have hi0:decide ((i:Int) > 0)=true:=decide_eq_true (by omega)
  have hg1:ZQ x.qV (Xa ((i:Int) - 1))=some (x.qV.getD (i - 1) 0):=by
   rw [Zv5 (by omega) (by omega)];exact YM 0 (by omega)
  rw [hi0,hg1];simp only [Bool.and_true,Bool.true_and];have hgd:∀ c:Bool,gd (!c) (some (x.qV.getD (i - 1) 0)) (default:Int)=some (bif c then default else x.qV.getD (i - 1) 0):=fun c=>by cases c <;> rfl
  rw [hgd];simp only [Bq0];rw [key _ _ false 0 0 (YM 0 ha)];unfold Ke;by_cases hp:0 <=x.qV.getD i 0∧x.qV.getD i 0 < (w.Zv.length:Int)∧(0 < i ->x.qV.getD (i - 1) 0 < x.qV.getD i 0)∧1 <=x.Yk.getD i 0∧x.Yk.getD i 0 <=30
  ·rw [if_pos hp];obtain⟨a,b,c0,c,d⟩:=hp;have c0:=c0 (by omega);rw [decide_eq_false (show ¬ x.qV.getD i 0 < 0 by omega),decide_eq_false (show ¬ x.qV.getD i 0 >= (w.Zv.length:Int) by omega),decide_eq_false (show ¬ x.Yk.getD i 0 < 1 by omega),decide_eq_false (show ¬ x.Yk.getD i 0 > 30 by omega)];simp only [Bool.or_self,Cq0,Bool.false_or];rw [decide_eq_false (show ¬ x.qV.getD i 0 <=x.qV.getD (i - 1) 0 by omega)];rfl
  ·rw [if_neg hp]
   have:(decide (x.qV.getD i 0 < 0) || decide (x.qV.getD i 0 >= (w.Zv.length:Int)) || decide (x.qV.getD i 0 <=bif decide (x.qV.getD i 0 < 0) || decide (x.qV.getD i 0 >= (w.Zv.length:Int)) then default else x.qV.getD (i - 1) 0) || decide (x.Yk.getD i 0 < 1) || decide (x.Yk.getD i 0 > 30))=true:=by
    rcases Int.lt_or_le (x.qV.getD i 0) 0 with z | z
    ·rw [decide_eq_true z];simp
    ·rcases Int.lt_or_le (x.qV.getD i 0) (w.Zv.length:Int) with z2 | z2
     ·rw [decide_eq_false (show ¬ x.qV.getD i 0 < 0 by omega),decide_eq_false (show ¬ x.qV.getD i 0 >= (w.Zv.length:Int) by omega)];simp only [Bool.or_self,Cq0,Bool.false_or,Bool.or_eq_true,decide_eq_true_eq];rcases Int.lt_or_le (x.qV.getD (i - 1) 0) (x.qV.getD i 0) with z5 | z5
      ·rcases Int.lt_or_le (x.Yk.getD i 0) 1 with z3 | z3
       ·exact .inl (.inr z3)
       ·rcases Int.lt_or_le 30 (x.Yk.getD i 0) with z4 | z4
        ·exact .inr z4
        ·exact absurd ⟨z,z2,fun _=>z5,z3,z4⟩ hp
      ·exact .inl (.inl z5)
     ·rw [decide_eq_true (show x.qV.getD i 0 >= (w.Zv.length:Int) by omega)];simp
   rw [this];rfl
def Zea (w:Zb) (m p:Nat):Prop:=0 <= (E w m p).age∧(E w m p).age <=30∧0 <= (E w m p).Z9∧(E w m p).Z9 < (w.qQ.length:Int)∧((E w m p).here=true↔(E w m p).Z9= (m:Int))
def ZON (w:Zb) (x:Ze):Prop:=x.kind=3 ->0 <=x.place∧x.place < (w.Zv.length:Int)∧x.at_ ≠ x.Z9
structure Zj0 (w:Zb) (x:Ze):Prop where
 to1:0 <=x.Z9
 to2:x.Z9 < (w.qQ.length:Int)
 Y9:Pur x
 WY:Plc w x
 ntd:ZON w x
structure ShR (w:Zb):Prop where
 WT:WN w
 inn:Inn w
 sd1:0 <=w.said
 sd2:w.said <=40
 ent:∀ m,m < w.qQ.length ->∀ p,p < w.Zv.length ->Zea w m p
 Xd:∀ x ∈ w.qG,Zj0 w x
theorem Pur.len {x:Ze} (h:Pur x):x.Yk.length=x.qV.length:=by
 rcases h with⟨_,_,_,_,a,b⟩ | ⟨_,_,_,_,_,_,a⟩ | ⟨_,_,a,b⟩
 ·rw [a,b]
 ·omega
 ·rw [a,b]
theorem ZoF {F:Nat} {w:Zb} (hF:1000 <=F) (h8:w.Zv.length <=8) (hr:∀ p:Nat,p < w.Zv.length ->okN w (inn w p)) {p:Nat} (hp:p < w.Zv.length) (next:Int ->Option Bool):
 ((ZQ w.Zv (p:Int)).bind fun x25=>loop F (Zjp w (p:Int) next) (x25,0))=open Classical in if(∃ j,j <=w.Zv.length∧up w (j + 1) p= (p:Int)) then some false else next ((p + 1:Nat):Int):=by
 rw [XO hp];simp only [Bq0]
 have hok:∀ k,okN w (up w k p):=fun k=>by
  induction k with
  | zero=>exact⟨by show(-1:Int) <= (p:Int);omega,by show(p:Int) < _;omega⟩
  | succ k ih=>
    rw [QD];by_cases h2:up w k p < 0
    ·rw [if_pos h2];exact ih
    ·rw [if_neg h2];obtain⟨j,e,hj⟩:=JZ ih h2;rw [e];exact hr j hj
 have e0:(inn w p,(0:Int))= (up w (0 + 1) p,((0:Nat):Int)):=by
  rw [QD];show _= (if((p:Int)) < 0 then _ else _,_);rw [if_neg (by omega)];rfl
 obtain⟨m,hm,hs,hlt⟩:=X5 (c:=fun k=>w.Zv.length < k∨up w (k + 1) p < 0∨up w (k + 1) p= (p:Int)) (n:=w.Zv.length + 1) (.inl (by omega))
 have hj:∀ j,j < m ->j <=w.Zv.length∧¬ up w (j + 1) p < 0∧up w (j + 1) p ≠ (p:Int):=fun j hj=>by
  have:=hlt j hj
  exact⟨by rcases Nat.lt_or_ge w.Zv.length j with z | z;· exact absurd (.inl z) this
           ·exact z,fun q=>this (.inr (.inl q)),fun q=>this (.inr (.inr q))⟩
 refine Yp (fun j=>(up w (j + 1) p,(j:Int))) e0.symm (n:=m) (by omega) (fun j hjm nx=>?_) (fun nx=>?_)
 ·obtain⟨a1,a2,a3⟩:=hj j hjm;obtain⟨k,e,hk⟩:=JZ (hok (j + 1)) a2;unfold Zjp;dsimp only;rw [QD w (j + 1),if_neg a2];rw [e] at a3 ⊢;rw [decide_eq_true (show(j:Int) <= (w.Zv.length:Int) by omega),ZeQ,Bool.and_self,Cq1,Yg,decide_eq_false a3,Cq0,XO hk];simp only [Bq0];rw [YD (by omega)]
 ·unfold Zjp;dsimp only;by_cases h1:w.Zv.length < m
  ·rw [decide_eq_false (show ¬ (m:Int) <= (w.Zv.length:Int) by omega),Bool.false_and,Cq0,YD (by omega),if_neg];rintro⟨j,q1,q2⟩;exact(hj j (by omega)).2.2 q2
  ·by_cases h2:up w (m + 1) p < 0
   ·rw [decide_eq_false (show ¬ up w (m + 1) p >=0 by omega),Bool.and_false,Cq0,YD (by omega),if_neg];rintro⟨j,q1,q2⟩;rcases Nat.lt_or_ge j m with z | z
    ·exact(hj j z).2.2 q2
    ·have:=Ux h2 (show m + 1 <=j + 1 by omega);omega
   ·have h3:up w (m + 1) p= (p:Int):=by rcases hs with z | z | z <;> first | exact absurd z h1 | exact absurd z h2 | exact z
    rw [decide_eq_true (show(m:Int) <= (w.Zv.length:Int) by omega),h3,ZeQ,Bool.and_self,Cq1,Yg,decide_eq_true rfl,Cq1,if_pos ⟨m,by omega,h3⟩]
theorem Zub {F:Nat} (hF:1000 <=F) {w:Zb} (sm:WM 900 w):∃ b,ZzJ F w=some b∧(b=true↔ShR w):=by
 unfold ZzJ;refine QX (fun hc=>⟨false,rfl,?_⟩) (fun hc=>?_)
 ·simp only [Bool.false_eq_true,false_iff];intro s;have:=s.WT.m1;have:=s.WT.m2;have:=s.WT.p1;have:=s.WT.p2;have:=s.WT.bx;have:=s.WT.hd;have:=s.sd1;have:=s.sd2;simp only [Bool.or_eq_true,decide_eq_true_eq,bne_iff_ne] at hc;omega
 simp only [Bool.or_eq_false_iff,decide_eq_false_iff_not,bne_eq_false_iff_eq] at hc;obtain⟨⟨⟨⟨⟨⟨⟨a1,a2⟩,a3⟩,a4⟩,a5⟩,a6⟩,a7⟩,a8⟩:=hc;refine J3 false (loop F (Zf6 F w) 0) (fun k=>(k:Int)) rfl (fun k=>¬ okN w (inn w k)) (n:=w.Zv.length) (by omega) (fun k hk=>?_) (fun next=>?_) (fun k hk hc=>?_) (fun hr=>?_)
 ·by_cases ho:okN w (inn w k)
  ·refine .inr ⟨fun next=>?_,fun q=>q ho⟩;have h1:=ho.1;have h2:=ho.2;unfold Zjq;rw [ZO hk,Cq1,XO hk];simp only [Bq0];rw [decide_eq_false (by omega),decide_eq_false (by omega),Bool.or_self,Cq0,YD (by omega)]
  ·refine .inl ⟨fun next=>?_,ho⟩;unfold Zjq;rw [ZO hk,Cq1,XO hk];simp only [Bq0];by_cases h1:inn w (k:Int) < -1
   ·rw [decide_eq_true h1];rfl
   ·rw [decide_eq_true (show inn w (k:Int) >= (w.Zv.length:Int) by
     rcases Int.lt_or_le (inn w (k:Int)) (w.Zv.length:Int) with z | z
     ·exact absurd ⟨by omega,z⟩ ho
     ·exact z),Bool.or_true];rfl
 ·unfold Zjq;rw [ZT];rfl
 ·simp only [Bool.false_eq_true,false_iff];intro s;exact hc (s.inn.rng k hk)
 have hr:∀ p:Nat,p < w.Zv.length ->okN w (inn w p):=fun p hp=>Classical.byContradiction (hr p hp)
 refine J3 false (loop F (ZdT F w) 0) (fun k=>(k:Int)) rfl (fun p=>∃ j,j <=w.Zv.length∧up w (j + 1) p= (p:Int)) (n:=w.Zv.length) (by omega) (fun k hk=>?_) (fun next=>?_) (fun k hk hc=>?_) (fun hac=>?_)
 ·by_cases ho:∃ j,j <=w.Zv.length∧up w (j + 1) k= (k:Int)
  ·refine .inl ⟨fun next=>?_,ho⟩;have:=ZoF hF (by omega) hr hk next;rw [if_pos ho] at this;unfold Zf6;rw [ZO hk,Cq1];exact this
  ·refine .inr ⟨fun next=>?_,ho⟩;have:=ZoF hF (by omega) hr hk next;rw [if_neg ho] at this;unfold Zf6;rw [ZO hk,Cq1];exact this
 ·unfold Zf6;rw [ZT];rfl
 ·simp only [Bool.false_eq_true,false_iff];intro s;obtain⟨j,q1,q2⟩:=hc;exact(ZhL hr).1 s.inn.acy k hk j q1 q2
 have ZQU:Inn w:= ⟨hr,(ZhL hr).2 fun p hp j hj q=>hac p hp ⟨j,hj,q⟩⟩
 refine J3 false (loop F (KS F w) 0) (fun k=>(k:Int)) rfl (fun m=>¬ ((row w m).length=w.Zv.length∧∀ p,p < w.Zv.length ->Zea w m p)) (n:=w.qQ.length) (by omega) (fun m hm=>?_) (fun next=>?_) (fun k hk hc=>?_) (fun hen=>?_)
 ·have hx:ZQ w.qQ (m:Int)=some (row w m):=YM [] hm;by_cases hl:(row w m).length=w.Zv.length
  ·have hgp:∀ p,p < w.Zv.length ->ZQ (row w m) (p:Int)=some (E w m p):=fun p hp=>YM default (by rw [hl];exact hp)
   have step:∀ next:Int ->Option Bool,∀ p,p < w.Zv.length ->∀ nx,Zf5 w (m:Int) next (row w m) (p:Int) nx=open Classical in if Zea w m p then nx ((p + 1:Nat):Int) else some false:=fun next p hp nx=>by
    unfold Zf5;rw [decide_eq_true (show(p:Int) < ((row w m).length:Int) by omega),Cq1,hgp p hp];simp only [Bq0];by_cases he:Zea w m p
    ·obtain⟨e1,e2,e3,e4,e5⟩:=he
     have e6:((E w m p).here != ((E w m p).Z9== (m:Int)))=false:=by
      rw [bne_eq_false_iff_eq,Bool.eq_iff_iff,e5,beq_iff_eq]
     rw [if_pos ⟨e1,e2,e3,e4,e5⟩,decide_eq_false (by omega),decide_eq_false (by omega),decide_eq_false (by omega),decide_eq_false (by omega),e6];simp only [Bool.or_self,Cq0];rw [YD (by omega)]
    ·rw [if_neg he]
     have:(decide ((E w m p).age < 0) || decide ((E w m p).age > 30) || decide ((E w m p).Z9 < 0) || decide ((E w m p).Z9 >= (w.qQ.length:Int)) || ((E w m p).here != ((E w m p).Z9== (m:Int))))=true:=by
      rw [← Bool.not_eq_false];intro hf;simp only [Bool.or_eq_false_iff,decide_eq_false_iff_not,bne_eq_false_iff_eq] at hf;obtain⟨⟨⟨⟨q1,q2⟩,q3⟩,q4⟩,q5⟩:=hf;exact he ⟨by omega,by omega,by omega,by omega,by rw [q5,beq_iff_eq]⟩
     rw [this];rfl
   have body:∀ next nx0,ZdT F w (m:Int) next=loop F (Zf5 w (m:Int) next (row w m)) nx0∨nx0 ≠ 0:=fun next nx0=>by
    by_cases h0:nx0=0
    ·subst h0;left;unfold ZdT;rw [ZO hm,Cq1,hx];simp only [Bq0];rw [hl,QE,Cq0]
    ·exact .inr h0
   by_cases hall:∀ p,p < w.Zv.length ->Zea w m p
   ·refine .inr ⟨fun next=>?_,fun q=>q ⟨hl,hall⟩⟩;rw [(body next 0).resolve_right (fun q=>q rfl)];refine Yp (fun p=>(p:Int)) rfl (n:=w.Zv.length) (by omega) (fun p hp nx=>?_) (fun nx=>?_)
    ·rw [step next p hp nx,if_pos (hall p hp)]
    ·unfold Zf5;rw [decide_eq_false (by omega),Cq0,YD (by omega)]
   ·refine .inl ⟨fun next=>?_,fun q=>hall q.2⟩;rw [(body next 0).resolve_right (fun q=>q rfl)];have hz:∃ p,p < w.Zv.length∧¬ Zea w m p:=Classical.byContradiction fun q=>hall fun p hp=>Classical.byContradiction fun q2=>q ⟨p,hp,q2⟩
    obtain⟨p0,hp0⟩:=hz;obtain⟨p1,_,hp1,hlt⟩:=X5 (c:=fun p=>p < w.Zv.length∧¬ Zea w m p) hp0;refine Yp (fun p=>(p:Int)) rfl (n:=p1) (by omega) (fun p hp nx=>?_) (fun nx=>?_)
    ·rw [step next p (by omega) nx,if_pos (Classical.byContradiction fun q=>hlt p hp ⟨by omega,q⟩)]
    ·rw [step next p1 hp1.1 nx,if_neg hp1.2]
  ·refine .inl ⟨fun next=>?_,fun q=>hl q.1⟩;unfold ZdT;rw [ZO hm,Cq1,hx];simp only [Bq0];rw [QZ,decide_eq_true (by omega)];rfl
 ·unfold ZdT;rw [ZT];rfl
 ·simp only [Bool.false_eq_true,false_iff];intro s;exact hc ⟨s.WT.len hk,s.ent k hk⟩
 have hen:∀ m,m < w.qQ.length ->(row w m).length=w.Zv.length∧∀ p,p < w.Zv.length ->Zea w m p:=fun m hm=>Classical.byContradiction (hen m hm)
 have ZF0:WN w:= ⟨by omega,by omega,by omega,by omega,by omega,by omega,fun l hl=>by
  obtain⟨k,hk,rfl⟩:=List.getElem_of_mem hl;have:= (hen k hk).1;unfold row at this
  rwa [List.getD_eq_getElem?_getD,List.getElem?_eq_getElem hk] at this⟩
 refine J3 false (some true) (fun k=>(k:Int)) rfl (fun k=>∃ h:k < w.qG.length,¬ Zj0 w w.qG[k]) (n:=w.qG.length) (by have:=sm.qG;omega) (fun k hk=>?_) (fun next=>?_) (fun k hk hc=>?_) (fun hlt=>⟨true,rfl,?_⟩)
 ·have hwl:=sm.qG;have hx:w.qG[k] ∈ w.qG:=List.getElem_mem hk;obtain⟨s1,s2⟩:=sm.Xd _ hx;generalize hX:w.qG[k]=x at *;have hgx:ZQ w.qG (k:Int)=some x:=by rw [XI hk,hX]
  have bad:(∀ next,KS F w (k:Int) next=some false)∧¬ Zj0 w x∨(∀ next,KS F w (k:Int) next=next ((k + 1:Nat):Int))∧Zj0 w x:=by
   obtain⟨pb,hpb,hpi⟩:=ZwI x;by_cases ht:0 <=x.Z9∧x.Z9 < (w.qQ.length:Int)
   ·have e1:(decide (x.Z9 < 0) || decide (x.Z9 >= (w.qQ.length:Int)))=false:=by
     rw [decide_eq_false (by omega),decide_eq_false (by omega)];rfl
    cases pb with
    | false=>
      have hnp:¬ Pur x:=fun q=>by have:=hpi.2 q;cases this
      refine .inl ⟨fun next=>?_,fun l=>hnp l.Y9⟩;unfold KS;rw [ZO hk,Cq1,hgx];simp only [Bq0];rw [e1,Bool.not_false,YR,hpb];rfl
    | true=>
      have hp:Pur x:=hpi.1 rfl;have hal:=hp.len
      have body:∀ next,KS F w (k:Int) next=loop F (Zf4 w (k:Int) next x) 0:=fun next=>by
       unfold KS;rw [ZO hk,Cq1,hgx];simp only [Bq0];rw [e1,Bool.not_false,YR,hpb];rfl
      have step:∀ (next:Int ->Option Bool) (i:Nat),i < x.qV.length ->∀ nx,Zf4 w (k:Int) next x (i:Int) nx=open Classical in if Ke w x i then nx ((i + 1:Nat):Int) else some false:=fun next i hi nx=>by
       have:=Zox w x hi (by omega) s1 false (nx (Xa ((i:Int) + 1)));unfold Zf4;rw [ZO hi,Cq1,this,YD (by omega)]
      by_cases hpl:Plc w x
      ·have fin:∀ next,KS F w (k:Int) next=bif((x.kind==3) && (((decide (x.place < 0)) || (decide (x.place >= (w.Zv.length:Int)))) || (x.at_==x.Z9))) then some false else next ((k + 1:Nat):Int):=fun next=>by
        rw [body];refine Yp (fun i=>(i:Int)) rfl (n:=x.qV.length) (by omega) (fun i hi nx=>?_) (fun nx=>?_)
        ·rw [step next i hi nx,if_pos (hpl i hi)]
        ·unfold Zf4;rw [ZT,Cq0,YD (by omega)]
       by_cases hn:ZON w x
       ·refine .inr ⟨fun next=>?_,⟨ht.1,ht.2,hp,hpl,hn⟩⟩;rw [fin]
        have:((x.kind==3) && (((decide (x.place < 0)) || (decide (x.place >= (w.Zv.length:Int)))) || (x.at_==x.Z9)))=false:=by
         by_cases h3:x.kind=3
         ·obtain⟨q1,q2,q3⟩:=hn h3;rw [decide_eq_false (by omega),decide_eq_false (by omega),Yg x.at_,decide_eq_false q3];simp
         ·rw [Yg,decide_eq_false h3];rfl
        rw [this];rfl
       ·refine .inl ⟨fun next=>?_,fun l=>hn l.ntd⟩;rw [fin]
        have:((x.kind==3) && (((decide (x.place < 0)) || (decide (x.place >= (w.Zv.length:Int)))) || (x.at_==x.Z9)))=true:=by
         rw [← Bool.not_eq_false];intro hf;apply hn;intro h3;simp only [Bool.and_eq_false_iff,Bool.or_eq_false_iff,decide_eq_false_iff_not,beq_eq_false_iff_ne] at hf;rcases hf with q | ⟨⟨q1,q2⟩,q3⟩
         ·exact absurd h3 q
         ·exact⟨by omega,by omega,q3⟩
        rw [this];rfl
      ·have hz:∃ i,i < x.qV.length∧¬ Ke w x i:=Classical.byContradiction fun q=>hpl fun i hi=>Classical.byContradiction fun q2=>q ⟨i,hi,q2⟩
       obtain⟨i0,hi0⟩:=hz;obtain⟨i1,_,hi1,hlt⟩:=X5 (c:=fun i=>i < x.qV.length∧¬ Ke w x i) hi0;refine .inl ⟨fun next=>?_,fun l=>hpl l.WY⟩;rw [body];refine Yp (fun i=>(i:Int)) rfl (n:=i1) (by omega) (fun i hi nx=>?_) (fun nx=>?_)
       ·rw [step next i (by omega) nx,if_pos (Classical.byContradiction fun q=>hlt i hi ⟨by omega,q⟩)]
       ·rw [step next i1 hi1.1 nx,if_neg hi1.2]
   ·refine .inl ⟨fun next=>?_,fun l=>ht ⟨l.to1,l.to2⟩⟩
    have e1:(decide (x.Z9 < 0) || decide (x.Z9 >= (w.qQ.length:Int)))=true:=by
     rw [← Bool.not_eq_false];intro hf;simp only [Bool.or_eq_false_iff,decide_eq_false_iff_not] at hf;exact ht ⟨by omega,by omega⟩
    unfold KS;rw [ZO hk,Cq1,hgx];simp only [Bq0];rw [e1,Bool.not_true,Xv];rfl
  rcases bad with⟨b1,b2⟩ | ⟨b1,b2⟩
  ·exact .inl ⟨b1,hk,by rwa [hX]⟩
  ·exact .inr ⟨b1,fun⟨_,q⟩=>by rw [hX] at q;exact q b2⟩
 ·unfold KS;rw [ZT];rfl
 ·simp only [Bool.false_eq_true,false_iff];obtain⟨h,q⟩:=hc;intro s;exact q (s.Xd _ (List.getElem_mem h))
 ·refine⟨fun _=>⟨ZF0,ZQU,by omega,by omega,fun m hm=>(hen m hm).2,fun x hx=>?_⟩,fun _=>rfl⟩;obtain⟨k,hk,rfl⟩:=List.getElem_of_mem hx;exact Classical.byContradiction fun q=>hlt k hk ⟨hk,q⟩
def Zdp (s:Yr):XF:= ⟨s.machine,s.age,-1,true⟩
def ZnO (k:Nat) (s:Yr):XF:= ⟨s.machine,s.age,(k:Int),false⟩
def ZB (w:Zb) (i:Nat):Ze:=w.qG.getD i default
def KC (w:Zb) (p k:Nat):List XF:= (List.range k).flatMap fun i=>(Wy (ZB w i) p (ZB w i).qV.length).map (ZnO i)
def QJ (w:Zb) (p:Nat):List XF:= (Xe w p w.qQ.length).map Zdp ++ KC w p w.qG.length
def U2 (l:List XF):XF:=l.getLastD ⟨0,0,0,false⟩
theorem Ziy (l:List XF) (x:XF):U2 (l ++ [x])=x:=by unfold U2;simp
theorem ZhS (w:Zb) (p k:Nat):KC w p (k + 1)=KC w p k ++ (Wy (ZB w k) p (ZB w k).qV.length).map (ZnO k):=by
 unfold KC;rw [List.range_succ,List.flatMap_append];simp
theorem ZkR {w:Zb} {n:Nat} (h:∀ x ∈ w.qG,x.qV.length <=n) (p:Nat):∀ k,k <=w.qG.length ->(KC w p k).length <=n * k
 | 0,_=>by simp [KC]
 | k + 1,hk=>by
   have:=ZkR h p k (by omega);have h1:=Zeh (ZB w k) p (ZB w k).qV.length;have h2:=h (ZB w k) (Yj (by omega));rw [ZhS,List.length_append,List.length_map,Nat.mul_succ];omega
def stR (l:List XF) (k:Nat):Int×Int×Int×Int×Int×Bool:= ((l.length:Int),(k:Int),(U2 l).at_,(U2 l).age,(U2 l).letter,(U2 l).is)
theorem Zuw (l:List XF):XF.mk (U2 l).at_ (U2 l).age (U2 l).letter (U2 l).is=U2 l:=rfl
theorem Zq4 (w:Zb) (p k:Nat):∀ s ∈ Xe w p k,s.here=true:=fun s hs=>by
 unfold Xe at hs;obtain⟨m,_,hm⟩:=List.mem_filterMap.1 hs;by_cases h:(E w m p).here=true
 ·rw [if_pos h] at hm;cases hm;rfl
 ·rw [if_neg h] at hm;cases hm
theorem Zqo (x:Ze) (p j:Nat):∀ s ∈ Wy x p j,s.here=false:=fun s hs=>by
 unfold Wy at hs;obtain⟨m,_,hm⟩:=List.mem_filterMap.1 hs;by_cases h:x.qV.getD m 0= (p:Int)
 ·rw [if_pos h] at hm;cases hm;rfl
 ·rw [if_neg h] at hm;cases hm
theorem Zpm {F:Nat} (hF:1000 <=F) {w:Zb} (s:WN w) (hv:∀ x ∈ w.qG,x.Yk.length=x.qV.length∧x.qV.length <=900) (hw:w.qG.length < 900) {p:Nat} (hp:p < w.Zv.length):
 ZrF F w (p:Int)=some (U2 (QJ w p),decide ((QJ w p).length=1)):=by
 have h0:=s.m2;have hh:=ZcW w p w.qQ.length
 have hlen:∀ k,k <=w.qG.length ->(KC w p k).length <=900 * 900:=fun k hk=>by
  have:=ZkR (fun x hx=>(hv x hx).2) p k hk;exact Nat.le_trans this (by apply Nat.mul_le_mul (Nat.le_refl _);omega)
 have h1:loop F (Zjo F w (p:Int)) (stR ((Xe w p w.qQ.length).map Zdp) 0)=some (U2 (QJ w p),decide ((QJ w p).length=1)):=by
  refine Yp (fun k=>stR ((Xe w p w.qQ.length).map Zdp ++ KC w p k) k) (by simp [KC]) (n:=w.qG.length) (by omega) (fun k hk next=>?_) (fun next=>?_)
  ·have hl:=hlen k (by omega);have hgx:ZQ w.qG (k:Int)=some (ZB w k):=YM default hk;have hx:ZB w k ∈ w.qG:=Yj hk;obtain⟨v1,v2⟩:=hv _ hx;rw [ZhS];generalize ZB w k=x at *;have hll:((Xe w p w.qQ.length).map Zdp ++ KC w p k).length <=5 + 900 * 900:=by rw [List.length_append,List.length_map];omega
   rw [← List.append_assoc];generalize (Xe w p w.qQ.length).map Zdp ++ KC w p k=l at hll ⊢;unfold Zjo;dsimp only [stR];rw [ZO hk,Cq1,hgx];simp only [Bq0];refine Yp (fun j=>stR (l ++ (Wy x p j).map (ZnO k)) j) (by simp [Wy,stR]) (n:=x.qV.length) (by omega) (fun j hj Zxg=>?_) (fun Zxg=>?_)
   ·have hl2:=Zeh x p j;rw [Zfs];unfold ZmV;dsimp only [stR];rw [ZO hj,Cq1,YM 0 hj];simp only [Bq0];rw [decide_eq_true (show(j:Int) < (x.Yk.length:Int) by omega),Bool.and_true,Yg,ZaQ];unfold Zjm;dsimp only;by_cases hq:x.qV.getD j 0= (p:Int)
    ·rw [if_pos hq,if_pos hq,YM 0 (show j < x.Yk.length by omega)];simp only [Bq0];rw [YD (by rw [List.length_append,List.length_map];omega),YD (by omega),List.map_append,← List.append_assoc,List.map_cons,List.map_nil,Ziy];simp [ZnO,Int.add_assoc]
    ·rw [if_neg hq,if_neg hq,YD (by omega),List.append_nil]
   ·unfold ZmV;dsimp only [stR];rw [ZT,Cq0,YD (by omega)]
  ·unfold Zjo;dsimp only [stR];rw [ZT,Cq0,Zuw,Yg];unfold QJ;congr 2;by_cases h:((Xe w p w.qQ.length).map Zdp ++ KC w p w.qG.length).length=1
   ·rw [decide_eq_true h,decide_eq_true (by omega)]
   ·rw [decide_eq_false h,decide_eq_false (by omega)]
 unfold ZrF;refine Yp (fun k=>stR ((Xe w p k).map Zdp) k) (by rfl) (n:=w.qQ.length) (by omega) (fun k hk next=>?_) (fun next=>?_)
 ·unfold ZmW;dsimp only [stR];rw [ZO hk,Cq1,s.row hk];simp only [Bq0];rw [s.ent hk hp];simp only [Bq0];have hl:=ZcW w p k;rw [JF];unfold Zjn;dsimp only;cases hE:(E w k p).here with
  | true=>
    simp only [Cq1,if_true];rw [YD (by rw [List.length_map];omega),YD (by omega),List.map_append,List.map_cons,List.map_nil,Ziy];simp [Zdp]
  | false=>
    simp only [Cq0];rw [YD (by omega)];simp
 ·unfold ZmW;dsimp only [stR];rw [ZT];exact h1
def toS (s:XF):Yr:= ⟨s.at_,s.is,s.age⟩
theorem ZdH {α β:Type} (l:List α) (d:α) (f:α ->List β):(List.range l.length).flatMap (fun i=>f (l.getD i d))=l.flatMap f:=by
 induction l with
 | nil=>rfl
 | cons x l ih=>
   rw [List.length_cons,List.range_succ_eq_map,List.flatMap_cons,List.flatMap_map,List.flatMap_cons];have:(fun a=>f ((x::l).getD a.succ d))=fun a=>f (l.getD a d):=by funext a;simp
   rw [this,ih];rfl
theorem ZsY {w:Zb} (hp:∀ x ∈ w.qG,x.kind=2∨x.qV= []) (p:Nat):(QJ w p).map toS=YC w p:=by
 unfold QJ YC KC X3;rw [List.map_append,List.map_map,List.map_flatMap];congr 1
 ·have:∀ s ∈ Xe w p w.qQ.length,(toS ∘ Zdp) s=id s:=fun s hs=>by
   have:=Zq4 w p _ s hs;cases s;simp only [Function.comp,Zdp,toS,id] at this ⊢;rw [this]
  rw [List.map_congr_left this,List.map_id]
 ·rw [← ZdH w.qG default];unfold List.flatMap;congr 1;apply List.map_congr_left;intro i hi;have hx:w.qG.getD i default ∈ w.qG:=Yj (List.mem_range.1 hi);rw [List.map_map];unfold ZB;generalize w.qG.getD i default=x at *
  have h1:∀ s ∈ Wy x p x.qV.length,(toS ∘ ZnO i) s=id s:=fun s hs=>by
   have:=Zqo x p _ s hs;cases s;simp only [Function.comp,ZnO,toS,id] at this ⊢;rw [this]
  rw [List.map_congr_left h1,List.map_id];unfold WQ;rcases hp x hx with h | h
  ·rw [if_pos h]
  ·rw [h];by_cases hk:x.kind=2
   ·rw [if_pos hk]
   ·rw [if_neg hk];simp [Wy]
theorem ZBL {w:Zb} (hp:∀ x ∈ w.qG,x.kind=2∨x.qV= []) (p:Nat):toS (U2 (QJ w p))=WZ (YC w p):=by
 rw [← ZsY hp];unfold U2 WZ;rcases List.eq_nil_or_concat (QJ w p) with h | ⟨l,x,h⟩
 ·rw [h];rfl
 ·rw [h];simp
theorem len_eq {w:Zb} (hp:∀ x ∈ w.qG,x.kind=2∨x.qV= []) (p:Nat):(YC w p).length= (QJ w p).length:=by rw [← ZsY hp,List.length_map]
theorem Pur.two {x:Ze} (h:Pur x):x.kind=2∨x.qV= []:=by
 rcases h with⟨_,_,_,_,a,b⟩ | ⟨a,_⟩ | ⟨_,_,a,b⟩
 ·exact .inr a
 ·exact .inl a
 ·exact .inr a
theorem ShR.two {w:Zb} (h:ShR w):∀ x ∈ w.qG,x.kind=2∨x.qV= []:=fun x hx=>(h.Xd x hx).Y9.two
def MvX (w:Zb) (x:Ze):Prop:=x.kind=1∨x.kind=3∨(x.kind=2∧x.qV ≠ []∧x.Yk.length=x.qV.length∧Plc w x)
theorem ZqM {F:Nat} (hF:1000 <=F) {w:Zb} (sm:WM 900 w):∃ b,Zu1 F w=some b∧(b=true↔∀ x ∈ w.qG,MvX w x):=by
 unfold Zu1;refine J3 false (some true) (fun k=>(k:Int)) rfl (fun k=>∃ h:k < w.qG.length,¬ MvX w w.qG[k]) (n:=w.qG.length) (by have:=sm.qG;omega) (fun k hk=>?_) (fun next=>?_) (fun k hk hc=>?_) (fun hlt=>⟨true,rfl,?_⟩)
 ·have hwl:=sm.qG;have hx:w.qG[k] ∈ w.qG:=List.getElem_mem hk;obtain⟨s1,s2⟩:=sm.Xd _ hx;generalize hX:w.qG[k]=x at *;have hgx:ZQ w.qG (k:Int)=some x:=by rw [XI hk,hX]
  have bad:(∀ next,Zao F w (k:Int) next=some false)∧¬ MvX w x∨(∀ next,Zao F w (k:Int) next=next ((k + 1:Nat):Int))∧MvX w x:=by
   by_cases h1:x.kind=1
   ·refine .inr ⟨fun next=>?_,.inl h1⟩;unfold Zao;rw [ZO hk,Cq1,hgx];simp only [Bq0];rw [h1];show Zbh (k:Int) next ()=_;unfold Zbh;rw [YD (by omega)]
   ·have b0:∀ next,Zao F w (k:Int) next=ZdP F w (k:Int) next x (x.kind==3):=fun next=>by
     unfold Zao;rw [ZO hk,Cq1,hgx];simp only [Bq0];rw [Yg x.kind 1,decide_eq_false h1];rfl
    by_cases h3:x.kind=3
    ·refine .inr ⟨fun next=>?_,.inr (.inl h3)⟩;rw [b0,h3];show Zbh (k:Int) next ()=_;unfold Zbh;rw [YD (by omega)]
    ·by_cases h2:x.kind=2
     ·have b1:∀ next,Zao F w (k:Int) next=bif((decide ((x.qV.length:Int) < 1)) || ((x.Yk.length:Int) != (x.qV.length:Int))) then some false else loop F (ZdQ w (k:Int) next x) 0:=fun next=>by
       rw [b0];unfold ZdP;rw [Yg x.kind 3,decide_eq_false h3,Cq0,h2];rfl
      by_cases hl:x.qV ≠ []∧x.Yk.length=x.qV.length
      ·have hpos:=List.length_pos_iff.2 hl.1
       have b2:∀ next,Zao F w (k:Int) next=loop F (ZdQ w (k:Int) next x) 0:=fun next=>by
        rw [b1,decide_eq_false (by omega),QZ,decide_eq_false (by omega)];rfl
       have step:∀ (next:Int ->Option Bool) (i:Nat),i < x.qV.length ->∀ nx,ZdQ w (k:Int) next x (i:Int) nx=open Classical in if Ke w x i then nx ((i + 1:Nat):Int) else some false:=fun next i hi nx=>by
        have:=Zox w x hi (by omega) s1 false (nx (Xa ((i:Int) + 1)));unfold ZdQ;rw [ZO hi,Cq1,this,YD (by omega)]
       by_cases hpl:Plc w x
       ·refine .inr ⟨fun next=>?_,.inr (.inr ⟨h2,hl.1,hl.2,hpl⟩)⟩;rw [b2];refine Yp (fun i=>(i:Int)) rfl (n:=x.qV.length) (by omega) (fun i hi nx=>?_) (fun nx=>?_)
        ·rw [step next i hi nx,if_pos (hpl i hi)]
        ·unfold ZdQ;rw [ZT,Cq0];unfold Zbh;rw [YD (by omega)]
       ·have hz:∃ i,i < x.qV.length∧¬ Ke w x i:=Classical.byContradiction fun q=>hpl fun i hi=>Classical.byContradiction fun q2=>q ⟨i,hi,q2⟩
        obtain⟨i0,hi0⟩:=hz;obtain⟨i1,_,hi1,hlt⟩:=X5 (c:=fun i=>i < x.qV.length∧¬ Ke w x i) hi0;refine .inl ⟨fun next=>?_,fun l=>?_⟩
        ·rw [b2];refine Yp (fun i=>(i:Int)) rfl (n:=i1) (by omega) (fun i hi nx=>?_) (fun nx=>?_)
         ·rw [step next i (by omega) nx,if_pos (Classical.byContradiction fun q=>hlt i hi ⟨by omega,q⟩)]
         ·rw [step next i1 hi1.1 nx,if_neg hi1.2]
        ·rcases l with q | q | ⟨_,_,_,q⟩
         ·exact h1 q
         ·exact h3 q
         ·exact hpl q
      ·refine .inl ⟨fun next=>?_,fun l=>?_⟩
       ·rw [b1]
        have:((decide ((x.qV.length:Int) < 1)) || ((x.Yk.length:Int) != (x.qV.length:Int)))=true:=by
         rw [← Bool.not_eq_false];intro hf;simp only [Bool.or_eq_false_iff,decide_eq_false_iff_not,bne_eq_false_iff_eq] at hf;exact hl ⟨List.length_pos_iff.1 (by omega),by omega⟩
        rw [this];rfl
       ·rcases l with q | q | ⟨_,q1,q2,_⟩
        ·exact h1 q
        ·exact h3 q
        ·exact hl ⟨q1,q2⟩
     ·refine .inl ⟨fun next=>?_,fun l=>?_⟩
      ·rw [b0];unfold ZdP;rw [Yg x.kind 3,decide_eq_false h3,Cq0,Yg x.kind 2,decide_eq_false h2];rfl
      ·rcases l with q | q | ⟨q,_⟩
       ·exact h1 q
       ·exact h3 q
       ·exact h2 q
  rcases bad with⟨b1,b2⟩ | ⟨b1,b2⟩
  ·exact .inl ⟨b1,hk,by rwa [hX]⟩
  ·exact .inr ⟨b1,fun⟨_,q⟩=>by rw [hX] at q;exact q b2⟩
 ·unfold Zao;rw [ZT];rfl
 ·simp only [Bool.false_eq_true,false_iff];obtain⟨h,q⟩:=hc;intro s;exact q (s _ (List.getElem_mem h))
 ·refine⟨fun _ x hx=>?_,fun _=>rfl⟩;obtain⟨k,hk,rfl⟩:=List.getElem_of_mem hx;exact Classical.byContradiction fun q=>hlt k hk ⟨hk,q⟩
end Go.Proofs.YtbmbbcaaimehkaaGreat
end
section
namespace Go.Proofs.YtbmbbcaaimehkaaGreat
open Go.Lf
section
variable {β γ:Type} {R:β ->Prop}
theorem Zjz {body:γ ->(γ ->Option β) ->Option β} (r1:Nat ->β) (r2:Option β) {s0:γ} (S:Nat ->γ) (h0:S 0=s0) (c:Nat ->Prop) {n F:Nat} (hF:n < F)
 (hb:∀ k,k < n ->((∀ next,body (S k) next=some (r1 k))∧c k)∨((∀ next,body (S k) next=next (S (k + 1)))∧¬ c k)) (he:∀ next,body (S n) next=r2)
 (h1:∀ k,k < n ->c k ->R (r1 k)) (h2:(∀ k,k < n ->¬ c k) ->∃ b,r2=some b∧R b):∃ b,loop F body s0=some b∧R b:=by
 by_cases hz:∃ k,k < n∧c k
 ·obtain⟨k0,hk0⟩:=hz;obtain⟨m,hm,⟨hmn,hcm⟩,hlt⟩:=X5 (c:=fun k=>k < n∧c k) hk0;refine⟨r1 m,Yp S h0 (n:=m) (by omega) (fun k hk=>?_) ?_,h1 m hmn hcm⟩
  ·rcases hb k (by omega) with⟨_,q⟩ | ⟨q,_⟩
   ·exact absurd ⟨by omega,q⟩ (hlt k hk)
   ·exact q
  ·rcases hb m hmn with⟨q,_⟩ | ⟨_,q⟩
   ·exact q
   ·exact absurd hcm q
 ·have hno:∀ k,k < n ->¬ c k:=fun k hk q=>hz ⟨k,hk,q⟩
  obtain⟨b,e,hR⟩:=h2 hno;refine⟨b,?_,hR⟩;rw [← e];exact Yp S h0 hF (fun k hk=>(hb k hk).elim (fun q=>absurd q.2 (hno k hk)) fun q=>q.1) he
end
theorem Zaq {F:Nat} (hF:1000 <=F) {l:List Int} (hl:l.length <=900) (x:Int):∃ b,Zpq F l x=some b∧(b=true↔x ∈ l):=by
 have:∃ k,Zzs F l x=some k∧(0 <=k↔x ∈ l):=by
  unfold Zzs;refine Zjz (fun k=>(k:Int)) (some (-1)) (fun k=>(k:Int)) rfl (fun k=>∃ h:k < l.length,x=l[k]) (n:=l.length) (by omega) (fun k hk=>?_) (fun next=>?_) (fun k hk hc=>?_) (fun hno=>⟨-1,rfl,?_⟩)
  ·by_cases h:x=l[k]
   ·refine .inl ⟨fun next=>?_,hk,h⟩;unfold Zi1;rw [ZO hk,Cq1,XI hk];simp only [Bq0];rw [Yg,decide_eq_true h];rfl
   ·refine .inr ⟨fun next=>?_,fun⟨_,q⟩=>h q⟩;unfold Zi1;rw [ZO hk,Cq1,XI hk];simp only [Bq0];rw [Yg,decide_eq_false h,Cq0,YD (by omega)]
  ·unfold Zi1;rw [ZT];rfl
  ·obtain⟨h,e⟩:=hc;exact⟨fun _=>e ▸ List.getElem_mem h,fun _=>by omega⟩
  ·refine⟨fun q=>absurd q (by omega),fun q=>?_⟩;obtain⟨k,hk,e⟩:=List.getElem_of_mem q;exact absurd ⟨hk,e.symm⟩ (hno k hk)
 obtain⟨k,h1,h2⟩:=this;refine⟨decide (k >=0),?_,?_⟩
 ·unfold Zpq;rw [h1];rfl
 ·rw [decide_eq_true_eq];exact h2
def ZjZ (w:Zb) (p q:Int):Prop:=∃ x ∈ w.qG,x.kind=2∧p ∈ x.qV∧q ∈ x.qV
theorem Zuf {F:Nat} (hF:1000 <=F) {w:Zb} (sm:WM 900 w) (l:List Yr) (p q:Int):∃ b,ZrB F ⟨w,l⟩ p q=some b∧(b=true↔ZjZ w p q):=by
 unfold ZrB;have hwl:=sm.qG;refine Zjz (fun _=>true) (some false) (fun k=>(k:Int)) rfl (fun k=>∃ h:k < w.qG.length,(w.qG[k]).kind=2∧p ∈ (w.qG[k]).qV∧q ∈ (w.qG[k]).qV) (n:=w.qG.length) (by omega) (fun k hk=>?_) (fun next=>?_) (fun k hk hc=>?_) (fun hno=>⟨false,rfl,?_⟩)
 ·have hx:w.qG[k] ∈ w.qG:=List.getElem_mem hk;obtain⟨s1,s2⟩:=sm.Xd _ hx;obtain⟨b1,e1,i1⟩:=Zaq (F:=F) hF (l:=w.qG[k].qV) (by omega) p;obtain⟨b2,e2,i2⟩:=Zaq (F:=F) hF (l:=w.qG[k].qV) (by omega) q
  have hb:∀ next,Zi3 F ⟨w,l⟩ p q (k:Int) next=bif(((w.qG[k].kind==2) && b1) && b2) then some true else next ((k + 1:Nat):Int):=fun next=>by
   unfold Zi3;rw [ZO hk,Cq1,XI hk];simp only [Bq0];rw [e1,e2];cases h2:(w.qG[k].kind==2)
   ·simp only [Xv,Bq0,Bool.false_and,Cq0];rw [YD (by omega)]
   ·simp only [YR,Bq0,Bool.true_and];cases b1
    ·simp only [Xv,Bq0,Bool.false_and,Cq0];rw [YD (by omega)]
    ·simp only [YR,Bq0,Bool.true_and];cases b2
     ·simp only [Cq0];rw [YD (by omega)]
     ·simp only [Cq1];unfold Zi2;rw [ZeQ]
  by_cases hc:w.qG[k].kind=2∧p ∈ w.qG[k].qV∧q ∈ w.qG[k].qV
  ·refine .inl ⟨fun next=>?_,hk,hc⟩;rw [hb,Yg,decide_eq_true hc.1,i1.2 hc.2.1,i2.2 hc.2.2];rfl
  ·refine .inr ⟨fun next=>?_,fun⟨_,z⟩=>hc z⟩;rw [hb]
   have:(((w.qG[k].kind==2) && b1) && b2)=false:=by
    rw [← Bool.not_eq_true];intro z;simp only [Ba0,beq_iff_eq] at z;exact hc ⟨z.1.1,i1.1 z.1.2,i2.1 z.2⟩
   rw [this];rfl
 ·unfold Zi3;rw [ZT];rfl
 ·obtain⟨h,z⟩:=hc;exact⟨fun _=>⟨_,List.getElem_mem h,z⟩,fun _=>rfl⟩
 ·simp only [Bool.false_eq_true,false_iff];rintro⟨x,hx,z⟩;obtain⟨k,hk,rfl⟩:=List.getElem_of_mem hx;exact hno k hk ⟨hk,z⟩
def sp (w:Zb) (p:Nat):Yr:=WZ (YC w p)
def spL (w:Zb):List Yr:= (List.range w.Zv.length).map (sp w)
def ZIZ (w:Zb) (p:Nat):Prop:= (YC w p).length=1∧(0 <=inn w p ->(sp w (inn w p).toNat).machine= (sp w p).machine∧(sp w (inn w p).toNat).here= (sp w p).here∧((sp w p).here=false ->ZjZ w p (inn w p)))
def spK (w:Zb) (k:Nat):List Yr:= (List.range k).map (sp w) ++ List.replicate (w.Zv.length - k) ⟨0,false,0⟩
theorem Zsx {w:Zb} {k:Nat} (h:k < w.Zv.length):Yv (spK w k) (k:Int) (sp w k)=spK w (k + 1):=by
 unfold Yv spK;rw [Int.toNat_natCast,List.set_append_right _ _ (by simp),List.range_succ,List.map_append,List.append_assoc];congr 1;rw [List.length_map,List.length_range,Nat.sub_self,show w.Zv.length - k= (w.Zv.length - (k + 1)) + 1 by omega,List.replicate_succ,List.set_cons_zero];rfl
theorem ZBu {w:Zb} {k:Nat} (h:k <=w.Zv.length):(spK w k).length=w.Zv.length:=by simp [spK];omega
theorem ZBv (w:Zb):spK w w.Zv.length=spL w:=by simp [spK,spL]
theorem MvX.mvd {w:Zb} (sm:WM 900 w) (h:∀ x ∈ w.qG,MvX w x):Mvd 900 w.qG:=fun x hx hk=>by
 rcases h x hx with q | q | ⟨_,_,q,_⟩
 ·omega
 ·omega
 ·exact⟨q,by have:= (sm.Xd x hx).1;omega⟩
theorem Zkc {F:Nat} (hF:1000 <=F) (hM:F <=1000000) {w:Zb} (s:WN w) (hi:Inn w) (sm:WM 900 w) (hv:Mvd 900 w.qG):
 ∃ x,ZzD F ⟨w,List.replicate w.Zv.length ⟨0,false,0⟩⟩=some x∧((x.2=true↔∀ p,p < w.Zv.length ->ZIZ w p)∧(x.2=true ->x.1= ⟨w,spL w⟩)):=by
 have h8:=s.p2;have hwh:∀ p,p < w.Zv.length ->ZdR F w (p:Int)=some (sp w p,((YC w p).length:Int)):=fun p hp=>ZhR hF hM s hv sm.qG hp
 unfold ZzD
 let l1:Nat ->List Yr:=fun k=>if(YC w k).length=1 then spK w (k + 1) else spK w k
 refine Zjz (fun k=>(⟨w,l1 k⟩,false)) (some (⟨w,spL w⟩,true)) (fun k=>((k:Int),spK w k)) (by simp [spK]) (fun k=>¬ ZIZ w k) (n:=w.Zv.length) (by omega) (fun k hk=>?_) (fun next=>?_) (fun k hk hc=>?_) (fun hno=>⟨_,rfl,?_⟩)
 ·have hok:=hi.rng k hk
  have b0:∀ next,ZfZ F ⟨w,List.replicate w.Zv.length ⟨0,false,0⟩⟩ ((k:Int),spK w k) next= (bif(((YC w k).length:Int) !=1) then some (⟨w,spK w k⟩,false) else(bif decide (inn w k < 0) then Zcn (k:Int) next (Yv (spK w k) (k:Int) (sp w k)) else(ZdR F w (inn w k)).bind fun x37=>(gd ((!((x37.1.machine != (sp w k).machine) || (x37.1.here != (sp w k).here))) && (!(sp w k).here)) (ZrB F ⟨w,Yv (spK w k) (k:Int) (sp w k)⟩ (k:Int) (inn w k)) default).bind fun x44=>(bif(((x37.1.machine != (sp w k).machine) || (x37.1.here != (sp w k).here)) || ((!(sp w k).here) && (!x44))) then some (⟨w,Yv (spK w k) (k:Int) (sp w k)⟩,false) else Zcn (k:Int) next (Yv (spK w k) (k:Int) (sp w k))))):=fun next=>by
   unfold ZfZ;dsimp only;rw [ZO hk,Cq1,XO hk];simp only [Bq0];rw [hwh k hk];simp only [Bq0];rw [YM ⟨0,false,0⟩ (show k < (spK w k).length by rw [ZBu (by omega)];exact hk)];simp only [Bq0]
  by_cases h1:(YC w k).length=1
  ·have e1:(((YC w k).length:Int) !=1)=false:=by rw [h1];rfl
   have hl1:l1 k=spK w (k + 1):=if_pos h1;have jn:∀ next,Zcn (k:Int) next (spK w (k + 1))=next (((k + 1:Nat):Int),spK w (k + 1)):=fun next=>by unfold Zcn;rw [YD (by omega)]
   by_cases h2:inn w k < 0
   ·refine .inr ⟨fun next=>?_,fun q=>q ⟨h1,fun z=>by omega⟩⟩;rw [b0,e1,Cq0,decide_eq_true h2,Cq1,Zsx hk,jn]
   ·obtain⟨q,eq,hq⟩:=JZ hok h2;obtain⟨b,hb,hbi⟩:=Zuf hF sm (spK w (k + 1)) (k:Int) (inn w k)
    have b1:∀ next,ZfZ F ⟨w,List.replicate w.Zv.length ⟨0,false,0⟩⟩ ((k:Int),spK w k) next=bif((((sp w q).machine != (sp w k).machine) || ((sp w q).here != (sp w k).here)) || ((!(sp w k).here) && (!(bif((!(((sp w q).machine != (sp w k).machine) || ((sp w q).here != (sp w k).here))) && (!(sp w k).here)) then b else default)))) then some (⟨w,spK w (k + 1)⟩,false) else next (((k + 1:Nat):Int),spK w (k + 1)):=fun next=>by
     rw [b0,e1,Cq0,decide_eq_false h2,Cq0,Zsx hk,hb,eq,hwh q hq];simp only [Bq0];have hgd:∀ c:Bool,gd c (some b) (default:Bool)=some (bif c then b else default):=fun c=>by cases c <;> rfl
     rw [hgd];simp only [Bq0];rw [jn]
    have eqn:(inn w k).toNat=q:=by omega
    by_cases ht:(sp w q).machine= (sp w k).machine∧(sp w q).here= (sp w k).here∧((sp w k).here=false ->ZjZ w k (inn w k))
    ·refine .inr ⟨fun next=>?_,fun z=>z ⟨h1,fun _=>by rw [eqn];exact ht⟩⟩;rw [b1,ht.1,ht.2.1];simp only [QE,Bool.or_self,Bool.not_false,Bool.true_and,Bool.false_or];cases hh:(sp w k).here with
     | true=>rfl
     | false=>
       rw [hbi.2 (ht.2.2 hh)];rfl
    ·refine .inl ⟨fun next=>?_,fun z=>ht (by have:=z.2 (by omega);rwa [eqn] at this)⟩;rw [b1,hl1]
     have:((((sp w q).machine != (sp w k).machine) || ((sp w q).here != (sp w k).here)) || ((!(sp w k).here) && (!(bif((!(((sp w q).machine != (sp w k).machine) || ((sp w q).here != (sp w k).here))) && (!(sp w k).here)) then b else default))))=true:=by
      rw [← Bool.not_eq_false];intro hf;rw [Bool.or_eq_false_iff] at hf;obtain⟨hf1,hf2⟩:=hf;rw [hf1] at hf2;rw [Bool.or_eq_false_iff,bne_eq_false_iff_eq,bne_eq_false_iff_eq] at hf1;refine ht ⟨hf1.1,hf1.2,fun hh=>?_⟩;rw [hh] at hf2;simp only [Bool.not_false,Bool.and_self,Cq1,Bool.true_and,Bool.not_eq_false'] at hf2;exact hbi.1 hf2
     rw [this];rfl
  ·refine .inl ⟨fun next=>?_,fun z=>h1 z.1⟩;have hl1:l1 k=spK w k:=if_neg h1;rw [b0,hl1,QZ,decide_eq_true (by omega)];rfl
 ·unfold ZfZ;dsimp only;rw [ZT,Cq0,ZBv]
 ·refine⟨?_,fun q=>by cases q⟩;simp only [Bool.false_eq_true,false_iff];intro z;exact hc (z k hk)
 ·exact⟨⟨fun _ p hp=>Classical.byContradiction (hno p hp),fun _=>rfl⟩,fun _=>rfl⟩
def RtX (w:Zb) (p:Nat) (m a:Int):Prop:=0 <=a∧a <= (sp w p).age∧0 <=m∧m < (w.qQ.length:Int)∧(a= (sp w p).age ->m= (sp w p).machine)∧(a ≠ (sp w p).age ->a < (E w m.toNat p).age)
instance (w:Zb) (p:Nat) (m a:Int):Decidable (RtX w p m a):=by unfold RtX;infer_instance
theorem Zsw {w:Zb} {p:Nat} (hp:p < w.Zv.length):ZQ (spL w) (p:Int)=some (sp w p):=by
 rw [YM default (by simp [spL];exact hp)];simp [spL,hp]
theorem ZdG {w:Zb} (s:WN w) {p:Nat} (hp:p < w.Zv.length) (m a:Int):ZmI ⟨w,spL w⟩ (p:Int) m a=some (decide (RtX w p m a)):=by
 unfold ZmI;rw [Zsw hp];simp only [Bq0];unfold ZmH;dsimp only;by_cases h1:0 <=a∧a <= (sp w p).age
 ·rw [decide_eq_false (show ¬ a < 0 by omega),decide_eq_false (show ¬ a > (sp w p).age by omega)];simp only [Bool.or_self,Bool.not_false,YR,Bq0,Bool.false_or];by_cases h2:0 <=m∧m < (w.qQ.length:Int)
  ·rw [decide_eq_true h2.1,decide_eq_true h2.2];simp only [Bool.and_self,Bool.not_true,Cq0];by_cases h3:a= (sp w p).age
   ·rw [Yg,decide_eq_true h3,Cq1,Yg];congr 1;by_cases h4:m= (sp w p).machine
    ·rw [decide_eq_true h4,decide_eq_true (show RtX w p m a from⟨h1.1,h1.2,h2.1,h2.2,fun _=>h4,fun q=>absurd h3 q⟩)]
    ·rw [decide_eq_false h4,decide_eq_false (fun q:RtX w p m a=>h4 (q.2.2.2.2.1 h3))]
   ·obtain⟨k,rfl⟩:∃ k:Nat,m= (k:Int):= ⟨m.toNat,by omega⟩
    rw [Yg,decide_eq_false h3,Cq0,s.row (by omega)];simp only [Bq0];rw [s.ent (by omega) hp];simp only [Bq0];congr 1;by_cases h4:(E w k p).age > a
    ·rw [decide_eq_true h4,decide_eq_true (show RtX w p (k:Int) a from⟨h1.1,h1.2,h2.1,h2.2,fun q=>absurd q h3,fun _=>h4⟩)]
    ·rw [decide_eq_false h4,decide_eq_false (fun q:RtX w p (k:Int) a=>h4 (q.2.2.2.2.2 h3))]
  ·have:(decide (m >=0) && decide (m < (w.qQ.length:Int)))=false:=by
    rw [← Bool.not_eq_true];intro z;simp only [Ba0,decide_eq_true_eq] at z;exact h2 z
   rw [this,decide_eq_false (fun q:RtX w p m a=>h2 ⟨q.2.2.1,q.2.2.2.1⟩)];rfl
 ·have:(decide (a < 0) || decide (a > (sp w p).age))=true:=by
   rw [← Bool.not_eq_false];intro z;simp only [Bool.or_eq_false_iff,decide_eq_false_iff_not] at z;exact h1 ⟨by omega,by omega⟩
  rw [this,decide_eq_false (fun q:RtX w p m a=>h1 ⟨q.1,q.2.1⟩)];rfl
end Go.Proofs.YtbmbbcaaimehkaaGreat
end
section
namespace Go.Proofs.YtbmbbcaaimehkaaGreat
open Go.Lf
def Zsk (w:Zb) (m p:Nat):Prop:=
 (E w m p= ⟨true,(m:Int),(E w m p).age⟩∧0 <= (E w m p).age∧(E w m p).age <=30)∨
 (E w m p ≠ ⟨true,(m:Int),(E w m p).age⟩∧(E w m p).here=false∧(E w m p).Z9 ≠ (m:Int)∧RtX w p (E w m p).Z9 (E w m p).age)
theorem Znc {F:Nat} (hF:1000 <=F) {w:Zb} (s:WN w):∃ b,Zu0 F ⟨w,spL w⟩=some b∧(b=true↔∀ m,m < w.qQ.length ->∀ p,p < w.Zv.length ->Zsk w m p):=by
 have h5:=s.m2;have h8:=s.p2;unfold Zu0;refine J3 false (some true) (fun k=>(k:Int)) rfl (fun m=>¬ ∀ p,p < w.Zv.length ->Zsk w m p) (n:=w.qQ.length) (by omega) (fun m hm=>?_) (fun next=>?_) (fun k hk hc=>?_) (fun hno=>⟨true,rfl,fun _ m hm=>Classical.byContradiction (hno m hm),fun _=>rfl⟩)
 ·have b0:∀ next,Zja F ⟨w,spL w⟩ (m:Int) next=loop F (ZfY ⟨w,spL w⟩ (m:Int) next (row w m)) 0:=fun next=>by
   unfold Zja;rw [ZO hm,Cq1,s.row hm];rfl
  have step:∀ (next:Int ->Option Bool) (p:Nat),p < w.Zv.length ->∀ nx,ZfY ⟨w,spL w⟩ (m:Int) next (row w m) (p:Int) nx=open Classical in if Zsk w m p then nx ((p + 1:Nat):Int) else some false:=fun next p hp nx=>by
   unfold ZfY;rw [s.len hm,ZO hp,Cq1,s.ent hm hp];simp only [Bq0];have hj:ZfX (p:Int) nx ()=nx ((p + 1:Nat):Int):=by unfold ZfX;rw [YD (by omega)]
   by_cases he:E w m p= ⟨true,(m:Int),(E w m p).age⟩
   ·rw [(Zg4 _ _).2 he,Cq1];by_cases ha:0 <= (E w m p).age∧(E w m p).age <=30
    ·rw [if_pos (.inl ⟨he,ha⟩),decide_eq_false (by omega),decide_eq_false (by omega),Bool.or_self,Cq0,hj]
    ·have:(decide ((E w m p).age < 0) || decide ((E w m p).age > 30))=true:=by
      rw [← Bool.not_eq_false];intro z;simp only [Bool.or_eq_false_iff,decide_eq_false_iff_not] at z;exact ha ⟨by omega,by omega⟩
     rw [this,if_neg (by rintro(⟨_,q⟩ | ⟨q,_⟩);· exact ha q
                         ·exact q he)];rfl
   ·have e1:UN (E w m p) ⟨true,(m:Int),(E w m p).age⟩=false:=by rw [← Bool.not_eq_true,Zg4];exact he
    rw [e1,Cq0];by_cases h2:(E w m p).here=false∧(E w m p).Z9 ≠ (m:Int)
    ·have e2:((E w m p).here || ((E w m p).Z9== (m:Int)))=false:=by rw [h2.1,Yg,decide_eq_false h2.2];rfl
     rw [e2,Bool.not_false,YR,ZdG s hp];simp only [Bq0,Bool.false_or];by_cases h3:RtX w p (E w m p).Z9 (E w m p).age
     ·rw [decide_eq_true h3,if_pos (.inr ⟨he,h2.1,h2.2,h3⟩),Bool.not_true,Cq0,hj]
     ·rw [decide_eq_false h3,if_neg (by rintro(⟨q,_⟩ | ⟨_,_,_,q⟩);· exact he q
                                        ·exact h3 q)];rfl
    ·have e2:((E w m p).here || ((E w m p).Z9== (m:Int)))=true:=by
      rw [← Bool.not_eq_false];intro z;simp only [Bool.or_eq_false_iff,beq_eq_false_iff_ne] at z;exact h2 z
     rw [e2,if_neg (by rintro(⟨q,_⟩ | ⟨_,q1,q2,_⟩);· exact he q
                       ·exact h2 ⟨q1,q2⟩)];rfl
  by_cases hall:∀ p,p < w.Zv.length ->Zsk w m p
  ·refine .inr ⟨fun next=>?_,fun q=>q hall⟩;rw [b0];refine Yp (fun p=>(p:Int)) rfl (n:=w.Zv.length) (by omega) (fun p hp nx=>?_) (fun nx=>?_)
   ·rw [step next p hp nx,if_pos (hall p hp)]
   ·unfold ZfY;rw [s.len hm,ZT,Cq0,YD (by omega)]
  ·refine .inl ⟨fun next=>?_,hall⟩;have hz:∃ p,p < w.Zv.length∧¬ Zsk w m p:=Classical.byContradiction fun q=>hall fun p hp=>Classical.byContradiction fun q2=>q ⟨p,hp,q2⟩
   obtain⟨p0,hp0⟩:=hz;obtain⟨p1,_,hp1,hlt⟩:=X5 (c:=fun p=>p < w.Zv.length∧¬ Zsk w m p) hp0;rw [b0];refine Yp (fun p=>(p:Int)) rfl (n:=p1) (by omega) (fun p hp nx=>?_) (fun nx=>?_)
   ·rw [step next p (by omega) nx,if_pos (Classical.byContradiction fun q=>hlt p hp ⟨by omega,q⟩)]
   ·rw [step next p1 hp1.1 nx,if_neg hp1.2]
 ·unfold Zja;rw [ZT];rfl
 ·simp only [Bool.false_eq_true,false_iff];intro z;exact hc (z k hk)
def QR (w:Zb) (m:Int) (y:Zr):Prop:=0 <=y.place∧y.place < (w.Zv.length:Int)∧0 <=y.from_∧y.from_ < (w.qQ.length:Int)∧RtX w y.place.toNat m y.age∧1 <=y.hops∧y.hops <=Xa (1 + y.age)
theorem Zk5 {w:Zb} (s:WN w) (m:Int) (y:Zr):∃ b,ZuY ⟨w,spL w⟩ m y=some b∧(b=true↔QR w m y):=by
 unfold ZuY Zrx ZmH;simp only [Bq0];by_cases h1:0 <=y.place∧y.place < (w.Zv.length:Int)
 ·obtain⟨p,hp⟩:∃ p:Nat,y.place= (p:Int):= ⟨y.place.toNat,by omega⟩
  have hpl:p < w.Zv.length:=by omega
  rw [hp,decide_eq_true (show(p:Int) >=0 by omega),decide_eq_true (show(p:Int) < (w.Zv.length:Int) by omega)];simp only [Bool.and_self,YR,Bq0,Bool.true_and];by_cases h2:0 <=y.from_∧y.from_ < (w.qQ.length:Int)
  ·rw [decide_eq_true h2.1,decide_eq_true h2.2];simp only [Bool.and_self,YR,Bq0,Bool.true_and];rw [ZdG s hpl];refine⟨_,rfl,?_⟩;simp only [Ba0,decide_eq_true_eq];unfold QR;rw [hp,Int.toNat_natCast]
   constructor
   ·rintro⟨⟨a,b⟩,c⟩;exact⟨by omega,by omega,h2.1,h2.2,a,b,c⟩
   ·rintro⟨_,_,_,_,a,b,c⟩;exact⟨⟨a,b⟩,c⟩
  ·have:(decide (y.from_ >=0) && decide (y.from_ < (w.qQ.length:Int)))=false:=by
    rw [← Bool.not_eq_true];intro z;simp only [Ba0,decide_eq_true_eq] at z;exact h2 z
   rw [this];refine⟨_,rfl,?_⟩;simp only [Bool.false_and,Bool.false_eq_true,false_iff];rintro⟨_,_,a,b,_⟩;exact h2 ⟨a,b⟩
 ·have:(decide (y.place >=0) && decide (y.place < (w.Zv.length:Int)))=false:=by
   rw [← Bool.not_eq_true];intro z;simp only [Ba0,decide_eq_true_eq] at z;exact h1 z
  rw [this];refine⟨_,rfl,?_⟩;simp only [Bool.false_and,Bool.false_eq_true,false_iff];rintro⟨a,b,_⟩;exact h1 ⟨a,b⟩
def ZAQ (w:Zb) (x:Ze):Prop:=0 <=x.Z9∧x.Z9 < (w.qQ.length:Int)∧(x.kind ≠ 2 ->x.qV= []∧x.Yk= [])∧
 (x.kind=1 ->QR w x.Z9 x.Yb∧x.place=0∧x.at_=0∧x.age=0)∧
 (x.kind=3 ->x.at_ ≠ x.Z9∧0 <=x.place∧x.place < (w.Zv.length:Int)∧RtX w x.place.toNat x.at_ x.age∧x.Yb=ZsX)∧
 (x.kind ≠ 1 ->x.kind ≠ 3 ->x.Yb=ZsX∧x.place=0∧x.at_=0∧x.age=0)
theorem ZoI {w:Zb} (s:WN w) {x:Ze} (h9:x.qV.length <=900∧x.Yk.length <=900):∃ b,ZzC ⟨w,spL w⟩ x=some b∧(b=true↔ZAQ w x):=by
 unfold ZzC ZmH;simp only [Bq0];refine QX (fun hc=>⟨false,rfl,?_⟩) (fun hc=>?_)
 ·simp only [Bool.false_eq_true,false_iff];rintro⟨a,b,_⟩;rw [decide_eq_true (show x.Z9 >=0 from a),decide_eq_true b] at hc;cases hc
 simp only [Bool.not_eq_false',Ba0,decide_eq_true_eq] at hc;refine QX (fun hc2=>⟨false,rfl,?_⟩) (fun hc2=>?_)
 ·simp only [Bool.false_eq_true,false_iff];rintro⟨_,_,a,_⟩;simp only [Ba0,bne_iff_ne,decide_eq_true_eq] at hc2;obtain⟨a1,a2⟩:=a hc2.1;rw [a1,a2] at hc2;exact absurd hc2.2 (by decide)
 have hk2:x.kind ≠ 2 ->x.qV= []∧x.Yk= []:=fun hk=>by
  rw [QZ,decide_eq_true hk,Bool.true_and,decide_eq_false_iff_not,Zah (by omega) (by omega)] at hc2;exact⟨List.length_eq_zero_iff.1 (by omega),List.length_eq_zero_iff.1 (by omega)⟩
 have hj:∀ a b c d e f g h,ZfW x (a,b,c,d,e,f,g,h)=some ((((JI (Zr.mk a b c d e) x.Yb) && (f==x.place)) && (g==x.at_)) && (h==x.age)):=fun _ _ _ _ _ _ _ _=>rfl
 refine QX (fun h1=>?_) (fun h1=>?_)
 ·have h1:x.kind=1:=by simpa using h1
  obtain⟨b,hb,hbi⟩:=Zk5 s x.Z9 x.Yb;rw [hb];simp only [Bq0];refine QX (fun h2=>⟨false,rfl,?_⟩) (fun h2=>⟨_,hj _ _ _ _ _ _ _ _,?_⟩)
  ·simp only [Bool.false_eq_true,false_iff];rintro⟨_,_,_,a,_⟩;rw [hbi.2 (a h1).1] at h2;cases h2
  ·have h2:QR w x.Z9 x.Yb:=hbi.1 (by simpa using h2);simp only [Ba0,KV,beq_iff_eq]
   constructor
   ·rintro⟨⟨⟨_,a⟩,b⟩,c⟩;exact⟨hc.1,hc.2,hk2,fun _=>⟨h2,a.symm,b.symm,c.symm⟩,fun q=>by omega,fun q=>absurd h1 q⟩
   ·rintro⟨_,_,_,a,_⟩;obtain⟨_,a1,a2,a3⟩:=a h1;exact⟨⟨⟨trivial,a1.symm⟩,a2.symm⟩,a3.symm⟩
 have h1:x.kind ≠ 1:=by simpa using h1
 refine QX (fun h3=>?_) (fun h3=>?_)
 ·have h3:x.kind=3:=by simpa using h3
  unfold Zrx;dsimp only;by_cases hat:x.at_=x.Z9
  ·rw [hat,Yg,decide_eq_true rfl];refine⟨false,rfl,?_⟩;simp only [Bool.false_eq_true,false_iff];rintro⟨_,_,_,_,a,_⟩;exact(a h3).1 hat
  ·rw [Yg,decide_eq_false hat];simp only [Bool.not_false,YR,Bq0,Bool.false_or];by_cases hp:0 <=x.place∧x.place < (w.Zv.length:Int)
   ·rw [decide_eq_true (show x.place >=0 from hp.1),decide_eq_true hp.2];obtain⟨p,ep⟩:∃ p:Nat,x.place= (p:Int):= ⟨x.place.toNat,by omega⟩
    simp only [Bool.and_self,Bool.not_true,Bool.not_false,YR,Bool.false_or];rw [show ZmI ⟨w,spL w⟩ x.place x.at_ x.age=some (decide (RtX w x.place.toNat x.at_ x.age)) by rw [ep,ZdG s (by omega),Int.toNat_natCast]];simp only [Bq0];refine QX (fun h4=>⟨false,rfl,?_⟩) (fun h4=>⟨_,hj _ _ _ _ _ _ _ _,?_⟩)
    ·simp only [Bool.false_eq_true,false_iff];rintro⟨_,_,_,_,a,_⟩;rw [decide_eq_true (a h3).2.2.2.1] at h4;cases h4
    ·have h4:RtX w x.place.toNat x.at_ x.age:=by simpa using h4
     simp only [Ba0,KV,beq_iff_eq]
     constructor
     ·rintro⟨⟨⟨a,_⟩,_⟩,_⟩;exact⟨hc.1,hc.2,hk2,fun q=>absurd q h1,fun _=>⟨hat,hp.1,hp.2,h4,a.symm⟩,fun _ q=>absurd h3 q⟩
     ·rintro⟨_,_,_,_,a,_⟩;exact⟨⟨⟨(a h3).2.2.2.2.symm,trivial⟩,trivial⟩,trivial⟩
   ·have:(decide (x.place >=0) && decide (x.place < (w.Zv.length:Int)))=false:=by
     rw [← Bool.not_eq_true];intro z;simp only [Ba0,decide_eq_true_eq] at z;exact hp z
    rw [this];refine⟨false,rfl,?_⟩;simp only [Bool.false_eq_true,false_iff];rintro⟨_,_,_,_,a,_⟩;exact hp ⟨(a h3).2.1,(a h3).2.2.1⟩
 have h3:x.kind ≠ 3:=by simpa using h3
 refine⟨_,hj _ _ _ _ _ _ _ _,?_⟩;simp only [Ba0,KV,beq_iff_eq]
 constructor
 ·rintro⟨⟨⟨a,b⟩,c⟩,d⟩;exact⟨hc.1,hc.2,hk2,fun q=>absurd q h1,fun q=>absurd q h3,fun _ _=>⟨a.symm,b.symm,c.symm,d.symm⟩⟩
 ·rintro⟨_,_,_,_,_,a⟩;obtain⟨a1,a2,a3,a4⟩:=a h1 h3;exact⟨⟨⟨a1.symm,a2.symm⟩,a3.symm⟩,a4.symm⟩
def QW (l:List Ze):List Int:= (l.filter fun x=>x.kind==1).map fun x=>x.Yb.msg
def QA (l:List (List Zr)):List Int:=l.flatMap fun x=>x.map fun y=>y.msg
def msgs (w:Zb):List Int:=w.qK.flatten ++ QA w.qJ ++ QW w.qG
theorem ZcY {α:Type} {l:List (List α)} {k:Nat} (h:k < l.length):(l.take (k + 1)).flatten= (l.take k).flatten ++ l[k]:=by
 rw [List.take_add_one,List.getElem?_eq_getElem h,List.flatten_append];simp
theorem Zbf {l:List (List Zr)} {k:Nat} (h:k < l.length):QA (l.take (k + 1))=QA (l.take k) ++ l[k].map fun y=>y.msg:=by
 unfold QA;rw [List.take_add_one,List.getElem?_eq_getElem h,List.flatMap_append];simp
theorem ZgV {l:List Ze} {k:Nat} (h:k < l.length):QW (l.take (k + 1))=QW (l.take k) ++ if l[k].kind=1 then [l[k].Yb.msg] else []:=by
 unfold QW;rw [List.take_add_one,List.getElem?_eq_getElem h,List.filter_append,List.map_append];congr 1;by_cases hk:l[k].kind=1
 ·rw [if_pos hk];simp [hk]
 ·rw [if_neg hk];simp [hk]
theorem Zcm {α:Type} {l:List (List α)} {n:Nat} (h:∀ x ∈ l,x.length <=n):l.flatten.length <=n * l.length:=by
 induction l with
 | nil=>simp
 | cons x l ih=>
   have:=ih fun y hy=>h y (by simp [hy])
   have:=h x (by simp);rw [List.flatten_cons,List.length_append,List.length_cons,Nat.mul_succ];omega
theorem ZuM {l:List (List Zr)} {n:Nat} (h:∀ x ∈ l,x.length <=n):(QA l).length <=n * l.length:=by
 induction l with
 | nil=>simp [QA]
 | cons x l ih=>
   have:=ih fun y hy=>h y (by simp [hy])
   have:=h x (by simp);unfold QA at *;rw [List.flatMap_cons,List.length_append,List.length_map,List.length_cons,Nat.mul_succ];omega
theorem ZqO (l:List Ze):(QW l).length <=l.length:=by
 unfold QW;rw [List.length_map];exact List.length_filter_le _ _
theorem Zr3 {xs ys:List Int} (h:xs.length + ys.length <=1000000):app 8 xs ys=some (xs ++ ys):=Znu h (by decide)
structure BdM (w:Zb):Prop where
 b:w.qK.flatten.length <=160000
 h:(QA w.qJ).length <=160000
 m:(QW w.qG).length <=400
theorem BdM.of {w:Zb} (sm:WM 400 w):BdM w:=by
 have h1:=Zcm (n:=400) fun x hx=>Nat.le_of_lt (sm.box x hx)
 have h2:=ZuM (n:=400) fun x hx=>Nat.le_of_lt (sm.hel x hx)
 have h3:=ZqO w.qG;have:=sm.qK;have:=sm.qJ;have:=sm.qG;exact⟨by omega,by omega,by omega⟩
theorem Kg {α:Type} (l:List (List α)) (k:Nat):(l.take k).flatten.length <=l.flatten.length:=by
 have:=congrArg (fun z=>z.flatten.length) (List.take_append_drop k l);simp only [List.flatten_append,List.length_append] at this;omega
theorem Wo (l:List (List Zr)) (k:Nat):(QA (l.take k)).length <= (QA l).length:=by
 have:=congrArg (fun z=>(QA z).length) (List.take_append_drop k l);simp only [QA,List.flatMap_append,List.length_append] at this ⊢;omega
theorem ZbR (l:List Ze) (k:Nat):(QW (l.take k)).length <= (QW l).length:=by
 have:=congrArg (fun z=>(QW z).length) (List.take_append_drop k l);simp only [QW,List.filter_append,List.map_append,List.length_append] at this ⊢;omega
def Ul (l:List Int):List Int:=l.mergeSort fun x y=>decide (x <=y)
theorem Zn2 {l:List Int} (h:l.length <=1000000):Zrz l=some (Ul l):=by
 unfold Zrz Ul;rw [Nm0 h];rfl
theorem ZdC (l:List Int):(Ul l).Perm l:=List.mergeSort_perm _ _
theorem ZlM (l:List Int):(Ul l).Pairwise (· <=·):=by
 have:=List.pairwise_mergeSort (le:=fun x y:Int=>decide (x <=y)) (fun a b c h1 h2=>by simp at *;omega) (fun a b=>by simp;omega) l;exact this.imp fun h=>by simpa using h
theorem Zdh {l l':List Int} (h:l.Perm l') (hs:l'.Pairwise (· <=·)):Ul l=l':=
 List.Perm.eq_of_pairwise (le:= (· <=·)) (fun a b _ _ h1 h2=>by omega) (ZlM l) hs ((ZdC l).trans h)
def Xl (n:Nat):List Int:= (List.range n).map Int.ofNat
theorem Zke (n:Nat):(Xl n).Pairwise (· <=·):=by
 unfold Xl;rw [List.pairwise_map];exact List.pairwise_lt_range.imp fun{a b} h=>by show(a:Int) <= (b:Int);omega
theorem Zh8 {n k:Nat} (h:k < n):(Xl n)[k]? =some (k:Int):=by simp [Xl,h]
theorem Qw (n:Nat):(Xl n).length=n:=by simp [Xl]
theorem Zu8 {l:List Int} (h:∀ k (hk:k < l.length),l[k]= (k:Int)):l=Xl l.length:=by
 apply List.ext_getElem?;intro k;by_cases hk:k < l.length
 ·rw [Zh8 hk,List.getElem?_eq_getElem hk,h k hk]
 ·rw [List.getElem?_eq_none (by omega),List.getElem?_eq_none (by rw [Qw];omega)]
def ZI1 (w:Zb):Prop:=0 <=w.said∧w.said <=40∧(msgs w).Perm (Xl w.said.toNat)
theorem Zkh {F:Nat} (hF:400000 <=F) {w:Zb} (sm:WM 400 w) (l:List Yr):∃ b,ZuZ F ⟨w,l⟩=some b∧(b=true↔ZI1 w):=by
 obtain⟨B1,B2,B3⟩:=BdM.of sm;have W1:=sm.qK;have W2:=sm.qJ;have W3:=sm.qG;unfold ZuZ;refine QX (fun hc=>⟨false,rfl,?_⟩) (fun hc=>?_)
 ·simp only [Bool.false_eq_true,false_iff];rintro⟨a,b,_⟩;simp only [Bool.or_eq_true,decide_eq_true_eq] at hc;omega
 simp only [Bool.or_eq_false_iff,decide_eq_false_iff_not] at hc
 have h4:∃ b,loop F (Zbg ⟨w,l⟩ (Ul (msgs w))) 0=some b∧(b=true↔ZI1 w):=by
  have hl:(Ul (msgs w)).length= (msgs w).length:= (ZdC _).length_eq;have hl2:(msgs w).length <=320400:=by unfold msgs;rw [List.length_append,List.length_append];omega
  refine J3 false (some (((Ul (msgs w)).length:Int)==w.said)) (fun k=>(k:Int)) rfl (fun k=>∃ h:k < (Ul (msgs w)).length,(Ul (msgs w))[k] ≠ (k:Int)) (n:= (Ul (msgs w)).length) (by omega) (fun k hk=>?_) (fun next=>?_) (fun k hk hc=>?_) (fun hno=>⟨_,rfl,?_⟩)
  ·have b0:∀ next,Zbg ⟨w,l⟩ (Ul (msgs w)) (k:Int) next=bif((Ul (msgs w))[k] != (k:Int)) then some false else next (Xa ((k:Int) + 1)):=fun next=>by
    unfold Zbg;rw [ZO hk,Cq1,XI hk];rfl
   by_cases h:(Ul (msgs w))[k]= (k:Int)
   ·refine .inr ⟨fun next=>?_,fun⟨_,q⟩=>q h⟩;rw [b0,h,QE,Cq0,YD (by omega)]
   ·refine .inl ⟨fun next=>?_,hk,h⟩;rw [b0,QZ,decide_eq_true h];rfl
  ·unfold Zbg;rw [ZT];rfl
  ·obtain⟨h,q⟩:=hc;simp only [Bool.false_eq_true,false_iff];rintro⟨_,_,hp⟩;have e:=Zdh hp (Zke _);have hk':k < w.said.toNat:=by rw [e,Qw] at h;exact h
   have:(Ul (msgs w))[k]? =some (k:Int):=by rw [e];exact Zh8 hk'
   rw [List.getElem?_eq_getElem h] at this;exact q (by simpa using this)
  ·have e:=Zu8 fun k hk=>Classical.byContradiction fun q=>hno k hk ⟨hk,q⟩
   rw [beq_iff_eq]
   constructor
   ·intro h;refine⟨by omega,by omega,?_⟩;have h2:w.said.toNat= (Ul (msgs w)).length:=by omega
    rw [h2,← e];exact(ZdC _).symm
   ·rintro⟨_,_,hp⟩;have:=hp.length_eq;rw [Qw] at this;omega
 have h3:loop F (Zi7 F ⟨w,l⟩) (w.qK.flatten ++ QA w.qJ,0)=loop F (Zbg ⟨w,l⟩ (Ul (msgs w))) 0:=by
  refine Yp (fun k=>(w.qK.flatten ++ QA w.qJ ++ QW (w.qG.take k),(k:Int))) (by simp [QW]) (n:=w.qG.length) (by omega) (fun k hk next=>?_) (fun next=>?_)
  ·have hm:=ZbR w.qG k;have hll:(w.qK.flatten ++ QA w.qJ ++ QW (w.qG.take k)).length <=320400:=by rw [List.length_append,List.length_append];omega
   rw [ZgV hk];unfold Zi7;dsimp only;rw [ZO hk,Cq1,XI hk];simp only [Bq0];rw [Yg,ZaQ];unfold Zi6;by_cases h1:w.qG[k].kind=1
   ·rw [if_pos h1,if_pos h1,Zr3 (by rw [List.length_singleton];omega)];simp only [Bq0];rw [YD (by omega),← List.append_assoc]
   ·rw [if_neg h1,if_neg h1,YD (by omega),List.append_nil]
  ·unfold Zi7;dsimp only;rw [ZT,Cq0,List.take_of_length_le (Nat.le_refl _)];show(Zrz (msgs w)).bind _=_;rw [Zn2 (by unfold msgs;rw [List.length_append,List.length_append];omega)];rfl
 have h1:loop F (Zi8 F ⟨w,l⟩) (w.qK.flatten,0)=loop F (Zbg ⟨w,l⟩ (Ul (msgs w))) 0:=by
  refine Yp (fun k=>(w.qK.flatten ++ QA (w.qJ.take k),(k:Int))) (by simp [QA]) (n:=w.qJ.length) (by omega) (fun k hk next=>?_) (fun next=>?_)
  ·have hm:=Wo w.qJ k;have hm2:=Wo w.qJ (k + 1);have hrow:=sm.hel _ (List.getElem_mem hk);rw [Zbf hk] at hm2;rw [Zbf hk];rw [List.length_append,List.length_map] at hm2;unfold Zi8;dsimp only;rw [ZO hk,Cq1,XI hk];simp only [Bq0];refine Yp (fun j=>(w.qK.flatten ++ QA (w.qJ.take k) ++ (w.qJ[k].take j).map (fun y=>y.msg),(j:Int))) (by simp) (n:=w.qJ[k].length) (by omega) (fun j hj nx=>?_) (fun nx=>?_)
   ·unfold ZmP;dsimp only;rw [ZO hj,Cq1,XI hj];simp only [Bq0];rw [Zr3 (by rw [List.length_append,List.length_append,List.length_map,List.length_take,List.length_singleton];omega)];simp only [Bq0];rw [YD (by omega),List.take_add_one,List.getElem?_eq_getElem hj,List.map_append];simp
   ·unfold ZmP;dsimp only;rw [ZT,Cq0,List.take_of_length_le (Nat.le_refl _),YD (by omega),List.append_assoc]
  ·unfold Zi8;dsimp only;rw [ZT,Cq0,List.take_of_length_le (Nat.le_refl _)];exact h3
 have h0:loop F (Zi9 F ⟨w,l⟩) ([],0)=loop F (Zbg ⟨w,l⟩ (Ul (msgs w))) 0:=by
  refine Yp (fun k=>((w.qK.take k).flatten,(k:Int))) (by simp) (n:=w.qK.length) (by omega) (fun k hk next=>?_) (fun next=>?_)
  ·have hm:=Kg w.qK k;have hm2:=Kg w.qK (k + 1);rw [ZcY hk,List.length_append] at hm2;rw [ZcY hk];unfold Zi9;dsimp only;rw [ZO hk,Cq1,XI hk];simp only [Bq0];rw [Zr3 (by omega)];simp only [Bq0];rw [YD (by omega)]
  ·unfold Zi9;dsimp only;rw [ZT,Cq0,List.take_of_length_le (Nat.le_refl _)];exact h1
 rw [h0];exact h4
def ZF (w:Zb) (m:Nat):List Zr:=w.qJ.getD m []
structure Wd (w:Zb):Prop where
 shr:ShR w
 loc:∀ p,p < w.Zv.length ->(YC w p).length=1
 tog:∀ p,p < w.Zv.length ->0 <=inn w p ->(sp w (inn w p).toNat).machine= (sp w p).machine∧(sp w (inn w p).toNat).here= (sp w p).here∧((sp w p).here=false ->ZjZ w p (inn w p))
 ent:∀ m,m < w.qQ.length ->∀ p,p < w.Zv.length ->(E w m p).here=false ->RtX w p (E w m p).Z9 (E w m p).age
 hel:∀ m,m < w.qQ.length ->∀ x ∈ ZF w m,QR w m x∧sp w x.place.toNat= ⟨(m:Int),false,x.age⟩
 mai:∀ x ∈ w.qG,x.kind=1 ->QR w x.Z9 x.Yb
 ntd:∀ x ∈ w.qG,x.kind=3 ->RtX w x.place.toNat x.at_ x.age
 msg:(msgs w).Perm (Xl w.said.toNat)
theorem ZcV {w:Zb} {p k:Nat} {s:Yr}:s ∈ Xe w p k↔∃ m,m < k∧(E w m p).here=true∧s= ⟨(m:Int),true,(E w m p).age⟩:=by
 unfold Xe;rw [List.mem_filterMap]
 constructor
 ·rintro⟨m,h1,h2⟩;by_cases h:(E w m p).here=true
  ·rw [if_pos h] at h2;cases h2;exact⟨m,List.mem_range.1 h1,h,rfl⟩
  ·rw [if_neg h] at h2;cases h2
 ·rintro⟨m,h1,h2,rfl⟩;exact⟨m,List.mem_range.2 h1,if_pos h2⟩
theorem Zav {x:Ze} {p j:Nat} {s:Yr}:s ∈ Wy x p j↔∃ i,i < j∧x.qV.getD i 0= (p:Int)∧s= ⟨x.Z9,false,x.Yk.getD i 0⟩:=by
 unfold Wy;rw [List.mem_filterMap]
 constructor
 ·rintro⟨m,h1,h2⟩;by_cases h:x.qV.getD m 0= (p:Int)
  ·rw [if_pos h] at h2;cases h2;exact⟨m,List.mem_range.1 h1,h,rfl⟩
  ·rw [if_neg h] at h2;cases h2
 ·rintro⟨m,h1,h2,rfl⟩;exact⟨m,List.mem_range.2 h1,if_pos h2⟩
theorem Zv2 {l:List Ze} {p:Nat} {s:Yr}:s ∈ X3 l p↔∃ x ∈ l,x.kind=2∧∃ i,i < x.qV.length∧x.qV.getD i 0= (p:Int)∧s= ⟨x.Z9,false,x.Yk.getD i 0⟩:=by
 unfold X3;rw [List.mem_flatMap]
 constructor
 ·rintro⟨x,h1,h2⟩;unfold WQ at h2;by_cases h:x.kind=2
  ·rw [if_pos h] at h2;exact⟨x,h1,h,Zav.1 h2⟩
  ·rw [if_neg h] at h2;cases h2
 ·rintro⟨x,h1,h2,h3⟩;exact⟨x,h1,by unfold WQ;rw [if_pos h2];exact Zav.2 h3⟩
theorem ZFr {w:Zb} {p:Nat} (h:(YC w p).length=1):YC w p= [sp w p]:=by
 obtain⟨x,e⟩:=List.length_eq_one_iff.1 h;unfold sp WZ;rw [e];rfl
theorem Zaz {w:Zb} {p:Nat} (h:(YC w p).length=1):(∃ m,m < w.qQ.length∧(E w m p).here=true∧sp w p= ⟨(m:Int),true,(E w m p).age⟩)∨(∃ x ∈ w.qG,x.kind=2∧∃ i,i < x.qV.length∧x.qV.getD i 0= (p:Int)∧sp w p= ⟨x.Z9,false,x.Yk.getD i 0⟩):=by
 have hm:sp w p ∈ YC w p:=by rw [ZFr h];simp
 unfold YC at hm;rcases List.mem_append.1 hm with q | q
 ·exact .inl (ZcV.1 q)
 ·exact .inr (Zv2.1 q)
structure WdP (w:Zb):Prop where
 WT:WN w
 inn:Inn w
 mov:∀ x ∈ w.qG,MvX w x
 tog:∀ p,p < w.Zv.length ->ZIZ w p
 ent:∀ m,m < w.qQ.length ->∀ p,p < w.Zv.length ->Zsk w m p
 msg:ZI1 w
 Xd:∀ x ∈ w.qG,ZAQ w x
 hel:∀ m,m < w.qQ.length ->∀ x ∈ ZF w m,QR w m x∧sp w x.place.toNat= ⟨(m:Int),false,x.age⟩
theorem ZBi {w:Zb}:WdP w↔Wd w:=by
 constructor
 ·intro h
  have ZQ7:∀ p,p < w.Zv.length ->(sp w p).age <=30:=fun p hp=>by
   rcases Zaz (h.tog p hp).1 with⟨m,h1,h2,h3⟩ | ⟨x,h1,h2,i,h3,h4,h5⟩
   ·rw [h3];rcases h.ent m h1 p hp with⟨_,_,q⟩ | ⟨_,q,_⟩
    ·exact q
    ·rw [h2] at q;cases q
   ·rw [h5];rcases h.mov x h1 with q | q | ⟨_,_,_,q⟩
    ·omega
    ·omega
    ·exact(q i h3).2.2.2.2
  have ZQM:∀ x ∈ w.qG,Zj0 w x:=fun x hx=>by
   have hl:=h.Xd x hx;obtain⟨a1,a2,a3,a4,a5,a6⟩:=hl;rcases h.mov x hx with q | q | ⟨q,q1,q2,q3⟩
   ·obtain⟨b1,b2⟩:=a3 (by omega);obtain⟨_,c1,c2,c3⟩:=a4 q;refine⟨a1,a2,.inl ⟨q,c1,c2,c3,b1,b2⟩,fun i hi=>?_,fun z=>by omega⟩;rw [b1] at hi;simp at hi
   ·obtain⟨b1,b2⟩:=a3 (by omega);obtain⟨c1,c2,c3,c4,c5⟩:=a5 q;refine⟨a1,a2,.inr (.inr ⟨q,c5,b1,b2⟩),fun i hi=>?_,fun _=>⟨c2,c3,c1⟩⟩;rw [b1] at hi;simp at hi
   ·obtain⟨c1,c2,c3,c4⟩:=a6 (by omega) (by omega);exact⟨a1,a2,.inr (.inl ⟨q,c2,c3,c4,c1,q1,q2.symm⟩),q3,fun z=>by omega⟩
  refine⟨⟨h.WT,h.inn,h.msg.1,h.msg.2.1,fun m hm p hp=>?_,ZQM⟩,fun p hp=>(h.tog p hp).1,fun p hp=>(h.tog p hp).2,fun m hm p hp hh=>?_,h.hel,fun x hx hk=>((h.Xd x hx).2.2.2.1 hk).1,fun x hx hk=>((h.Xd x hx).2.2.2.2.1 hk).2.2.2.1,h.msg.2.2⟩
  ·rcases h.ent m hm p hp with⟨e,q1,q2⟩ | ⟨e,q1,q2,q3⟩
   ·have e1:(E w m p).here=true:=by rw [e]
    have e2:(E w m p).Z9= (m:Int):=by rw [e]
    exact⟨q1,q2,by rw [e2];omega,by rw [e2];omega,fun _=>e2,fun _=>e1⟩
   ·have:=ZQ7 p hp;refine⟨q3.1,by have:=q3.2.1;omega,q3.2.2.1,q3.2.2.2.1,fun z=>?_,fun z=>absurd z q2⟩;rw [q1] at z;cases z
  ·rcases h.ent m hm p hp with⟨e,q1,q2⟩ | ⟨e,q1,q2,q3⟩
   ·have e1:(E w m p).here=true:=by rw [e]
    rw [hh] at e1;cases e1
   ·exact q3
 ·intro h;refine⟨h.shr.WT,h.shr.inn,fun x hx=>?_,fun p hp=>⟨h.loc p hp,h.tog p hp⟩,fun m hm p hp=>?_,⟨h.shr.sd1,h.shr.sd2,h.msg⟩,fun x hx=>?_,h.hel⟩
  ·have hl:=h.shr.Xd x hx;rcases hl.Y9 with⟨q,_⟩ | ⟨q,_,_,_,_,q1,q2⟩ | ⟨q,_⟩
   ·exact .inl q
   ·exact .inr (.inr ⟨q,q1,q2.symm,hl.WY⟩)
   ·exact .inr (.inl q)
  ·obtain⟨a1,a2,a3,a4,a5⟩:=h.shr.ent m hm p hp;cases hh:(E w m p).here with
   | true=>
     have h2:=a5.1 hh;refine .inl ⟨?_,a1,a2⟩;have:E w m p= ⟨(E w m p).here,(E w m p).Z9,(E w m p).age⟩:=rfl;rw [hh,h2] at this;exact this
   | false=>
     have h2:(E w m p).Z9 ≠ (m:Int):=fun q=>by have:=a5.2 q;rw [hh] at this;cases this
     refine .inr ⟨fun q=>?_,hh,h2,h.ent m hm p hp hh⟩;have:=congrArg Zw.here q;rw [hh] at this;cases this
  ·have hl:=h.shr.Xd x hx;rcases hl.Y9 with⟨q,q1,q2,q3,q4,q5⟩ | ⟨q,q1,q2,q3,q4,q5,q6⟩ | ⟨q,q1,q2,q3⟩
   ·exact⟨hl.to1,hl.to2,fun _=>⟨q4,q5⟩,fun _=>⟨h.mai x hx q,q1,q2,q3⟩,fun z=>by omega,fun z=>absurd q z⟩
   ·exact⟨hl.to1,hl.to2,fun z=>absurd q z,fun z=>by omega,fun z=>by omega,fun _ _=>⟨q4,q1,q2,q3⟩⟩
   ·have:=hl.ntd q;exact⟨hl.to1,hl.to2,fun _=>⟨q2,q3⟩,fun z=>by omega,fun _=>⟨this.2.2,this.1,this.2.1,h.ntd x hx q,q1⟩,fun _ z=>absurd q z⟩
theorem ZjK {F:Nat} (hF:400000 <=F) (hM:F <=1000000) {w:Zb} (sm:WM 400 w):∃ e,Zps F w=some e∧((e=0∨e=2)∧(e=0↔Wd w)):=by
 have sm9:WM 900 w:=sm.mono (by omega);have W3:=sm.qG
 suffices h:∃ e,Zps F w=some e∧((e=0∨e=2)∧(e=0↔WdP w)) by
  obtain⟨e,h1,h2,h3⟩:=h;exact⟨e,h1,h2,h3.trans ZBi⟩
 have two:¬ WdP w ->((2:Int)=0∨(2:Int)=2)∧((2:Int)=0↔WdP w):=fun h=>⟨.inr rfl,fun q=>absurd q (by decide),fun q=>absurd q h⟩
 unfold Zps;obtain⟨b1,e1,i1⟩:=Zqz (F:=F) (by omega) w;obtain⟨b2,e2,i2⟩:=ZqM (F:=F) (by omega) sm9;rw [e1];simp only [Bq0];cases b1 with
 | false=>
   simp only [Bool.not_false,Bool.not_true,Xv,Bq0,Bool.true_or,Cq1];exact⟨2,rfl,two fun h=>by have:=i1.2 ⟨h.WT,h.inn⟩;cases this⟩
 | true=>
   obtain⟨s,hi⟩:=i1.1 rfl;have h8:=s.p2;have h5:=s.m2;rw [e2];simp only [Bool.not_true,Bool.not_false,YR,Bq0,Bool.false_or];cases b2 with
   | false=>exact⟨2,rfl,two fun h=>by have:=i2.2 h.mov;cases this⟩
   | true=>
     have hmv:=i2.1 rfl;simp only [Bool.not_true,Cq0]
     have hmk:mkL (Yr.mk 0 false 0) 24 (w.Zv.length:Int) (w.Zv.length:Int)=some (List.replicate w.Zv.length ⟨0,false,0⟩):=by
      unfold mkL;rw [decide_eq_true (by omega),decide_eq_true (by omega),Nm0 (by rw [Int.toNat_natCast];omega),Int.toNat_natCast];rfl
     rw [hmk];simp only [Bq0];obtain⟨x,e3,i3,j3⟩:=Zkc (F:=F) (by omega) hM s hi sm9 (MvX.mvd sm9 hmv);rw [e3];simp only [Bq0];cases hx:x.2 with
     | false=>
       simp only [Bool.not_false,Bool.not_true,Xv,Bq0,Bool.true_or,Cq1];exact⟨2,rfl,two fun h=>by have:=i3.2 h.tog;rw [hx] at this;cases this⟩
     | true=>
       have ZQF:=i3.1 hx;have hx1:=j3 hx;rw [hx1];obtain⟨b4,e4,i4⟩:=Znc (F:=F) (by omega) s;obtain⟨b5,e5,i5⟩:=Zkh (F:=F) (by omega) sm (spL w);rw [e4];simp only [Bool.not_true,Bool.not_false,YR,Bq0,Bool.false_or];cases b4 with
       | false=>
         simp only [Bool.not_false,Bool.not_true,Xv,Bq0,Bool.true_or,Cq1];exact⟨2,rfl,two fun h=>by have:=i4.2 h.ent;cases this⟩
       | true=>
         have hent:=i4.1 rfl;rw [e5];simp only [Bool.not_true,Bool.not_false,YR,Bq0,Bool.false_or];cases b5 with
         | false=>exact⟨2,rfl,two fun h=>by have:=i5.2 h.msg;cases this⟩
         | true=>
           have ZQP:=i5.1 rfl;simp only [Bool.not_true,Cq0];refine J3 2 (loop F (Zf8 F w x) 0) (fun k=>(k:Int)) rfl (fun k=>∃ h:k < w.qG.length,¬ ZAQ w w.qG[k]) (n:=w.qG.length) (by omega) (fun k hk=>?_) (fun next=>?_) (fun k hk hc=>?_) (fun hno=>?_)
           ·obtain⟨b,eb,ib⟩:=ZoI s (x:=w.qG[k]) ⟨Nat.le_of_lt (sm9.Xd _ (List.getElem_mem hk)).1,Nat.le_of_lt (sm9.Xd _ (List.getElem_mem hk)).2⟩
            have b0:∀ next,Zju F w x (k:Int) next=bif(!b) then some 2 else next ((k + 1:Nat):Int):=fun next=>by
             unfold Zju;rw [ZO hk,Cq1,XI hk];simp only [Bq0];rw [hx1,eb];simp only [Bq0];rw [YD (by omega)]
            by_cases hl:ZAQ w w.qG[k]
            ·refine .inr ⟨fun next=>?_,fun⟨_,q⟩=>q hl⟩;rw [b0,ib.2 hl];rfl
            ·refine .inl ⟨fun next=>?_,hk,hl⟩
             have:b=false:=by cases b;· rfl
                              ·exact absurd (ib.1 rfl) hl
             rw [b0,this];rfl
           ·unfold Zju;rw [ZT];rfl
           ·obtain⟨h,q⟩:=hc;exact two fun z=>q (z.Xd _ (List.getElem_mem h))
           have hlet:∀ x ∈ w.qG,ZAQ w x:=fun y hy=>by
            obtain⟨k,hk,rfl⟩:=List.getElem_of_mem hy;exact Classical.byContradiction fun q=>hno k hk ⟨hk,q⟩
           have ZWl:w.qJ.length=w.qQ.length:=s.hd;refine J3 2 (some 0) (fun k=>(k:Int)) rfl (fun m=>¬ ∀ x ∈ ZF w m,QR w m x∧sp w x.place.toNat= ⟨(m:Int),false,x.age⟩) (n:=w.qJ.length) (by omega) (fun m hm=>?_) (fun next=>?_) (fun k hk hc=>?_) (fun hno=>⟨0,rfl,?_⟩)
           ·have hgm:ZQ w.qJ (m:Int)=some (ZF w m):=YM [] hm;have hlen:(ZF w m).length < 400:=sm.hel _ (Yj hm)
            have b0:∀ next,Zf8 F w x (m:Int) next=loop F (Zf7 x (m:Int) next (ZF w m)) 0:=fun next=>by
             unfold Zf8;rw [ZO hm,Cq1,hgm];rfl
            have step:∀ (next:Int ->Option Int) (j:Nat) (hj:j < (ZF w m).length),∀ nx,Zf7 x (m:Int) next (ZF w m) (j:Int) nx=open Classical in if QR w m (ZF w m)[j]∧sp w (ZF w m)[j].place.toNat= ⟨(m:Int),false,(ZF w m)[j].age⟩ then nx ((j + 1:Nat):Int) else some 2:=fun next j hj nx=>by
             obtain⟨b,eb,ib⟩:=Zk5 s (m:Int) (ZF w m)[j];unfold Zf7;rw [ZO hj,Cq1,XI hj];simp only [Bq0];rw [hx1,eb];simp only [Bq0];by_cases hml:QR w m (ZF w m)[j]
             ·rw [ib.2 hml];simp only [Bool.not_true,Bool.not_false,YR];obtain⟨p,hp⟩:∃ p:Nat,(ZF w m)[j].place= (p:Int):= ⟨(ZF w m)[j].place.toNat,by have:=hml.1;omega⟩
              have hpl:p < w.Zv.length:=by have:=hml.2.1;omega
              rw [hp,Zsw hpl];simp only [Bq0,Int.toNat_natCast,Bool.false_or];by_cases hs:sp w p= ⟨(m:Int),false,(ZF w m)[j].age⟩
              ·rw [if_pos ⟨hml,hs⟩,(ZjD _ _).2 hs,Bool.not_true,Cq0,YD (by omega)]
              ·have:Ze0 (sp w p) ⟨(m:Int),false,(ZF w m)[j].age⟩=false:=by rw [← Bool.not_eq_true,ZjD];exact hs
               rw [if_neg (fun q=>hs q.2),this];rfl
             ·have:b=false:=by cases b;· rfl
                               ·exact absurd (ib.1 rfl) hml
              rw [this,if_neg (fun q=>hml q.1)];rfl
            by_cases hall:∀ x ∈ ZF w m,QR w m x∧sp w x.place.toNat= ⟨(m:Int),false,x.age⟩
            ·refine .inr ⟨fun next=>?_,fun q=>q hall⟩;rw [b0];refine Yp (fun p=>(p:Int)) rfl (n:= (ZF w m).length) (by omega) (fun j hj nx=>?_) (fun nx=>?_)
             ·rw [step next j hj nx,if_pos (hall _ (List.getElem_mem hj))]
             ·unfold Zf7;rw [ZT,Cq0,YD (by omega)]
            ·refine .inl ⟨fun next=>?_,hall⟩
             have hz:∃ j,∃ hj:j < (ZF w m).length,¬ (QR w m (ZF w m)[j]∧sp w (ZF w m)[j].place.toNat= ⟨(m:Int),false,(ZF w m)[j].age⟩):=Classical.byContradiction fun q=>hall fun y hy=>by
              obtain⟨j,hj,rfl⟩:=List.getElem_of_mem hy;exact Classical.byContradiction fun q2=>q ⟨j,hj,q2⟩
             obtain⟨j0,hj0⟩:=hz;obtain⟨j1,_,⟨hj1,hb1⟩,hlt⟩:=X5 (c:=fun j=>∃ hj:j < (ZF w m).length,¬ (QR w m (ZF w m)[j]∧sp w (ZF w m)[j].place.toNat= ⟨(m:Int),false,(ZF w m)[j].age⟩)) hj0;rw [b0];refine Yp (fun p=>(p:Int)) rfl (n:=j1) (by omega) (fun j hj nx=>?_) (fun nx=>?_)
             ·rw [step next j (by omega) nx,if_pos (Classical.byContradiction fun q=>hlt j hj ⟨by omega,q⟩)]
             ·rw [step next j1 hj1 nx,if_neg hb1]
           ·unfold Zf8;rw [ZT];rfl
           ·exact two fun z=>hc (z.hel k (by omega))
           ·exact⟨.inl rfl,fun _=>⟨s,hi,hmv,ZQF,hent,ZQP,hlet,fun m hm=>Classical.byContradiction (hno m (by omega))⟩,fun _=>rfl⟩
def spR (w:Zb) (p:Nat):XF:=U2 (QJ w p)
theorem ZkW {w:Zb} (h:∀ x ∈ w.qG,x.kind=2∨x.qV= []) (p:Nat):toS (spR w p)=sp w p:=ZBL h p
theorem ZfE {w:Zb} (s:WN w) (h2:∀ x ∈ w.qG,x.kind=2∨x.qV= []) {p:Nat} (hp:p < w.Zv.length) (m a:Int):ZmU w (p:Int) (spR w p) m a=some (decide (RtX w p m a)):=by
 have e1:(spR w p).age= (sp w p).age:=by rw [← ZkW h2];rfl
 have e2:(spR w p).at_= (sp w p).machine:=by rw [← ZkW h2];rfl
 unfold ZmU;rw [e1,e2];by_cases h1:0 <=a∧a <= (sp w p).age∧0 <=m∧m < (w.qQ.length:Int)
 ·obtain⟨a1,a2,a3,a4⟩:=h1;rw [decide_eq_false (show ¬ m < 0 by omega),decide_eq_false (show ¬ m >= (w.qQ.length:Int) by omega),decide_eq_false (show ¬ a < 0 by omega),decide_eq_false (show ¬ a > (sp w p).age by omega)];simp only [Bool.or_self,Cq0];by_cases h3:a= (sp w p).age
  ·rw [Yg,decide_eq_true h3,Cq1,Yg];congr 1;by_cases h4:m= (sp w p).machine
   ·rw [decide_eq_true h4.symm,decide_eq_true (show RtX w p m a from⟨a1,a2,a3,a4,fun _=>h4,fun q=>absurd h3 q⟩)]
   ·rw [decide_eq_false (fun q=>h4 q.symm),decide_eq_false (fun q:RtX w p m a=>h4 (q.2.2.2.2.1 h3))]
  ·obtain⟨k,rfl⟩:∃ k:Nat,m= (k:Int):= ⟨m.toNat,by omega⟩
   rw [Yg,decide_eq_false h3,Cq0,s.row (by omega)];simp only [Bq0];rw [s.ent (by omega) hp];simp only [Bq0];congr 1;by_cases h4:(E w k p).age > a
   ·rw [decide_eq_true h4,decide_eq_true (show RtX w p (k:Int) a from⟨a1,a2,a3,a4,fun q=>absurd q h3,fun _=>h4⟩)]
   ·rw [decide_eq_false h4,decide_eq_false (fun q:RtX w p (k:Int) a=>h4 (q.2.2.2.2.2 h3))]
 ·have:(decide (m < 0) || decide (m >= (w.qQ.length:Int)) || decide (a < 0) || decide (a > (sp w p).age))=true:=by
   rw [← Bool.not_eq_false];intro z;simp only [Bool.or_eq_false_iff,decide_eq_false_iff_not] at z;exact h1 ⟨by omega,by omega,by omega,by omega⟩
  rw [this,decide_eq_false (fun q:RtX w p m a=>h1 ⟨q.1,q.2.1,q.2.2.1,q.2.2.2.1⟩)];rfl
def Za1 (w:Zb):List XF:= (List.range w.Zv.length).map (spR w)
theorem ZbT {w:Zb} {p:Nat} (hp:p < w.Zv.length):ZQ (Za1 w) (p:Int)=some (spR w p):=by
 rw [YM default (by simp [Za1];exact hp)];simp [Za1,hp]
theorem Za0 {a:Int} (h1:0 <=a) (h2:a <=30):Xa (a + 1)=a + 1:=Zah (by omega) (by omega)
def UU (w:Zb) (m:Int) (y:Zr) (waits:Bool):Prop:=0 <=y.place∧y.place < (w.Zv.length:Int)∧0 <=y.from_∧y.from_ < (w.qQ.length:Int)∧0 <=y.age∧y.age <=30∧1 <=y.hops∧y.hops <=y.age + 1∧
 (waits=true ->sp w y.place.toNat= ⟨m,false,y.age⟩)∧(waits=false ->RtX w y.place.toNat m y.age)
theorem ZoD {w:Zb} (s:WN w) (h2:∀ x ∈ w.qG,x.kind=2∨x.qV= []) (m:Int) (y:Zr) (wt:Bool):∃ b,Zpr w (Za1 w) y m wt=some b∧(b=true↔UU w m y wt):=by
 unfold Zpr;refine QX (fun hc=>⟨false,rfl,?_⟩) (fun hc=>?_)
 ·simp only [Bool.false_eq_true,false_iff];rintro⟨a1,a2,a3,a4,a5,a6,a7,a8,_⟩;rw [Za0 a5 a6] at hc;simp only [Bool.or_eq_true,decide_eq_true_eq] at hc;omega
 ·simp only [Bool.or_eq_false_iff,decide_eq_false_iff_not] at hc;obtain⟨⟨⟨⟨⟨⟨⟨a1,a2⟩,a3⟩,a4⟩,a5⟩,a6⟩,a7⟩,a8⟩:=hc;rw [Za0 (by omega) (by omega)] at a8;obtain⟨p,hp⟩:∃ p:Nat,y.place= (p:Int):= ⟨y.place.toNat,by omega⟩
  have hpl:p < w.Zv.length:=by omega
  rw [hp,ZbT hpl];simp only [Bq0];have es:=ZkW h2 p;refine QX (fun hw=>⟨_,rfl,?_⟩) (fun hw=>?_)
  ·simp only [Ba0,Bool.not_eq_true',beq_iff_eq];unfold UU;rw [hp,Int.toNat_natCast,← es];unfold toS;rw [Yr.mk.injEq]
   constructor
   ·rintro⟨⟨b1,b2⟩,b3⟩;exact⟨by omega,by omega,by omega,by omega,by omega,by omega,by omega,by omega,fun _=>⟨b2,b1,b3⟩,fun q=>(by rw [hw] at q;cases q)⟩
   ·rintro⟨_,_,_,_,_,_,_,_,b,_⟩;obtain⟨b1,b2,b3⟩:=b hw;exact⟨⟨b2,b1⟩,b3⟩
  ·rw [ZfE s h2 hpl];refine⟨_,rfl,?_⟩;rw [decide_eq_true_eq];unfold UU;rw [hp,Int.toNat_natCast]
   constructor
   ·intro h;exact⟨by omega,by omega,by omega,by omega,by omega,by omega,by omega,by omega,fun q=>(by rw [hw] at q;cases q),fun _=>h⟩
   ·rintro⟨_,_,_,_,_,_,_,_,_,b⟩;exact b hw
theorem Zk6 {w:Zb} {p:Nat} (h:(QJ w p).length=1):QJ w p= [spR w p]:=by
 obtain⟨x,e⟩:=List.length_eq_one_iff.1 h;unfold spR U2;rw [e];rfl
theorem ZkQ {w:Zb} {p k:Nat} {r:XF}:r ∈ KC w p k↔∃ j,j < k∧∃ s ∈ Wy (ZB w j) p (ZB w j).qV.length,r=ZnO j s:=by
 unfold KC;rw [List.mem_flatMap]
 constructor
 ·rintro⟨j,h1,h2⟩;obtain⟨s,h3,h4⟩:=List.mem_map.1 h2;exact⟨j,List.mem_range.1 h1,s,h3,h4.symm⟩
 ·rintro⟨j,h1,s,h2,h3⟩;exact⟨j,List.mem_range.2 h1,List.mem_map.2 ⟨s,h2,h3.symm⟩⟩
theorem Zfx {w:Zb} {p:Nat} (h:(QJ w p).length=1):((spR w p).is=true∧(spR w p).letter=-1)∨((spR w p).is=false∧∃ k,k < w.qG.length∧(spR w p).letter= (k:Int)∧(p:Int) ∈ (ZB w k).qV):=by
 have hm:spR w p ∈ QJ w p:=by rw [Zk6 h];simp
 unfold QJ at hm;rcases List.mem_append.1 hm with q | q
 ·obtain⟨s,h1,h2⟩:=List.mem_map.1 q;rw [← h2];exact .inl ⟨rfl,rfl⟩
 ·obtain⟨k,h1,s,h2,h3⟩:=ZkQ.1 q;obtain⟨i,h4,h5,_⟩:=Zav.1 h2;rw [h3];exact .inr ⟨rfl,k,h1,rfl,by rw [← h5];exact Yj h4⟩
theorem Zer {w:Zb} {p:Nat} (h:(QJ w p).length=1) {k:Nat} (hk:k < w.qG.length) (hp:(p:Int) ∈ (ZB w k).qV):(spR w p).letter= (k:Int):=by
 obtain⟨i,hi,e⟩:=List.getElem_of_mem hp;have e2:(ZB w k).qV.getD i 0= (p:Int):=by rw [List.getD_eq_getElem?_getD,List.getElem?_eq_getElem hi];exact e
 have hm:ZnO k ⟨(ZB w k).Z9,false,(ZB w k).Yk.getD i 0⟩ ∈ QJ w p:=by
  unfold QJ;exact List.mem_append_right _ (ZkQ.2 ⟨k,hk,_,Zav.2 ⟨i,hi,e2,rfl⟩,rfl⟩)
 rw [Zk6 h] at hm;rw [← List.mem_singleton.1 hm];rfl
theorem Zn7 {w:Zb} (h2:∀ x ∈ w.qG,x.kind=2∨x.qV= []) {p q:Nat} (hp:(QJ w p).length=1) (hq:(QJ w q).length=1) (e:(spR w p).is= (spR w q).is):
 (spR w p).letter= (spR w q).letter↔((spR w p).is=false ->ZjZ w p q):=by
 rcases Zfx hp with⟨a1,a2⟩ | ⟨a1,k,hk,a2,a3⟩
 ·rcases Zfx hq with⟨b1,b2⟩ | ⟨b1,j,hj,b2,b3⟩
  ·rw [a1,a2,b2];simp
  ·rw [a1,b1] at e;cases e
 ·rcases Zfx hq with⟨b1,b2⟩ | ⟨b1,j,hj,b2,b3⟩
  ·rw [a1,b1] at e;cases e
  ·have kd:∀ i,i < w.qG.length ->∀ x:Int,x ∈ (ZB w i).qV ->(ZB w i).kind=2:=fun i hi x hx=>by
    rcases h2 (ZB w i) (Yj hi) with z | z
    ·exact z
    ·rw [z] at hx;cases hx
   constructor
   ·intro h _;rw [a2,b2] at h;have:k=j:=by omega
    subst this;exact⟨ZB w k,Yj hk,kd k hk _ a3,a3,b3⟩
   ·intro h;obtain⟨x,hx,_,h3,h4⟩:=h a1;obtain⟨i,hi,rfl⟩:=List.getElem_of_mem hx;have ei:w.qG[i]=ZB w i:=by unfold ZB;rw [List.getD_eq_getElem?_getD,List.getElem?_eq_getElem hi];rfl
    rw [ei] at h3 h4;rw [Zer hp hi h3,Zer hq hi h4]
theorem Zmc {F:Nat} (hF:400000 <=F) {w:Zb} (sm:WM 400 w):ZzG F w=some (msgs w):=by
 obtain⟨B1,B2,B3⟩:=BdM.of sm;have W1:=sm.qK;have W2:=sm.qJ;have W3:=sm.qG
 have h3:loop F (Zjk w) (w.qK.flatten ++ QA w.qJ,0)=some (msgs w):=by
  refine Yp (fun k=>(w.qK.flatten ++ QA w.qJ ++ QW (w.qG.take k),(k:Int))) (by simp [QW]) (n:=w.qG.length) (by omega) (fun k hk next=>?_) (fun next=>?_)
  ·have hm:=ZbR w.qG k;have hll:(w.qK.flatten ++ QA w.qJ ++ QW (w.qG.take k)).length <=320400:=by rw [List.length_append,List.length_append];omega
   rw [ZgV hk];unfold Zjk;dsimp only;rw [ZO hk,Cq1,XI hk];simp only [Bq0];rw [Yg,ZaQ];unfold Zjj;by_cases h1:w.qG[k].kind=1
   ·rw [if_pos h1,if_pos h1,Zr3 (by rw [List.length_singleton];omega)];simp only [Bq0];rw [YD (by omega),← List.append_assoc]
   ·rw [if_neg h1,if_neg h1,YD (by omega),List.append_nil]
  ·unfold Zjk;dsimp only;rw [ZT,Cq0,List.take_of_length_le (Nat.le_refl _)];rfl
 have h1:loop F (Zjl F w) (w.qK.flatten,0)=some (msgs w):=by
  refine Yp (fun k=>(w.qK.flatten ++ QA (w.qJ.take k),(k:Int))) (by simp [QA]) (n:=w.qJ.length) (by omega) (fun k hk next=>?_) (fun next=>?_)
  ·have hm:=Wo w.qJ k;have hm2:=Wo w.qJ (k + 1);have hrow:=sm.hel _ (List.getElem_mem hk);rw [Zbf hk] at hm2;rw [Zbf hk];rw [List.length_append,List.length_map] at hm2;unfold Zjl;dsimp only;rw [ZO hk,Cq1,XI hk];simp only [Bq0];refine Yp (fun j=>(w.qK.flatten ++ QA (w.qJ.take k) ++ (w.qJ[k].take j).map (fun y=>y.msg),(j:Int))) (by simp) (n:=w.qJ[k].length) (by omega) (fun j hj nx=>?_) (fun nx=>?_)
   ·unfold ZmS;dsimp only;rw [ZO hj,Cq1,XI hj];simp only [Bq0];rw [Zr3 (by rw [List.length_append,List.length_append,List.length_map,List.length_take,List.length_singleton];omega)];simp only [Bq0];rw [YD (by omega),List.take_add_one,List.getElem?_eq_getElem hj,List.map_append];simp
   ·unfold ZmS;dsimp only;rw [ZT,Cq0,List.take_of_length_le (Nat.le_refl _),YD (by omega),List.append_assoc]
  ·unfold Zjl;dsimp only;rw [ZT,Cq0,List.take_of_length_le (Nat.le_refl _)];exact h3
 unfold ZzG;refine Yp (fun k=>((w.qK.take k).flatten,(k:Int))) (by simp) (n:=w.qK.length) (by omega) (fun k hk next=>?_) (fun next=>?_)
 ·have hm:=Kg w.qK k;have hm2:=Kg w.qK (k + 1);rw [ZcY hk,List.length_append] at hm2;rw [ZcY hk];unfold ZmT;dsimp only;rw [ZO hk,Cq1,XI hk];simp only [Bq0];rw [Zr3 (by omega)];simp only [Bq0];rw [YD (by omega)]
 ·unfold ZmT;dsimp only;rw [ZT,Cq0,List.take_of_length_le (Nat.le_refl _)];exact h1
def Zdi (n:Nat) (l:List Int):List Bool:= (List.range n).map fun i:Nat=>decide (((i:Nat):Int) ∈ l)
theorem Zue {n:Nat} {l:List Int} {x:Int} (h0:0 <=x) (h1:x < (n:Int)):ZQ (Zdi n l) x=some (decide (x ∈ l)):=by
 obtain⟨k,rfl⟩:∃ k:Nat,x= (k:Int):= ⟨x.toNat,by omega⟩
 rw [YM default (by simp [Zdi];omega)];simp [Zdi,show k < n by omega]
theorem Zud {n:Nat} {l:List Int} {x:Int} (h0:0 <=x) (h1:x < (n:Int)):Yv (Zdi n l) x true=Zdi n (l ++ [x]):=by
 obtain⟨k,rfl⟩:∃ k:Nat,x= (k:Int):= ⟨x.toNat,by omega⟩
 unfold Yv Zdi;rw [Int.toNat_natCast];apply List.ext_getElem?;intro i;rw [List.getElem?_set];by_cases hi:i < n
 ·by_cases e:k=i
  ·subst e;rw [if_pos rfl];simp [hi]
  ·rw [if_neg e];have:((i:Int)= (k:Int))↔False:= ⟨fun q=>e (by omega),False.elim⟩
   simp [hi,this]
 ·by_cases e:k=i
  ·subst e;omega
  ·rw [if_neg e];simp [hi]
theorem ZdJ {α:Type} {l:List α}:l.Nodup↔∀ k (h:k < l.length),l[k] ∉ l.take k:=by
 constructor
 ·intro hn k hk hm;obtain⟨j,hj,e⟩:=List.getElem_of_mem hm;rw [List.length_take] at hj;rw [List.getElem_take] at e;have:= (List.getElem_inj hn).1 e;omega
 ·intro h;rw [List.nodup_iff_pairwise_ne] <;> skip
  rw [List.pairwise_iff_getElem];intro i j hi hj hij e;exact h j hj (by rw [← e];exact List.mem_take_iff_getElem.2 ⟨i,by omega,rfl⟩)
theorem Zic {l:List Int} {n:Nat}:l.Perm (Xl n)↔l.Nodup∧(∀ x ∈ l,0 <=x∧x < (n:Int))∧l.length=n:=by
 have hn:(Xl n).Nodup:=by
  unfold Xl;exact List.Pairwise.map _ (fun a b h q=>h (by have:((a:Nat):Int)= ((b:Nat):Int):=q;omega)) List.nodup_range
 constructor
 ·intro h;refine⟨h.nodup_iff.2 hn,fun x hx=>?_,by rw [h.length_eq,Qw]⟩;have:=h.mem_iff.1 hx;unfold Xl at this;obtain⟨k,hk,rfl⟩:=List.mem_map.1 this;have:=List.mem_range.1 hk;exact⟨by show(0:Int) <= (k:Int);omega,by show(k:Int) < _;omega⟩
 ·rintro⟨h1,h2,h3⟩
  have hsub:l ⊆ Xl n:=fun x hx=>by
   obtain⟨a,b⟩:=h2 x hx;unfold Xl;exact List.mem_map.2 ⟨x.toNat,List.mem_range.2 (by omega),by show((x.toNat:Nat):Int)=x;omega⟩
  have hsub2:Xl n ⊆ l:=fun x hx=>by
   apply Classical.byContradiction;intro hx2
   have:= (List.nodup_cons.2 ⟨hx2,h1⟩).length_le_of_subset (l₂:=Xl n) (fun y hy=>by
    rcases List.mem_cons.1 hy with z | z
    ·rw [z];exact hx
    ·exact hsub z)
   rw [List.length_cons,Qw] at this;omega
  exact(List.perm_ext_iff_of_nodup h1 hn).2 fun a=>⟨fun h=>hsub h,fun h=>hsub2 h⟩
theorem Zwp {F:Nat} (hF:400000 <=F) {w:Zb} (h0:0 <=w.said) {l:List Int} (hl:l.length <=330000):∃ b,loop F (ZdV w l) (0,List.replicate w.said.toNat false)=some b∧(b=true↔l.Perm (Xl w.said.toNat)):=by
 rw [Zic]
 refine J3 false (some ((l.length:Int)==w.said)) (fun k=>((k:Int),Zdi w.said.toNat (l.take k))) (by
  simp only [List.take_zero];congr 1;unfold Zdi;apply List.ext_getElem?;intro i;by_cases hi:i < w.said.toNat <;> simp [hi]) (fun k=>∃ h:k < l.length,¬ (0 <=l[k]∧l[k] < w.said∧l[k] ∉ l.take k)) (n:=l.length) (by omega) (fun k hk=>?_) (fun next=>?_) (fun k hk hc=>?_) (fun hno=>⟨_,rfl,?_⟩)
 ·by_cases hr:0 <=l[k]∧l[k] < w.said
  ·have hr2:l[k] < (w.said.toNat:Int):=by omega
   have b0:∀ next,ZdV w l ((k:Int),Zdi w.said.toNat (l.take k)) next=bif decide (l[k] ∈ l.take k) then some false else next (((k + 1:Nat):Int),Zdi w.said.toNat (l.take (k + 1))):=fun next=>by
    unfold ZdV;dsimp only;rw [ZO hk,Cq1,XI hk];simp only [Bq0];rw [decide_eq_false (show ¬ l[k] < 0 by omega),decide_eq_false (show ¬ l[k] >=w.said by omega)];simp only [Bool.or_self,Bool.not_false,YR];rw [Zue hr.1 hr2];simp only [Bq0,Bool.false_or];rw [Zud hr.1 hr2,YD (by omega),List.take_add_one,List.getElem?_eq_getElem hk];rfl
   by_cases hs:l[k] ∈ l.take k
   ·refine .inl ⟨fun next=>?_,hk,fun q=>q.2.2 hs⟩;rw [b0,decide_eq_true hs];rfl
   ·refine .inr ⟨fun next=>?_,fun⟨_,q⟩=>q ⟨hr.1,hr.2,hs⟩⟩;rw [b0,decide_eq_false hs];rfl
  ·refine .inl ⟨fun next=>?_,hk,fun q=>hr ⟨q.1,q.2.1⟩⟩;unfold ZdV;dsimp only;rw [ZO hk,Cq1,XI hk];simp only [Bq0]
   have:(decide (l[k] < 0) || decide (l[k] >=w.said))=true:=by
    rw [← Bool.not_eq_false];intro z;simp only [Bool.or_eq_false_iff,decide_eq_false_iff_not] at z;exact hr ⟨by omega,by omega⟩
   rw [this];rfl
 ·unfold ZdV;dsimp only;rw [ZT];rfl
 ·obtain⟨h,q⟩:=hc;simp only [Bool.false_eq_true,false_iff];rintro⟨n1,n2,_⟩;have:=n2 _ (List.getElem_mem h);exact q ⟨this.1,by omega,ZdJ.1 n1 k h⟩
 ·have hall:∀ k (h:k < l.length),0 <=l[k]∧l[k] < w.said∧l[k] ∉ l.take k:=fun k h=>Classical.byContradiction fun q=>hno k h ⟨h,q⟩
  rw [beq_iff_eq]
  constructor
  ·intro h;refine⟨ZdJ.2 fun k hk=>(hall k hk).2.2,fun x hx=>?_,by omega⟩;obtain⟨k,hk,rfl⟩:=List.getElem_of_mem hx;have:=hall k hk;exact⟨this.1,by omega⟩
  ·rintro⟨_,_,h⟩;omega
noncomputable def ifc {α:Sort _} (c:Prop) (a b:α):α:=@ite α c (Classical.propDecidable c) a b
theorem Xn {α:Sort _} {c:Prop} (h:c) {a b:α}:ifc c a b=a:=by unfold ifc;exact if_pos h
theorem Xz {α:Sort _} {c:Prop} (h:¬ c) {a b:α}:ifc c a b=b:=by unfold ifc;exact if_neg h
theorem J2 {β γ:Type} {body:γ ->(γ ->Option β) ->Option β} {r1 r2:Option β} {s0:γ} (S:Nat ->γ) (h0:S 0=s0) (c:Nat ->Prop) {n F:Nat} (hF:n < F)
 (hb:∀ k,k < n ->∀ next,body (S k) next=ifc (c k) (next (S (k + 1))) r1) (he:∀ next,body (S n) next=r2):loop F body s0=ifc (∀ k,k < n ->c k) r2 r1:=by
 by_cases hall:∀ k,k < n ->c k
 ·rw [Xn hall];exact Yp S h0 hF (fun k hk next=>by rw [hb k hk,Xn (hall k hk)]) he
 ·rw [Xz hall];have hz:∃ k,k < n∧¬ c k:=Classical.byContradiction fun q=>hall fun p hp=>Classical.byContradiction fun q2=>q ⟨p,hp,q2⟩
  obtain⟨k0,hk0⟩:=hz;obtain⟨m,_,hm,hlt⟩:=X5 (c:=fun k=>k < n∧¬ c k) hk0;exact Yp S h0 (n:=m) (by omega) (fun k hk next=>by rw [hb k (by omega),Xn (Classical.byContradiction fun q=>hlt k hk ⟨by omega,q⟩)]) (fun next=>by rw [hb m hm.1,Xz hm.2])
theorem Zxn {α:Type} {z:α} {c:Nat} {a:Int} (h0:0 <=a) (h:c * a.toNat <=100000):mkL z c a a=some (List.replicate a.toNat z):=by
 unfold mkL;have e:Nat.ble (c * a.toNat) 100000=true:=by rw [Nat.ble_eq];exact h
 rw [decide_eq_true h0,decide_eq_true (show a <=a by omega),e];rfl
theorem ZdI {c:Prop} {b:Bool} (h:b=true↔c) {β:Type} (x y:β):(bif !b then x else y)=ifc c y x:=by
 cases b with
 | true=>rw [Xn (h.1 rfl)];rfl
 | false=>rw [Xz (fun q=>by have:=h.2 q;cases this)];rfl
def Zp7 (w:Zb) (p:Nat):Prop:=0 <=inn w p ->(spR w p).is= (spR w (inn w p).toNat).is∧(spR w p).at_= (spR w (inn w p).toNat).at_∧(spR w p).letter= (spR w (inn w p).toNat).letter
def ZvG (w:Zb) (m p:Nat):Prop:= (E w m p).here=false ->RtX w p (E w m p).Z9 (E w m p).age
def Zp4 (w:Zb) (x:Ze):Prop:= (x.kind=1 ->UU w x.Z9 x.Yb false)∧(x.kind=3 ->RtX w x.place.toNat x.at_ x.age)
section
variable {F:Nat} {w:Zb}
theorem ZwC (hF:400000 <=F) (sm:WM 400 w) (h:ShR w):loop F (Zf9 F w (Za1 w)) 0=ifc (∀ k,k < w.qG.length ->Zp4 w (ZB w k)) (some (decide ((msgs w).Perm (Xl w.said.toNat)))) (some false):=by
 have W3:=sm.qG;have s:=h.WT;refine J2 (fun k=>(k:Int)) rfl (fun k=>Zp4 w (ZB w k)) (n:=w.qG.length) (by omega) (fun k hk next=>?_) (fun next=>?_)
 ·have hl:=h.Xd (ZB w k) (Yj hk);unfold Zf9;rw [ZO hk,Cq1,YM default hk];simp only [Bq0]
  change (gd ((ZB w k).kind==1) (Zpr w (Za1 w) (ZB w k).Yb (ZB w k).Z9 false) default).bind (fun Zg7=>(gd ((!(((ZB w k).kind==1) && (!Zg7))) && ((ZB w k).kind==3)) (ZQ (Za1 w) (ZB w k).place) default).bind fun Zee=>(gd ((!(((ZB w k).kind==1) && (!Zg7))) && ((ZB w k).kind==3)) (ZmU w (ZB w k).place Zee (ZB w k).at_ (ZB w k).age) default).bind fun x159=>(bif((((ZB w k).kind==1) && (!Zg7)) || (((ZB w k).kind==3) && (!x159))) then some false else next (Xa ((k:Int) + 1))))=_
  rw [YD (by omega)];generalize ZB w k=x at hl ⊢;by_cases k1:x.kind=1
  ·obtain⟨b,e,i⟩:=ZoD s h.two x.Z9 x.Yb false;have k3:(x.kind==3)=false:=by rw [beq_eq_false_iff_ne];omega
   rw [show(x.kind==1)=true from beq_iff_eq.2 k1,k3,YR,e];simp only [Bq0,Bool.true_and,Bool.and_false,Xv,Bool.false_and,Bool.or_false];have hi:b=true↔Zp4 w x:=i.trans ⟨fun q=>⟨fun _=>q,fun q2=>by omega⟩,fun q=>q.1 k1⟩;exact ZdI hi _ _
  ·rw [show(x.kind==1)=false from beq_eq_false_iff_ne.2 k1,Xv];simp only [Bq0,Bool.false_and,Bool.not_false,Bool.true_and,Bool.false_or];by_cases k3:x.kind=3
   ·obtain⟨n1,n2,n3⟩:=hl.ntd k3;obtain⟨p,hp⟩:∃ p:Nat,x.place= (p:Int):= ⟨x.place.toNat,by omega⟩
    have hpl:p < w.Zv.length:=by omega
    rw [show(x.kind==3)=true from beq_iff_eq.2 k3,YR,hp,ZbT hpl];simp only [Bq0,YR];rw [ZfE s h.two hpl];simp only [Bq0,Bool.true_and]
    have hi:decide (RtX w p x.at_ x.age)=true↔Zp4 w x:=by
     rw [decide_eq_true_eq];unfold Zp4;rw [hp,Int.toNat_natCast];exact⟨fun q=>⟨fun q2=>absurd q2 k1,fun _=>q⟩,fun q=>q.2 k3⟩
    exact ZdI hi _ _
   ·rw [show(x.kind==3)=false from beq_eq_false_iff_ne.2 k3,Xv];simp only [Bq0,Xv,Bool.false_and,Cq0];rw [Xn (show Zp4 w x from⟨fun q=>absurd q k1,fun q=>absurd q k3⟩)]
 ·unfold Zf9;rw [ZT,Cq0,Zmc hF sm];simp only [Bq0];have h1:=h.sd1;have h2:=h.sd2;rw [Zxn h1 (by omega)];simp only [Bq0]
  have hm:(msgs w).length <=320400:=by
   obtain⟨B1,B2,B3⟩:=BdM.of sm;unfold msgs;rw [List.length_append,List.length_append];omega
  obtain⟨b,e,i⟩:=Zwp hF h.sd1 (l:=msgs w) (by omega);rw [e];congr 1;by_cases hq:(msgs w).Perm (Xl w.said.toNat)
  ·rw [decide_eq_true hq];exact i.2 hq
  ·rw [decide_eq_false hq,← Bool.not_eq_true,i];exact hq
theorem ZwD (hF:400000 <=F) (sm:WM 400 w) (h:ShR w):loop F (Zga F w) (Za1 w,0)=ifc (∀ m,m < w.qJ.length ->∀ k,k < (ZF w m).length ->UU w (m:Int) ((ZF w m).getD k default) true) (loop F (Zf9 F w (Za1 w)) 0) (some false):=by
 have W2:=sm.qJ;have s:=h.WT;refine J2 (fun m=>(Za1 w,(m:Int))) rfl (fun m=>∀ k,k < (ZF w m).length ->UU w (m:Int) ((ZF w m).getD k default) true) (n:=w.qJ.length) (by omega) (fun m hm next=>?_) (fun next=>?_)
 ·have hrow:=sm.hel (ZF w m) (Yj hm);unfold Zga;dsimp only;rw [ZO hm,Cq1,YM [] hm];simp only [Bq0]
  change loop F (Zjw w (m:Int) next (ZF w m)) (Za1 w,0)=_
  refine J2 (fun j=>(Za1 w,(j:Int))) rfl (fun k=>UU w (m:Int) ((ZF w m).getD k default) true) (n:= (ZF w m).length) (by omega) (fun j hj nx=>?_) (fun nx=>?_)
  ·unfold Zjw;dsimp only;rw [ZO hj,Cq1,YM default hj];simp only [Bq0];obtain⟨b,e,i⟩:=ZoD s h.two (m:Int) ((ZF w m).getD j default) true;rw [e];simp only [Bq0];rw [YD (by omega)];exact ZdI i _ _
  ·unfold Zjw;dsimp only;rw [ZT,Cq0,YD (by omega)]
 ·unfold Zga;dsimp only;rw [ZT,Cq0]
theorem ZBC (hF:400000 <=F) (h:ShR w):loop F (Zgb F w (Za1 w)) 0=ifc (∀ m,m < w.qQ.length ->∀ p,p < w.Zv.length ->ZvG w m p) (loop F (Zga F w) (Za1 w,0)) (some false):=by
 have s:=h.WT;have h5:=s.m2;have h8:=s.p2;refine J2 (fun m=>(m:Int)) rfl (fun m=>∀ p,p < w.Zv.length ->ZvG w m p) (n:=w.qQ.length) (by omega) (fun m hm next=>?_) (fun next=>?_)
 ·unfold Zgb;rw [ZO hm,Cq1,s.row hm];simp only [Bq0];refine J2 (fun p=>(p:Int)) rfl (fun p=>ZvG w m p) (n:=w.Zv.length) (by omega) (fun p hp nx=>?_) (fun nx=>?_)
  ·unfold Zm3;rw [s.len hm,ZO hp,Cq1,s.ent hm hp];simp only [Bq0];rw [YD (by omega)];cases hh:(E w m p).here with
   | true=>
     simp only [Bool.not_true,Xv,Bq0,Bool.false_and,Cq0];rw [Xn (show ZvG w m p from fun q=>by rw [hh] at q;cases q)]
   | false=>
     simp only [Bool.not_false,YR,Bool.true_and];rw [ZbT hp];simp only [Bq0];rw [ZfE s h.two hp];simp only [Bq0];exact ZdI (show decide (RtX w p (E w m p).Z9 (E w m p).age)=true↔ZvG w m p from by rw [decide_eq_true_eq];exact⟨fun q _=>q,fun q=>q hh⟩) _ _
  ·unfold Zm3;rw [s.len hm,ZT,Cq0,YD (by omega)]
 ·unfold Zgb;rw [ZT,Cq0]
theorem ZBB (hF:400000 <=F) (h:ShR w):loop F (Zgc F w (Za1 w)) 0=ifc (∀ p,p < w.Zv.length ->Zp7 w p) (loop F (Zgb F w (Za1 w)) 0) (some false):=by
 have s:=h.WT;have h5:=s.m2;have h8:=s.p2;refine J2 (fun p=>(p:Int)) rfl (fun p=>Zp7 w p) (n:=w.Zv.length) (by omega) (fun p hp next=>?_) (fun next=>?_)
 ·unfold Zgc;rw [ZO hp,Cq1,XO hp];simp only [Bq0];rw [YD (by omega)];by_cases hi:0 <=inn w p
  ·obtain⟨q,hq⟩:∃ q:Nat,inn w p= (q:Int):= ⟨(inn w p).toNat,by omega⟩
   have hr:= (h.inn.rng p hp).2;have hql:q < w.Zv.length:=by omega
   rw [hq,decide_eq_true (show(q:Int) >=0 by omega),YR,ZbT hp];simp only [Bq0,YR];rw [ZbT hql];simp only [Bq0,Bool.true_and]
   have t0:Zp7 w p↔((spR w p).is= (spR w q).is∧(spR w p).at_= (spR w q).at_∧(spR w p).letter= (spR w q).letter):=by
    unfold Zp7;rw [hq,Int.toNat_natCast];exact⟨fun z=>z (by omega),fun z _=>z⟩
   by_cases a1:(spR w p).is= (spR w q).is
   ·rw [a1,QE];simp only [Bool.not_false,YR,Bq0,Bool.false_or];by_cases a2:(spR w p).at_= (spR w q).at_
    ·rw [a2,QE];simp only [Bool.not_false,YR,Bq0,Bool.false_or];rw [QZ,ZaQ];by_cases a3:(spR w p).letter= (spR w q).letter
     ·rw [if_neg (fun z=>z a3),Xn (t0.2 ⟨a1,a2,a3⟩)]
     ·rw [if_pos a3,Xz (fun z=>a3 (t0.1 z).2.2)]
    ·rw [QZ,decide_eq_true a2];simp only [Bool.not_true,Xv,Bq0,Bool.true_or,Cq1];rw [Xz (fun z=>a2 (t0.1 z).2.1)]
   ·have:((spR w p).is != (spR w q).is)=true:=bne_iff_ne.2 a1;rw [this];simp only [Bool.not_true,Xv,Bq0,Bool.true_or,Cq1];rw [Xz (fun z=>a1 (t0.1 z).1)]
  ·rw [decide_eq_false (show ¬ inn w p >=0 by omega)];simp only [Xv,Bq0,Bool.false_and,Cq0];rw [Xn (show Zp7 w p from fun q=>absurd q hi)]
 ·unfold Zgc;rw [ZT,Cq0]
def ZlL (w:Zb) (k:Nat):List XF:= (List.range k).map (spR w) ++ List.replicate (w.Zv.length - k) ⟨0,0,0,false⟩
theorem Zwf {w:Zb} {k:Nat} (h:k < w.Zv.length):Yv (ZlL w k) (k:Int) (spR w k)=ZlL w (k + 1):=by
 unfold Yv ZlL;rw [Int.toNat_natCast,show w.Zv.length - k= (w.Zv.length - (k + 1)) + 1 by omega,List.replicate_succ,List.set_append_right _ _ (by simp),List.range_succ,List.map_append];simp
theorem Zwg {w:Zb} {k:Nat} (h:k <=w.Zv.length):(ZlL w k).length=w.Zv.length:=by simp [ZlL];omega
theorem Zuh (hF:400000 <=F) (sm:WM 400 w) (h:ShR w):loop F (Zjx F w) (0,List.replicate w.Zv.length ⟨0,0,0,false⟩)=ifc (∀ p,p < w.Zv.length ->(QJ w p).length=1) (loop F (Zgc F w (Za1 w)) 0) (some false):=by
 have s:=h.WT;have h5:=s.m2;have h8:=s.p2;have W:=sm.qG;refine J2 (fun p=>((p:Int),ZlL w p)) (by simp [ZlL]) (fun p=>(QJ w p).length=1) (n:=w.Zv.length) (by omega) (fun p hp next=>?_) (fun next=>?_)
 ·unfold Zjx;dsimp only;rw [ZO hp,Cq1,Zpm (by omega) s (fun x hx=>⟨(h.Xd x hx).Y9.len,by have:= (sm.Xd x hx).1;omega⟩) (by omega) hp];simp only [Bq0];rw [YM default (by rw [Zwg (by omega)];exact hp)];simp only [Bq0];rw [YD (by omega),show U2 (QJ w p)=spR w p from rfl,Zwf hp];exact ZdI decide_eq_true_iff _ _
 ·unfold Zjx;dsimp only;rw [ZT,Cq0,show ZlL w w.Zv.length=Za1 w from by simp [ZlL,Za1]]
end
theorem UU.ZKf {w:Zb} (hag:∀ p,p < w.Zv.length ->(sp w p).age <=30) {m:Int} {y:Zr}:UU w m y false↔QR w m y:=by
 unfold UU QR
 constructor
 ·rintro⟨a1,a2,a3,a4,a5,a6,a7,a8,_,b⟩;exact⟨a1,a2,a3,a4,b rfl,a7,by rw [Int.add_comm,Za0 a5 a6];exact a8⟩
 ·rintro⟨a1,a2,a3,a4,b,a7,a8⟩;have h1:=b.1;have h2:=b.2.1;have h3:=hag y.place.toNat (by omega);rw [Int.add_comm,Za0 (by omega) (by omega)] at a8;exact⟨a1,a2,a3,a4,by omega,by omega,a7,a8,fun q=>(by cases q),fun _=>b⟩
theorem UU.ZKg {w:Zb} (hag:∀ p,p < w.Zv.length ->(sp w p).age <=30) {m:Nat} (hm:m < w.qQ.length) {y:Zr}:UU w (m:Int) y true↔QR w (m:Int) y∧sp w y.place.toNat= ⟨(m:Int),false,y.age⟩:=by
 constructor
 ·rintro⟨a1,a2,a3,a4,a5,a6,a7,a8,b,_⟩;have e:=b rfl;refine⟨⟨a1,a2,a3,a4,⟨a5,by rw [e];exact Int.le_refl _,by omega,by omega,fun _=>by rw [e],fun q=>?_⟩,a7,by rw [Int.add_comm,Za0 a5 a6];exact a8⟩,e⟩;rw [e] at q;exact absurd rfl q
 ·rintro⟨⟨a1,a2,a3,a4,b,a7,a8⟩,e⟩;have h1:=b.1;have h2:=b.2.1;have h3:=hag y.place.toNat (by omega);rw [Int.add_comm,Za0 (by omega) (by omega)] at a8;exact⟨a1,a2,a3,a4,by omega,by omega,a7,a8,fun _=>e,fun q=>(by cases q)⟩
theorem ZbS {w:Zb} (h:ShR w) {p:Nat} (hp:p < w.Zv.length) (hl:(YC w p).length=1):(sp w p).age <=30:=by
 rcases Zaz hl with⟨m,h1,h2,h3⟩ | ⟨x,h1,h2,i,h3,h4,h5⟩
 ·rw [h3];exact(h.ent m h1 p hp).2.1
 ·rw [h5];exact((h.Xd x h1).WY i h3).2.2.2.2
theorem Zp6 {w:Zb} (h:ShR w) (hl:∀ p,p < w.Zv.length ->(QJ w p).length=1) {p:Nat} (hp:p < w.Zv.length):Zp7 w p↔(0 <=inn w p ->(sp w (inn w p).toNat).machine= (sp w p).machine∧(sp w (inn w p).toNat).here= (sp w p).here∧((sp w p).here=false ->ZjZ w p (inn w p))):=by
 unfold Zp7;by_cases hi:0 <=inn w p
 ·obtain⟨q,hq⟩:∃ q:Nat,inn w p= (q:Int):= ⟨(inn w p).toNat,by omega⟩
  have hr:= (h.inn.rng p hp).2;have hql:q < w.Zv.length:=by omega
  rw [hq,Int.toNat_natCast,← ZkW h.two p,← ZkW h.two q];unfold toS;have same:=fun e=>Zn7 h.two (hl p hp) (hl q hql) e
  constructor
  ·intro z _;obtain⟨a,b,c⟩:=z (by omega);exact⟨b.symm,a.symm,(same a).1 c⟩
  ·intro z _;obtain⟨a,b,c⟩:=z (by omega);exact⟨b.symm,a.symm,(same b.symm).2 c⟩
 ·exact⟨fun _ q=>absurd q hi,fun _ q=>absurd q hi⟩
theorem Zio {w:Zb} {P:Ze ->Prop}:(∀ k,k < w.qG.length ->P (ZB w k))↔∀ x ∈ w.qG,P x:=by
 constructor
 ·intro h x hx;obtain⟨i,hi,rfl⟩:=List.getElem_of_mem hx;have:=h i hi;unfold ZB at this
  rwa [List.getD_eq_getElem?_getD,List.getElem?_eq_getElem hi] at this
 ·intro h k hk;exact h _ (Yj hk)
theorem WG {α:Type} {l:List α} {d:α} {P:α ->Prop}:(∀ k,k < l.length ->P (l.getD k d))↔∀ x ∈ l,P x:=by
 constructor
 ·intro h x hx;obtain⟨i,hi,rfl⟩:=List.getElem_of_mem hx;have:=h i hi
  rwa [List.getD_eq_getElem?_getD,List.getElem?_eq_getElem hi] at this
 ·intro h k hk;exact h _ (Yj hk)
theorem ZkN {F:Nat} (hF:400000 <=F) {w:Zb} (sm:WM 400 w):∃ b,Zpt F w=some b∧(b=true↔Wd w):=by
 have sm9:WM 900 w:=sm.mono (by omega);obtain⟨b,e,i⟩:=Zub (F:=F) (by omega) sm9;unfold Zpt;rw [e];simp only [Bq0];rw [ZdI i];by_cases h:ShR w
 ·rw [Xn h];have hz:=h.WT.p2;rw [Zxn (by omega) (by rw [Int.toNat_natCast];omega),Int.toNat_natCast];simp only [Bq0];rw [Zuh hF sm h,ZBB hF h,ZBC hF h,ZwD hF sm h,ZwC hF sm h];by_cases h1:∀ p,p < w.Zv.length ->(QJ w p).length=1
  ·have h1P:∀ p,p < w.Zv.length ->(YC w p).length=1:=fun p hp=>by rw [len_eq h.two];exact h1 p hp
   have hag:∀ p,p < w.Zv.length ->(sp w p).age <=30:=fun p hp=>ZbS h hp (h1P p hp)
   rw [Xn h1];by_cases h2:∀ p,p < w.Zv.length ->Zp7 w p
   ·rw [Xn h2];by_cases h3:∀ m,m < w.qQ.length ->∀ p,p < w.Zv.length ->ZvG w m p
    ·rw [Xn h3];have hhd:=h.WT.hd;by_cases h4:∀ m,m < w.qJ.length ->∀ k,k < (ZF w m).length ->UU w (m:Int) ((ZF w m).getD k default) true
     ·rw [Xn h4];by_cases h5:∀ k,k < w.qG.length ->Zp4 w (ZB w k)
      ·rw [Xn h5];refine⟨_,rfl,?_⟩;rw [decide_eq_true_eq];have h5':= (Zio (P:=Zp4 w)).1 h5
       constructor
       ·intro h6;exact⟨h,h1P,fun p hp=>(Zp6 h h1 hp).1 (h2 p hp),h3,fun m hm x hx=>(UU.ZKg hag hm).1 ((WG (P:=fun x=>UU w (m:Int) x true)).1 (h4 m (by omega)) x hx),fun x hx hk=>(UU.ZKf hag).1 ((h5' x hx).1 hk),fun x hx hk=>(h5' x hx).2 hk,h6⟩
       ·intro h6;exact h6.msg
      ·rw [Xz h5];refine⟨_,rfl,?_⟩;simp only [Bool.false_eq_true,false_iff];intro z;exact h5 (Zio.2 fun x hx=>⟨fun q=>(UU.ZKf hag).2 (z.mai x hx q),fun q=>z.ntd x hx q⟩)
     ·rw [Xz h4];refine⟨_,rfl,?_⟩;simp only [Bool.false_eq_true,false_iff];intro z;exact h4 fun m hm=>(WG (P:=fun x=>UU w (m:Int) x true)).2 fun x hx=>(UU.ZKg hag (by omega)).2 (z.hel m (by omega) x hx)
    ·rw [Xz h3];refine⟨_,rfl,?_⟩;simp only [Bool.false_eq_true,false_iff];intro z;exact h3 z.ent
   ·rw [Xz h2];refine⟨_,rfl,?_⟩;simp only [Bool.false_eq_true,false_iff];intro z;exact h2 fun p hp=>(Zp6 h h1 hp).2 (z.tog p hp)
  ·rw [Xz h1];refine⟨_,rfl,?_⟩;simp only [Bool.false_eq_true,false_iff];intro z;exact h1 fun p hp=>by rw [← len_eq h.two];exact z.loc p hp
 ·rw [Xz h];refine⟨_,rfl,?_⟩;simp only [Bool.false_eq_true,false_iff];intro z;exact h z.shr
end Go.Proofs.YtbmbbcaaimehkaaGreat
end
section
namespace Go.Proofs.YtbmbbcaaimehkaaGreat
open Go.Lf
theorem Zwn {F:Nat} (hF:400000 <=F) (w:Zb):∃ b,ZzR F w=some b∧(b=true ->WM 201 w):=by
 unfold ZzR;refine QX (fun _=>⟨false,rfl,fun q=>by cases q⟩) (fun hc=>?_);simp only [Bool.or_eq_false_iff,decide_eq_false_iff_not] at hc;obtain⟨⟨⟨⟨c1,c2⟩,c3⟩,c4⟩,c5⟩:=hc
 have e3:loop F (Zgd w) 0=ifc (∀ k,k < w.qG.length ->(ZB w k).qV.length <=20∧(ZB w k).Yk.length <=20) (some true) (some false):=by
  refine J2 (fun k=>(k:Int)) rfl (fun k=>(ZB w k).qV.length <=20∧(ZB w k).Yk.length <=20) (n:=w.qG.length) (by omega) (fun k hk next=>?_) (fun next=>?_)
  ·unfold Zgd;rw [ZO hk,Cq1,YM default hk];simp only [Bq0];rw [YD (by omega),show w.qG.getD k default=ZB w k from rfl];by_cases h:(ZB w k).qV.length <=20∧(ZB w k).Yk.length <=20
   ·rw [Xn h,decide_eq_false (by omega),decide_eq_false (by omega)];rfl
   ·rw [Xz h]
    have:(decide (((ZB w k).qV.length:Int) > 20) || decide (((ZB w k).Yk.length:Int) > 20))=true:=by
     rw [← Bool.not_eq_false];intro z;simp only [Bool.or_eq_false_iff,decide_eq_false_iff_not] at z;exact h ⟨by omega,by omega⟩
    rw [this];rfl
  ·unfold Zgd;rw [ZT];rfl
 have e2:loop F (Zge F w) 0=ifc (∀ k,k < w.qJ.length ->(w.qJ.getD k []).length <=100) (loop F (Zgd w) 0) (some false):=by
  refine J2 (fun k=>(k:Int)) rfl (fun k=>(w.qJ.getD k []).length <=100) (n:=w.qJ.length) (by omega) (fun k hk next=>?_) (fun next=>?_)
  ·unfold Zge;rw [ZO hk,Cq1,YM [] hk];simp only [Bq0];rw [YD (by omega)];by_cases h:(w.qJ.getD k []).length <=100
   ·rw [Xn h,decide_eq_false (by omega)];rfl
   ·rw [Xz h,decide_eq_true (by omega)];rfl
  ·unfold Zge;rw [ZT];rfl
 have e1:loop F (Zgf F w) 0=ifc (∀ k,k < w.qQ.length ->(w.qQ.getD k []).length <=20) (loop F (Zge F w) 0) (some false):=by
  refine J2 (fun k=>(k:Int)) rfl (fun k=>(w.qQ.getD k []).length <=20) (n:=w.qQ.length) (by omega) (fun k hk next=>?_) (fun next=>?_)
  ·unfold Zgf;rw [ZO hk,Cq1,YM [] hk];simp only [Bq0];rw [YD (by omega)];by_cases h:(w.qQ.getD k []).length <=20
   ·rw [Xn h,decide_eq_false (by omega)];rfl
   ·rw [Xz h,decide_eq_true (by omega)];rfl
  ·unfold Zgf;rw [ZT];rfl
 have e0:loop F (Zjy F w) 0=ifc (∀ k,k < w.qK.length ->(w.qK.getD k []).length <=100) (loop F (Zgf F w) 0) (some false):=by
  refine J2 (fun k=>(k:Int)) rfl (fun k=>(w.qK.getD k []).length <=100) (n:=w.qK.length) (by omega) (fun k hk next=>?_) (fun next=>?_)
  ·unfold Zjy;rw [ZO hk,Cq1,YM [] hk];simp only [Bq0];rw [YD (by omega)];by_cases h:(w.qK.getD k []).length <=100
   ·rw [Xn h,decide_eq_false (by omega)];rfl
   ·rw [Xz h,decide_eq_true (by omega)];rfl
  ·unfold Zjy;rw [ZT];rfl
 rw [e0];by_cases h0:∀ k,k < w.qK.length ->(w.qK.getD k []).length <=100
 ·rw [Xn h0,e1];by_cases h1:∀ k,k < w.qQ.length ->(w.qQ.getD k []).length <=20
  ·rw [Xn h1,e2];by_cases h2:∀ k,k < w.qJ.length ->(w.qJ.getD k []).length <=100
   ·rw [Xn h2,e3];by_cases h3:∀ k,k < w.qG.length ->(ZB w k).qV.length <=20∧(ZB w k).Yk.length <=20
    ·rw [Xn h3];refine⟨true,rfl,fun _=>⟨by omega,by omega,by omega,by omega,by omega,fun l hl=>?_,fun l hl=>?_,fun l hl=>?_,fun l hl=>?_⟩⟩
     ·have:= (WG (P:=fun l:List Int=>l.length <=100)).1 h0 l hl;omega
     ·have:= (WG (P:=fun l:List Zw=>l.length <=20)).1 h1 l hl;omega
     ·have:= (WG (P:=fun l:List Zr=>l.length <=100)).1 h2 l hl;omega
     ·have:= (Zio (P:=fun x=>x.qV.length <=20∧x.Yk.length <=20)).1 h3 l hl;omega
    ·rw [Xz h3];exact⟨false,rfl,fun q=>by cases q⟩
   ·rw [Xz h2];exact⟨false,rfl,fun q=>by cases q⟩
  ·rw [Xz h1];exact⟨false,rfl,fun q=>by cases q⟩
 ·rw [Xz h0];exact⟨false,rfl,fun q=>by cases q⟩
def nx (w:Zb) (p m:Nat):Nat:= (E w m p).Z9.toNat
def tr (w:Zb) (p m:Nat):Nat ->Nat
 | 0=>m
 | i + 1=>nx w p (tr w p m i)
section
variable {F:Nat} {w:Zb}
theorem Wd.mvd (h:Wd w) (sm:WM 900 w):Mvd 900 w.qG:=fun x hx hk=>by
 have h1:= (h.shr.Xd x hx).Y9.len;have h2:=sm.Xd x hx
 first
  | exact⟨h1,by omega⟩
  | exact⟨by omega,h1⟩
theorem Zau (hF:1000 <=F) (hM:F <=1000000) (h:Wd w) (sm:WM 900 w) {p:Nat} (hp:p < w.Zv.length):ZdR F w (p:Int)=some (sp w p,1):=by
 rw [ZhR hF hM h.shr.WT (h.mvd sm) sm.qG hp,h.loc p hp];rfl
theorem ZCV (hF:1000 <=F) (h:Wd w) (sm:WM 900 w) {p:Nat} (hp:p < w.Zv.length):ZrF F w (p:Int)=some (spR w p,true):=by
 rw [Zpm hF h.shr.WT (fun x hx=>⟨(h.shr.Xd x hx).Y9.len,by have:= (sm.Xd x hx).1;omega⟩) sm.qG hp,← len_eq h.shr.two,h.loc p hp];rfl
end
end Go.Proofs.YtbmbbcaaimehkaaGreat
end
section
namespace Go.Proofs.YtbmbbcaaimehkaaGreat
open Go.Lf
section
variable {F:Nat} {w:Zb}
theorem ZKe (p n:Int):Zu5 p n=some (decide (0 <=p∧p < n)):=by
 unfold Zu5;congr 1;by_cases a:0 <=p
 ·by_cases b:p < n
  ·rw [decide_eq_true a,decide_eq_true b,decide_eq_true (show 0 <=p∧p < n from⟨a,b⟩)];rfl
  ·rw [decide_eq_true a,decide_eq_false b,decide_eq_false (fun q:0 <=p∧p < n=>b q.2)];rfl
 ·rw [decide_eq_false a,decide_eq_false (fun q:0 <=p∧p < n=>a q.1)];rfl
theorem Zz4 (hF:400000 <=F) (hM:F <=1000000) (sm:WM 400 w) (h:¬ Wd w):Zps F w=some 2:=by
 obtain⟨e,h1,h2,h3⟩:=ZjK hF hM sm;rw [h1];rcases h2 with q | q
 ·exact absurd (h3.1 q) h
 ·rw [q]
theorem ZpM (hF:400000 <=F) (hM:F <=1000000) (sm:WM 400 w) (h:Wd w):Zps F w=some 0:=by
 obtain⟨e,h1,h2,h3⟩:=ZjK hF hM sm;rw [h1,h3.2 h]
theorem Zv0 (hF:400000 <=F) (sm:WM 400 w) (h:Wd w):Zpt F w=some true:=by
 obtain⟨b,h1,h2⟩:=ZkN hF sm;rw [h1,h2.2 h]
theorem ZtX (hF:400000 <=F) (sm:WM 400 w) (h:Wd w) {p:Nat} (hp:p < w.Zv.length):ZzO F w (p:Int)=some ((sp w p).machine,(sp w p).here,(sp w p).age):=by
 unfold ZzO;rw [ZCV (by omega) h (sm.mono (by omega)) hp,← ZkW h.shr.two];rfl
end
end Go.Proofs.YtbmbbcaaimehkaaGreat
end
section
namespace Go.Proofs.YtbmbbcaaimehkaaGreat
open Go.Lf
theorem app0 {α:Type} {b:Nat} {l:List α} (h:l.length <=900000) (hb:b <=1000):app b [] l=some l:=by
 rw [Znu (by simp;omega) hb];rfl
theorem Zgn {α β:Type} {F b:Nat} {l:List (List α)} {g:List α ->Option (List α)} {body:List (List α)×Int ->(List (List α)×Int ->Option β) ->Option β} {r:Option β} {s:List (List α)×Int} (hs:s= ([],0)) (hF:l.length < F) (hl:l.length <=900)
 (hb:∀ k (h:k < l.length) next,body (l.take k,(k:Int)) next=next (l.take (k + 1),((k + 1:Nat):Int))) (he:∀ next,body (l,(l.length:Int)) next=r):loop F body s=r:=by
 subst hs;exact Yp (fun k=>(l.take k,(k:Int))) (by simp) hF hb (fun next=>by rw [List.take_of_length_le (Nat.le_refl _)];exact he next)
theorem Zep {α:Type} {l:List α} {k b:Nat} (h:k < l.length) (hl:l.length <=900) (hb:b <=1000):app b (l.take k) [l[k]]=some (l.take (k + 1)):=by
 rw [app1 (by rw [List.length_take];omega) hb,List.take_add_one,List.getElem?_eq_getElem h];rfl
theorem Zvf {F:Nat} (hF:1000 <=F) {l:List (List Int)} (hl:l.length < 900) (hr:∀ x ∈ l,x.length < 900):ZzA F l=some l:=by
 unfold ZzA;refine Zgn (b:=8) (g:=fun _=>none) (l:=l) rfl (by omega) (by omega) (fun k h next=>?_) (fun next=>?_)
 ·have:=hr _ (List.getElem_mem h);unfold ZmM;dsimp only;rw [ZO h,Cq1,XI h];simp only [Bq0];unfold ZmO;rw [app0 (by omega) (by omega)];simp only [Bq0];rw [Zep h (by omega) (by omega)];simp only [Bq0];rw [YD (by omega)]
 ·unfold ZmM;dsimp only;rw [ZT];rfl
theorem Zng {F:Nat} (hF:1000 <=F) {l:List (List Zw)} (hl:l.length < 900) (hr:∀ x ∈ l,x.length < 900):Zzz F l=some l:=by
 unfold Zzz;refine Zgn (b:=8) (g:=fun _=>none) (l:=l) rfl (by omega) (by omega) (fun k h next=>?_) (fun next=>?_)
 ·have:=hr _ (List.getElem_mem h);unfold ZmL;dsimp only;rw [ZO h,Cq1,XI h];simp only [Bq0];unfold Ztv;rw [app0 (by omega) (by omega)];simp only [Bq0];rw [Zep h (by omega) (by omega)];simp only [Bq0];rw [YD (by omega)]
 ·unfold ZmL;dsimp only;rw [ZT];rfl
theorem ZrQ {F:Nat} (hF:1000 <=F) {l:List (List Zr)} (hl:l.length < 900) (hr:∀ x ∈ l,x.length < 900):Zzy F l=some l:=by
 unfold Zzy;refine Zgn (b:=8) (g:=fun _=>none) (l:=l) rfl (by omega) (by omega) (fun k h next=>?_) (fun next=>?_)
 ·have:=hr _ (List.getElem_mem h);unfold ZmK;dsimp only;rw [ZO h,Cq1,XI h];simp only [Bq0];unfold Ztu;rw [app0 (by omega) (by omega)];simp only [Bq0];rw [Zep h (by omega) (by omega)];simp only [Bq0];rw [YD (by omega)]
 ·unfold ZmK;dsimp only;rw [ZT];rfl
theorem Zve {F:Nat} (hF:1000 <=F) {w:Zb} (sm:WM 900 w):ZzL F w=some w:=by
 have h1:=sm.Zv;have h2:=sm.qG;unfold ZzL ZmO;rw [app0 (by omega) (by omega)];simp only [Bq0];rw [Zvf hF sm.qK sm.box,Zng hF sm.qQ sm.row,ZrQ hF sm.qJ sm.hel];simp only [Bq0];refine Yp (fun k=>((k:Int),w.qG.take k)) (by simp) (n:=w.qG.length) (by omega) (fun k h next=>?_) (fun next=>?_)
 ·have:=sm.Xd _ (List.getElem_mem h);unfold ZmX;dsimp only;rw [ZO h,Cq1,XI h];simp only [Bq0];unfold ZmO;rw [app0 (by omega) (by omega),app0 (by omega) (by omega)];simp only [Bq0];rw [show Ze.mk w.qG[k].kind w.qG[k].Z9 w.qG[k].Yb w.qG[k].qV w.qG[k].Yk w.qG[k].place w.qG[k].at_ w.qG[k].age=w.qG[k] from rfl,Zep h (by omega) (by omega)];simp only [Bq0];rw [YD (by omega)]
 ·unfold ZmX;dsimp only;rw [ZT,Cq0,List.take_of_length_le (Nat.le_refl _)]
def Uh (p:Int) (n:Nat):Prop:=0 <=p∧p < (n:Int)
instance (p:Int) (n:Nat):Decidable (Uh p n):=by unfold Uh;infer_instance
def Ask (w:Zb) (s:Zx):Prop:=
 (s.act=1∧Uh s.a w.qQ.length∧Uh s.b w.Zv.length)∨(s.act=2∧Uh s.a w.Zv.length∧Uh s.b w.qQ.length)∨(s.act=3∧Uh s.a w.Zv.length∧Uh s.b w.Zv.length)∨(s.act=4∧Uh s.a w.Zv.length)∨(s.act=5∧Uh s.a w.qG.length)
instance (w:Zb) (s:Zx):Decidable (Ask w s):=by unfold Ask;infer_instance
theorem Zmh (p:Int) (n:Nat):(decide (p >=0) && decide (p < (n:Int)))=decide (Uh p n):=by
 by_cases h:Uh p n
 ·rw [decide_eq_true h,decide_eq_true h.1,decide_eq_true h.2];rfl
 ·rw [decide_eq_false h,← Bool.not_eq_true];intro z;simp only [Ba0,decide_eq_true_eq] at z;exact h ⟨z.1,z.2⟩
theorem ZBI (p:Int) (n:Nat):Zhg p (n:Int)=some (decide (Uh p n)):=by unfold Zhg;rw [Zmh]
theorem ZDs (w:Zb) (s:Zx):Zu6 w s=some (decide (Ask w s)):=by
 have e:∀ k:Int,(s.act==k)=decide (s.act=k):=fun k=>Yg _ _
 unfold Zu6;simp only [ZBI,Bq0,Zmh];by_cases h1:s.act=1
 ·rw [e,decide_eq_true h1,Cq1];by_cases a:Uh s.a w.qQ.length
  ·by_cases b:Uh s.b w.Zv.length
   ·simp [Ask,h1,a,b,gd]
   ·simp [Ask,h1,a,b,gd]
  ·simp [Ask,h1,a,gd]
 rw [e 1,decide_eq_false h1,Cq0];by_cases h2:s.act=2
 ·rw [e,decide_eq_true h2,Cq1];by_cases a:Uh s.a w.Zv.length
  ·by_cases b:Uh s.b w.qQ.length
   ·simp [Ask,h2,a,b,gd]
   ·simp [Ask,h2,a,b,gd]
  ·simp [Ask,h2,a,gd]
 rw [e 2,decide_eq_false h2,Cq0];by_cases h3:s.act=3
 ·rw [e,decide_eq_true h3,Cq1];by_cases a:Uh s.a w.Zv.length
  ·by_cases b:Uh s.b w.Zv.length
   ·simp [Ask,h3,a,b,gd]
   ·simp [Ask,h3,a,b,gd]
  ·simp [Ask,h3,a,gd]
 rw [e 3,decide_eq_false h3,Cq0];by_cases h4:s.act=4
 ·rw [e,decide_eq_true h4,Cq1];by_cases a:Uh s.a w.Zv.length
  ·simp [Ask,h4,a]
  ·simp [Ask,h4,a]
 rw [e 4,decide_eq_false h4,Cq0];by_cases h5:s.act=5
 ·rw [e,decide_eq_true h5,Cq1];by_cases a:Uh s.a w.qG.length
  ·simp [Ask,h5,a]
  ·simp [Ask,h5,a]
 rw [e 5,decide_eq_false h5,Cq0];simp [Ask,h1,h2,h3,h4,h5]
theorem ZpT (w:Zb) (s:Zx):Zu3 w s=some (decide (Ask w s)):=by
 have e:∀ k:Int,(s.act==k)=decide (s.act=k):=fun k=>Yg _ _
 unfold Zu3 Zm2 Zjs;simp only [Zmh];by_cases h1:s.act=1
 ·rw [e,decide_eq_true h1,Cq1];by_cases a:Uh s.a w.qQ.length
  ·by_cases b:Uh s.b w.Zv.length
   ·simp [Ask,h1,a,b]
   ·simp [Ask,h1,a,b]
  ·simp [Ask,h1,a]
 rw [e 1,decide_eq_false h1,Cq0];by_cases h2:s.act=2
 ·rw [e,decide_eq_true h2,Cq1];by_cases a:Uh s.a w.Zv.length
  ·by_cases b:Uh s.b w.qQ.length
   ·simp [Ask,h2,a,b]
   ·simp [Ask,h2,a,b]
  ·simp [Ask,h2,a]
 rw [e 2,decide_eq_false h2,Cq0];by_cases h3:s.act=3
 ·rw [e,decide_eq_true h3,Cq1];by_cases a:Uh s.a w.Zv.length
  ·by_cases b:Uh s.b w.Zv.length
   ·simp [Ask,h3,a,b]
   ·simp [Ask,h3,a,b]
  ·by_cases b:Uh s.b w.Zv.length
   ·simp [Ask,h3,a,b]
   ·simp [Ask,h3,a,b]
 rw [e 3,decide_eq_false h3,Cq0];by_cases h4:s.act=4
 ·rw [e,decide_eq_true h4,Cq1];by_cases a:Uh s.a w.Zv.length
  ·simp [Ask,h4,a]
  ·simp [Ask,h4,a]
 rw [e 4,decide_eq_false h4,Cq0];by_cases h5:s.act=5
 ·rw [e,decide_eq_true h5,Cq1];by_cases a:Uh s.a w.qG.length
  ·simp [Ask,h5,a]
  ·simp [Ask,h5,a]
 rw [e 5,decide_eq_false h5,Cq0];simp [Ask,h1,h2,h3,h4,h5]
end Go.Proofs.YtbmbbcaaimehkaaGreat
end
