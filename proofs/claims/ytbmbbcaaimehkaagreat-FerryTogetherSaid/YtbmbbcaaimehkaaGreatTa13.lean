/- Together Part 13 of the proof. -/
import Derived.Test.YtbmbbcaaimehkaaGreatTa12
set_option linter.all false
set_option maxHeartbeats 2000000
section
noncomputable section
namespace Go.Proofs.YtbmbbcaaimehkaaGreat
open Go.YJ Go.Lf
theorem Zzf {h:H} {r:Bool} (hL:ZHy=some r):Pure XX 14 #[] h (.bool r):=by
 cases hL;intro wm;have e:ev (cfg XW fun _=>false) 1 (.call 14 #[] wm h)=some (.fin (.ret (.bool true)) h):=rfl;exact Zfa (X:=XW) mixed 1 _ _ e
end Go.Proofs.YtbmbbcaaimehkaaGreat
end
end
section
namespace Go.Proofs.YtbmbbcaaimehkaaGreat
open Go.Lf
def Zi1 (F:Nat) (p0:Zb) (p1:(List ZH)) (p2:(List (List Int))):Int ->(Int ->Option Bool) ->Option Bool:=fun v9 ZhT=>
 (bif decide (v9 < (p2.length:Int)) then(ZQ p2 v9).bind fun x12=>(Zuv F x12).bind fun UO=>(bif(!UO) then some false else ZhT (Xa (v9 + 1))) else(Zzb F p0).bind fun x18=>some (x18 && (decide ((p1.length:Int) <=80))))
def Zzc (F:Nat) (p0:Zb) (p1:(List ZH)) (p2:(List (List Int))):Option Bool:=
 loop F (Zi1 F p0 p1 p2) 0
def Zy8 (F:Nat) (p0:Z6) (p1:ZH):Option Z6:=
 (bif(p1.act==1) then(Zo3 (Z6.mk (Zb.mk p0.Za.Zv p0.Za.qK p0.Za.qQ p0.Za.qJ p0.Za.qG (Xa (p0.Za.said + 1))) p0.qX) p1.a (Zr.mk p0.Za.said p1.b p1.a 0 0) true).bind fun x4=>some x4 else(bif(p1.act==2) then(ZyU F p0 p1.a p1.b).bind fun x25=>some x25 else(bif(p1.act==3) then(ZQ p0.Za.Zv p1.a).bind fun x46=>some (Z6.mk (Zb.mk (Yr p0.Za.Zv p1.a p1.b) p0.Za.qK p0.Za.qQ p0.Za.qJ p0.Za.qG p0.Za.said) p0.qX) else(bif(p1.act==4) then(ZQ p0.Za.Zv p1.a).bind fun x51=>some (Z6.mk (Zb.mk (Yr p0.Za.Zv p1.a (-1)) p0.Za.qK p0.Za.qQ p0.Za.qJ p0.Za.qG p0.Za.said) p0.qX) else(bif(p1.act==5) then(Zy3 F p0 p1.a).bind fun x56=>some x56 else some p0)))))
def Zfw (p1:Ze):Int×Int×Int×Int×Int×Int×Int×Int ->Option Bool:=fun(v11,v12,v13,v14,v15,v16,v17,v18)=>
 some ((((JB (Zr.mk v11 v12 v13 v14 v15) p1.Yi) && (v16==p1.place)) && (v17==p1.at_)) && (v18==p1.age))
def Zy0 (p0:ZV) (p1:Ze):Option Bool:=
 (Zma p0 p1.Z8).bind fun x3=>(bif(!x3) then some false else(bif((p1.kind !=2) && (decide ((Xa ((p1.qV.length:Int) + (p1.Yh.length:Int))) > 0))) then some false else(bif(p1.kind==1) then(Zup p0 p1.Z8 p1.Yi).bind fun x20=>(bif(!x20) then some false else(Zfw p1) (p1.Yi.msg,p1.Yi.place,p1.Yi.from_,p1.Yi.age,p1.Yi.hops,0,0,0)) else(bif(p1.kind==3) then(gd (!(p1.at_==p1.Z8)) (Zq6 p0 p1.place) default).bind fun x28=>(gd (!((p1.at_==p1.Z8) || (!x28))) (Zmb p0 p1.place p1.at_ p1.age) default).bind fun x29=>(bif(((p1.at_==p1.Z8) || (!x28)) || (!x29)) then some false else(Zfw p1) (0,0,0,0,0,p1.place,p1.at_,p1.age)) else(Zfw p1) (0,0,0,0,0,0,0,0)))))
end Go.Proofs.YtbmbbcaaimehkaaGreat
end
section
set_option maxRecDepth 20000
noncomputable section
namespace Go.Proofs.YtbmbbcaaimehkaaGreat
open Go.YJ Go.Lf
theorem ZHu {F wm:Nat} {h:H} {p0:Zb} {p1:(List ZH)} {p2:(List (List Int))} {Zi:Option Addr} {Zh:Nat} {Zq:Option Addr} {Zo:Nat} {Zk:Option Addr} {Zj:Nat} {Zp:Option Addr} {Zn:Nat} {Zm:Option Addr} {Zl:Nat} {QJ:Option Addr} {QI:Nat} {Zwl:Option Addr} {Zwj:Nat} {r:Bool} (ZX:wm <=h.size) (ZA:Sl (Zu .i64) wm h Zi Zh p0.Zv) (ZN:Sl (Zz (Zu .i64)) wm h Zq Zo p0.qK) (ZL:Sl (Zz Zc) wm h Zk Zj p0.qQ) (ZO:Sl (Zz Zg) wm h Zp Zn p0.qJ) (ZK:Sl Zd wm h Zm Zl p0.qG) (Zad:Sl Kz wm h QJ QI p1) (ZFh:Sl (Zz (Zu .i64)) wm h Zwl Zwj p2) (hL:Zzc F p0 p1 p2=some r):
 WR XX 28 #[.agg [.slice Zi p0.Zv.length Zh,.slice Zq p0.qK.length Zo,.slice Zk p0.qQ.length Zj,.slice Zp p0.qJ.length Zn,.slice Zm p0.qG.length Zl,.int .i64 p0.said].toArray,.slice QJ p1.length QI,.slice Zwl p2.length Zwj] wm h (CP (fun(v:Value) (Gb:List (Ast wm))=>v= .bool r∧Gb= []) [] h):=by
 refine bg Tryz.ntmps28 ZX Yd.nil ?_;intro T hT hS;unfold Zzc at hL;refine r3 ?_;rintro _ h2 ⟨b1,eb1,rfl,hS⟩;refine XC ?_;refine WC.loop (WL.lift hL (fun(v9:Int) (s:Fs)=>∃ (KU:Fr) (h3:H),s= ⟨KU,[],h3,none⟩∧Sp wm T h [bx wm b1 (cW p0 Zi Zh Zq Zo Zk Zj Zp Zn Zm Zl)] h3∧KU.at 1= .slice QJ p1.length QI∧KU.at 3= .pointer (some ⟨b1,0,none⟩)∧KU.at 9= .slice Zwl p2.length Zwj∧KU.at 10= .int .i64 (p2.length:Int)∧KU.at 11= .int .i64 v9) ⟨_,_,rfl,hS.only (.c k0 .n),YD⟩ ?_);clear hL hS;rintro ZhT v9 s ZlW hL ⟨KU,h3,rfl,hS,e5,e6,e7,e8,e10⟩;dsimp only [Zi1] at hL;refine r6 ?_;refine cn hL ?_ ?_
 ·intro hc hL;refine r6 ?_;obtain⟨x12,Zqy,hL⟩:=bind_some hL;obtain⟨b13,o14,⟨a15,c16⟩,ZxX,Zys,Zx9,Zx1⟩:=Sl.at_ ZFh Zqy;refine WO.w gN rfl (ZE Zd2 U1 lk lk rfl ZxX Zqy) ?_;have ZDL:Sl (Zu .i64) wm h a15 c16 x12:=Zx1;refine WO.w gN rfl (ZW ZgG (Yo fh rfl) (At.fz hS.fz Zx9 Zys) (j:=0) rfl (v:= .slice a15 x12.length c16) rfl) ?_;refine r6 ?_;obtain⟨UO,Zoy,hL⟩:=bind_some hL;refine WO.cp gN rfl (Xi.fn ZKO (Zf lk Zx)) (WR.XO rfl (ZHp (Nat.le_refl _) (hS.YZ ZDL) Zoy)) ?_;refine r3 ?_;refine cn hL ?_ ?_
  ·intro hc hL;refine r8 ?_;refine r3 ?_;exact rt hL hT hS
  ·intro hc hL;refine r6 ?_;refine r1 ?_;exact Ye.Y2 (ZlW _ _ hL ⟨_,_,rfl,hS.only (.c k0 .n),YD⟩)
 ·intro hc hL;refine r8 ?_;obtain⟨x18,ZPx,hL⟩:=bind_some hL;refine WO.cp gN rfl (Xi.fn ZKQ (Zf lk Zx)) (WR.XO rfl (ZHr (Nat.le_refl _) (hS.YZ ZA) (hS.YZ ZN) (hS.YZ ZL) (hS.YZ ZO) (hS.YZ ZK) ZPx)) ?_;refine r8 ?_;refine r1 ?_;exact rt hL hT hS
theorem ZHj {F wm:Nat} {h:H} {p0:Z6} {p1:ZH} {Zi:Option Addr} {Zh XP:Nat} {Zq:Option Addr} {Zo Q8:Nat} {YH:Nat ->Option Addr×Nat×Nat} {Zk:Option Addr} {Zj Q7:Nat} {YR:Nat ->Option Addr×Nat×Nat} {Zp:Option Addr} {Zn Q6:Nat} {YG:Nat ->Option Addr×Nat×Nat} {Zm:Option Addr} {Zl Q5:Nat} {Z4:Option Addr} {Z0 Qj YW:Nat} {r:Z6} (ZX:wm <=h.size) (hO:Yd (wm:=wm) [bx wm YW (cG Zi XP Zh Zq Q8 Zo Zk Q7 Zj Zp Q6 Zn Zm Q5 Zl p0.Za.said Z4 Qj Z0),ow wm (Zu .i64) Zi XP Zh p0.Za.Zv,Y9 wm (Z5 (Zu .i64)) Zq Q8 Zo YH p0.Za.qK,Y9 wm (Z5 Zc) Zk Q7 Zj YR p0.Za.qQ,Y9 wm (Z5 Zg) Zp Q6 Zn YG p0.Za.qJ,ow wm Zd Zm Q5 Zl p0.Za.qG,ow wm ZP Z4 Qj Z0 p0.qX] h) (hL:Zy8 F p0 p1=some r):
 WR XX 50 #[.pointer (some ⟨YW,0,none⟩),.agg [.int .i64 p1.act,.int .i64 p1.a,.int .i64 p1.b].toArray] wm h (CP (fun(v:Value) (Gb:List (Ast wm))=>∃ (Jt:Option Addr) (Uw:Nat) (Jm:Nat) (Js:Option Addr) (Uv:Nat) (Jl:Nat) (Uz:Nat ->Option Addr×Nat×Nat) (Jr:Option Addr) (Uu:Nat) (Jk:Nat) (Uy:Nat ->Option Addr×Nat×Nat) (Jq:Option Addr) (Ut:Nat) (Jj:Nat) (Ux:Nat ->Option Addr×Nat×Nat) (Jp:Option Addr) (Us:Nat) (Ji:Nat) (Jo:Option Addr) (Jg:Nat) (Jh:Nat),v= .tuple [].toArray∧Gb= [bx wm YW (cG Jt Uw Jm Js Uv Jl Jr Uu Jk Jq Ut Jj Jp Us Ji r.Za.said Jo Jg Jh),ow wm (Zu .i64) Jt Uw Jm r.Za.Zv,Y9 wm (Z5 (Zu .i64)) Js Uv Jl Uz r.Za.qK,Y9 wm (Z5 Zc) Jr Uu Jk Uy r.Za.qQ,Y9 wm (Z5 Zg) Jq Ut Jj Ux r.Za.qJ,ow wm Zd Jp Us Ji r.Za.qG,ow wm ZP Jo Jg Jh r.qX]) [bx wm YW (cG Zi XP Zh Zq Q8 Zo Zk Q7 Zj Zp Q6 Zn Zm Q5 Zl p0.Za.said Z4 Qj Z0),ow wm (Zu .i64) Zi XP Zh p0.Za.Zv,Y9 wm (Z5 (Zu .i64)) Zq Q8 Zo YH p0.Za.qK,Y9 wm (Z5 Zc) Zk Q7 Zj YR p0.Za.qQ,Y9 wm (Z5 Zg) Zp Q6 Zn YG p0.Za.qJ,ow wm Zd Zm Q5 Zl p0.Za.qG,ow wm ZP Z4 Qj Z0 p0.qX] h):=by
 refine bg Tryz.ntmps50 ZX hO ?_;intro T hT hS;unfold Zy8 at hL;obtain rfl:=hS.on k1;obtain rfl:=hS.Xk k2;obtain rfl:=hS.Xk k3;obtain rfl:=hS.Xk k4;obtain rfl:=hS.on k5;obtain rfl:=hS.on k6;refine r3 ?_;rintro _ h2 ⟨b1,eb1,rfl,hS⟩;refine XC ?_;refine r3 ?_;refine cn hL ?_ ?_
 ·intro hc hL;refine r16 ?_;refine r6 ?_;rintro h3 hS;refine r8 ?_;refine r3 ?_;refine WO.w gN rfl (X4 ZEh (ZC lk (ZC lk (ZC lk Yf))) rfl (cs':= [.int .i64 p0.Za.said,.int .i64 p1.b,.int .i64 p1.a,.int .i64 0,.int .i64 0]) rfl) ?_;obtain⟨x4,hx4,hL⟩:=bind_some hL;refine WO.cl gN rfl (Xi.fn ZDR (Zf lk (Zf lk (Zf lk (Zf lk Zx))))) hS (.c k0 (.c k1 (.c k1 (.c k1 (.c k1 (.c k1 (.c k1 .n))))))) (fun g' hz hf hO=>ZyV (p0:= (Z6.mk (Zb.mk p0.Za.Zv p0.Za.qK p0.Za.qQ p0.Za.qJ p0.Za.qG (Xa (p0.Za.said + 1))) p0.qX)) (p2:= (Zr.mk p0.Za.said p1.b p1.a 0 0)) (by rw [hz];exact hS.hw) hO hx4) ?_;rintro _ h23 _ ⟨a5,n6,c7,a8,n9,c10,ZOY,a11,n12,c13,ZI4,a14,n15,c16,ZI3,a17,n18,c19,a20,n21,c22,rfl,rfl⟩ hS;obtain rfl:=hS.on k1;obtain rfl:=hS.Xk k2;obtain rfl:=hS.Xk k3;obtain rfl:=hS.Xk k4;obtain rfl:=hS.on k5;obtain rfl:=hS.on k6;refine r2 ?_;refine Yl.Y2 ?_;have hr:=Oi0 hL;subst hr;exact Yl.gen (vs:= []) rfl ZB rfl ⟨_,⟨a5,x4.Za.Zv.length,c7,a8,x4.Za.qK.length,c10,ZOY,a11,x4.Za.qQ.length,c13,ZI4,a14,x4.Za.qJ.length,c16,ZI3,a17,x4.Za.qG.length,c19,a20,x4.qX.length,c22,rfl,rfl⟩,hT ▸ hS.only (.c k0 (.c k0 (.c k0 (.c k0 (.c k0 (.c k0 (.c k0 .n)))))))⟩
 ·intro hc hL;refine r6 ?_;refine cn hL ?_ ?_
  ·intro hc hL;refine r6 ?_;obtain⟨x25,hx25,hL⟩:=bind_some hL;refine WO.cl gN rfl (Xi.fn ZKx (Zf lk (Zf lk (Zf lk Zx)))) hS (.c k1 (.c k1 (.c k1 (.c k1 (.c k1 (.c k1 (.c k1 .n))))))) (fun g' hz hf hO=>ZG0 (by rw [hz];exact hS.hw) hO hx25) ?_;rintro _ h44 _ ⟨a26,n27,c28,a29,n30,c31,ZI1,a32,n33,c34,ZIZ,a35,n36,c37,ZIX,a38,n39,c40,a41,n42,c43,rfl,rfl⟩ hS;obtain rfl:=hS.on k1;obtain rfl:=hS.Xk k2;obtain rfl:=hS.Xk k3;obtain rfl:=hS.Xk k4;obtain rfl:=hS.on k5;obtain rfl:=hS.on k6;refine r2 ?_;refine Yl.Y2 ?_;have hr:=Oi0 hL;subst hr;exact Yl.gen (vs:= []) rfl ZB rfl ⟨_,⟨a26,x25.Za.Zv.length,c28,a29,x25.Za.qK.length,c31,ZI1,a32,x25.Za.qQ.length,c34,ZIZ,a35,x25.Za.qJ.length,c37,ZIX,a38,x25.Za.qG.length,c40,a41,x25.qX.length,c43,rfl,rfl⟩,hT ▸ hS.only (.c k0 (.c k0 (.c k0 (.c k0 (.c k0 (.c k0 (.c k0 .n)))))))⟩
  ·intro hc hL;refine r6 ?_;refine cn hL ?_ ?_
   ·intro hc hL;refine WC.Xx mixed Kq0 ?_;refine r8 ?_;refine r1 ?_;obtain⟨x46,Zt9,hL⟩:=bind_some hL;obtain⟨b47,o48,_,ZsL,Zyk,ZLt⟩:=Src.at_ (hS.QH k2) Zt9;refine WX.w gN rfl (ZE YE YF lk lk rfl ZsL Zt9) ?_ rfl;refine WX.hu gN (Zd7 (e:= (Zu .i64)) p1.b () hS k2 YF (Yo fh rfl) (Yo (Zy rfl fh) rfl) ZsL Zt9 Zyk (j:=0) rfl (vs:= [.int .i64 p1.b]) rfl rfl rfl rfl rfl (cs':= [.int .i64 p1.b]) rfl rfl trivial) ?_ rfl rfl [] Kq0 YV.e;rintro h49 ⟨hS,ZVc⟩;refine r2 ?_;refine Yl.Y2 ?_;have hr:=Oi0 hL;subst hr;exact Yl.gen (vs:= []) rfl ZB rfl ⟨_,⟨Zi,p0.Za.Zv.length,Zh,Zq,p0.Za.qK.length,Zo,YH,Zk,p0.Za.qQ.length,Zj,YR,Zp,p0.Za.qJ.length,Zn,YG,Zm,p0.Za.qG.length,Zl,Z4,p0.qX.length,Z0,rfl,rfl⟩,hT ▸ hS.only (.c k2 (.c k0 (.c k1 (.c k1 (.c k1 (.c k1 (.c k1 .n)))))))⟩
   ·intro hc hL;refine r6 ?_;refine cn hL ?_ ?_
    ·intro hc hL;refine WC.Xx mixed Kq0 ?_;refine r6 ?_;refine r1 ?_;obtain⟨x51,Zt8,hL⟩:=bind_some hL;obtain⟨b52,o53,_,ZsK,Zyj,ZLs⟩:=Src.at_ (hS.QH k2) Zt8;refine WX.w gN rfl (ZE YE YF lk lk rfl ZsK Zt8) ?_ rfl;refine WX.hu gN (Zd7 (e:= (Zu .i64)) (-1) () hS k2 YF (Yo fh rfl) (evC rfl) ZsK Zt8 Zyj (j:=0) rfl (vs:= [.int .i64 (-1)]) rfl rfl rfl rfl rfl (cs':= [.int .i64 (-1)]) rfl rfl trivial) ?_ rfl rfl [] Kq0 YV.e;rintro h54 ⟨hS,ZVb⟩;refine r2 ?_;refine Yl.Y2 ?_;have hr:=Oi0 hL;subst hr;exact Yl.gen (vs:= []) rfl ZB rfl ⟨_,⟨Zi,p0.Za.Zv.length,Zh,Zq,p0.Za.qK.length,Zo,YH,Zk,p0.Za.qQ.length,Zj,YR,Zp,p0.Za.qJ.length,Zn,YG,Zm,p0.Za.qG.length,Zl,Z4,p0.qX.length,Z0,rfl,rfl⟩,hT ▸ hS.only (.c k2 (.c k0 (.c k1 (.c k1 (.c k1 (.c k1 (.c k1 .n)))))))⟩
    ·intro hc hL;refine r6 ?_;refine cn hL ?_ ?_
     ·intro hc hL;refine r4 ?_;obtain⟨x56,ZPt,hL⟩:=bind_some hL;refine WO.cl gN rfl (Xi.fn ZKH (Zf lk (Zf lk Zx))) hS (.c k1 (.c k1 (.c k1 (.c k1 (.c k1 (.c k1 (.c k1 .n))))))) (fun g' hz hf hO=>ZHe (by rw [hz];exact hS.hw) hO ZPt) ?_;rintro _ h75 _ ⟨a57,n58,c59,a60,n61,c62,ZIU,a63,n64,c65,ZIT,a66,n67,c68,ZIS,a69,n70,c71,a72,n73,c74,rfl,rfl⟩ hS;obtain rfl:=hS.on k1;obtain rfl:=hS.Xk k2;obtain rfl:=hS.Xk k3;obtain rfl:=hS.Xk k4;obtain rfl:=hS.on k5;obtain rfl:=hS.on k6;refine r2 ?_;refine Yl.Y2 ?_;have hr:=Oi0 hL;subst hr;exact Yl.gen (vs:= []) rfl ZB rfl ⟨_,⟨a57,x56.Za.Zv.length,c59,a60,x56.Za.qK.length,c62,ZIU,a63,x56.Za.qQ.length,c65,ZIT,a66,x56.Za.qJ.length,c68,ZIS,a69,x56.Za.qG.length,c71,a72,x56.qX.length,c74,rfl,rfl⟩,hT ▸ hS.only (.c k0 (.c k0 (.c k0 (.c k0 (.c k0 (.c k0 (.c k0 .n)))))))⟩
     ·intro hc hL;refine r2 ?_;refine Yl.Y2 ?_;have hr:=Oi0 hL;subst hr;exact Yl.gen (vs:= []) rfl ZB rfl ⟨_,⟨Zi,p0.Za.Zv.length,Zh,Zq,p0.Za.qK.length,Zo,YH,Zk,p0.Za.qQ.length,Zj,YR,Zp,p0.Za.qJ.length,Zn,YG,Zm,p0.Za.qG.length,Zl,Z4,p0.qX.length,Z0,rfl,rfl⟩,hT ▸ hS.only (.c k1 (.c k1 (.c k1 (.c k1 (.c k1 (.c k1 (.c k1 .n)))))))⟩
theorem ZG5 {wm:Nat} {h:H} {p0:ZV} {p1:Ze} {Zi:Option Addr} {Zh:Nat} {Zq:Option Addr} {Zo:Nat} {Zk:Option Addr} {Zj:Nat} {Zp:Option Addr} {Zn:Nat} {Zm:Option Addr} {Zl:Nat} {Z4:Option Addr} {Z0 YW WS:Nat} {QJ:Option Addr} {QI:Nat} {Zwm:Option Addr} {Zwk:Nat} {r:Bool} (ZX:wm <=h.size) (XT:At h YW WS [.slice Zi p0.Za.Zv.length Zh,.slice Zq p0.Za.qK.length Zo,.slice Zk p0.Za.qQ.length Zj,.slice Zp p0.Za.qJ.length Zn,.slice Zm p0.Za.qG.length Zl,.int .i64 p0.Za.said,.slice Z4 p0.Y0.length Z0]) (XR:Stb wm h YW) (ZA:Sl (Zu .i64) wm h Zi Zh p0.Za.Zv) (ZN:Sl (Zz (Zu .i64)) wm h Zq Zo p0.Za.qK) (ZL:Sl (Zz Zc) wm h Zk Zj p0.Za.qQ) (ZO:Sl (Zz Zg) wm h Zp Zn p0.Za.qJ) (ZK:Sl Zd wm h Zm Zl p0.Za.qG) (Xn:Sl XB wm h Z4 Z0 p0.Y0) (Zad:Sl (Zu .i64) wm h QJ QI p1.qV) (ZPG:Sl (Zu .i64) wm h Zwm Zwk p1.Yh) (hL:Zy0 p0 p1=some r):
 WR XX 73 #[.pointer (some ⟨YW,WS,none⟩),.agg [.int .i64 p1.kind,.int .i64 p1.Z8,.int .i64 p1.Yi.msg,.int .i64 p1.Yi.place,.int .i64 p1.Yi.from_,.int .i64 p1.Yi.age,.int .i64 p1.Yi.hops,.slice QJ p1.qV.length QI,.slice Zwm p1.Yh.length Zwk,.int .i64 p1.place,.int .i64 p1.at_,.int .i64 p1.age].toArray] wm h (CP (fun(v:Value) (Gb:List (Ast wm))=>v= .bool r∧Gb= []) [] h):=by
 refine bg Tryz.ntmps73 ZX Yd.nil ?_;intro T hT hS;unfold Zy0 at hL;refine r3 ?_;rintro _ h2 ⟨b1,eb1,rfl,hS⟩;refine r8 ?_;refine r1 ?_;obtain⟨x3,hx3,hL⟩:=bind_some hL;refine WO.cp gN rfl (Xi.fn ZxB (Zf lk (Zf lk Zx))) (Zq7 (At.fz hS.fz XR XT) (Stb.up hS.hw (Stb.fz hS.fz XT XR)) (hS.YZ ZA) (hS.YZ ZN) (hS.YZ ZL) (hS.YZ ZO) (hS.YZ ZK) (hS.YZ Xn) hx3) ?_;refine r3 ?_;refine cn hL ?_ ?_
 ·intro hc hL;refine r6 ?_;refine r1 ?_;exact rt hL hT hS
 ·intro hc hL;refine r8 ?_;refine WO.w gN rfl (X4 Ztb (ZC lk (ZC lk Yf)) rfl (cs':= [.int .i64 p1.kind,.int .i64 p1.Z8,.int .i64 0,.int .i64 0,.int .i64 0,.int .i64 0,.int .i64 0,.slice none 0 0,.slice none 0 0,.int .i64 0,.int .i64 0,.int .i64 0]) rfl) ?_;refine r1 ?_;rintro _ h5 ⟨b4,eb4,rfl,hS⟩;refine r1 ?_;rintro h6 hS;refine r16 ?_;refine r4 ?_;refine cn hL ?_ ?_
  ·intro hc hL;refine r6 ?_;refine r1 ?_;exact rt hL hT hS
  ·intro hc hL;refine r2 ?_;refine WC.Zbn (r:=r) (fun(p:Int×Int×Int×Int×Int×Int×Int×Int) (s:Fs)=>match p with | (v11,v12,v13,v14,v15,v16,v17,v18)=>∃ (fr8:Fr) (h7:H),s= ⟨fr8,[],h7,none⟩∧Sp wm T h [bx wm b1 (cL p1 QJ QI Zwm Zwk),bx wm b4 [.int .i64 p1.kind,.int .i64 p1.Z8,.int .i64 v11,.int .i64 v12,.int .i64 v13,.int .i64 v14,.int .i64 v15,.slice none 0 0,.slice none 0 0,.int .i64 v16,.int .i64 v17,.int .i64 v18]] h7∧fr8.at 3= .pointer (some ⟨b1,0,none⟩)∧fr8.at 5= .pointer (some ⟨b4,0,none⟩)) (Zfw p1) ?_ ?_
   ·clear hL hS;rintro⟨v11,v12,v13,v14,v15,v16,v17,v18⟩ s hL ⟨fr8,h7,rfl,hS,e9,e10⟩;dsimp only [Zfw] at hL;refine r6 ?_;refine WO.w gN rfl (JE (Yo (YA rfl fh) rfl) (Yo fh rfl) (ZpG (xs:= [.int .i64 v11,.int .i64 v12,.int .i64 v13,.int .i64 v14,.int .i64 v15]) (ys:= [.int .i64 p1.Yi.msg,.int .i64 p1.Yi.place,.int .i64 p1.Yi.from_,.int .i64 p1.Yi.age,.int .i64 p1.Yi.hops]) (ZEc (Zr.mk v11 v12 v13 v14 v15) p1.Yi) rfl rfl)) ?_;refine r16 ?_;refine r8 ?_;refine r1 ?_;exact rt hL hT hS
   ·skip;refine XC ?_;refine r1 ?_;refine cn hL ?_ ?_
    ·intro hc hL;refine r6 ?_;rintro h19 hS;refine r8 ?_;refine r1 ?_;obtain⟨x20,ZPw,hL⟩:=bind_some hL;refine WO.cp gN rfl (Xi.fn ZDU (Zf lk (Zf lk (Zf lk Zx)))) (WR.XO rfl (ZyZ (Nat.le_refl _) (At.fz hS.fz XR XT) (Stb.up hS.hw (Stb.fz hS.fz XT XR)) (hS.YZ ZA) (hS.YZ ZN) (hS.YZ ZL) (hS.YZ ZO) (hS.YZ ZK) (hS.YZ Xn) ZPw)) ?_;refine r3 ?_;refine cn hL ?_ ?_
     ·intro hc hL;refine r6 ?_;refine r1 ?_;refine YO.ret ?_;exact rt hL hT hS
     ·intro hc hL;refine r2 ?_;exact YO.Y2 _ hL ⟨_,_,rfl,hS.only (.c k1 (.c k0 .n)),YD⟩
    ·intro hc hL;refine r6 ?_;refine cn hL ?_ ?_
     ·intro hc hL;refine r1 ?_;refine WC.Xx mixed Kq0 ?_;refine r3 ?_;refine WX.wr (fun x=>x=b1) hS gN rfl (fun _ _ hR=>ZW Xv (Yo fh rfl) (At.eqv (hR b1 rfl) (hS.atB k1)) (j:=10) rfl (v:= .int .i64 p1.at_) rfl) ?_ rfl rfl;rintro h21 e22 hS;refine r1 ?_;refine WX.wr (fun x=>x=b1) hS gN rfl (fun _ _ hR=>ZW Xv (Yo fh rfl) (At.eqv (hR b1 rfl) (hS.atB k1)) (j:=11) rfl (v:= .int .i64 p1.age) rfl) ?_ rfl rfl;rintro h23 e24 hS;refine r1 ?_;refine WX.hu gN (ZaQ hS k0 YF lk lk (vs:= [.int .i64 p1.place]) rfl rfl rfl rfl (cs':= [.int .i64 p1.kind,.int .i64 p1.Z8,.int .i64 0,.int .i64 0,.int .i64 0,.int .i64 0,.int .i64 0,.slice none 0 0,.slice none 0 0,.int .i64 p1.place,.int .i64 0,.int .i64 0]) rfl) ?_ rfl rfl [3,5] Kq0 (.c (.s .z) (hS.dj (.c k0 (.c k0 .n))) (.c .z (hS.dj (.c k0 (.c k0 .n))) YV.e));rintro h25 hS;refine WX.w gN rfl (J6 ZsT lk) ?_ Kq0;refine WX.hu gN (ZaQ hS k0 YF lk lk (vs:= [.int .i64 p1.at_]) rfl rfl rfl rfl (cs':= [.int .i64 p1.kind,.int .i64 p1.Z8,.int .i64 0,.int .i64 0,.int .i64 0,.int .i64 0,.int .i64 0,.slice none 0 0,.slice none 0 0,.int .i64 p1.place,.int .i64 p1.at_,.int .i64 0]) rfl) ?_ rfl Kq0 [5] Kq0 (.c .z (hS.dj (.c k0 (.c k0 .n))) YV.e);rintro h26 hS;refine WX.w gN rfl (J6 ZsS lk) ?_ Kq0;refine WX.hu gN (ZaQ hS k0 YF lk lk (vs:= [.int .i64 p1.age]) rfl rfl rfl rfl (cs':= [.int .i64 p1.kind,.int .i64 p1.Z8,.int .i64 0,.int .i64 0,.int .i64 0,.int .i64 0,.int .i64 0,.slice none 0 0,.slice none 0 0,.int .i64 p1.place,.int .i64 p1.at_,.int .i64 p1.age]) rfl) ?_ rfl Kq0 [] Kq0 YV.e;rintro h27 hS;refine XC ?_;refine r1 ?_;obtain⟨x28,hx28,hL⟩:=Yt hL;refine WO.gcp (Zt.no rfl rfl rfl (YA rfl (Zy rfl fh))) rfl (fun hg=>(Xi.fn ZDP (Zf (YX (YA rfl fh) rfl hg) (Zf (YX fh rfl hg) Zx)))) (fun hg=>ZyR (At.fz hS.fz XR XT) (Stb.up hS.hw (Stb.fz hS.fz XT XR)) (hS.YZ ZA) (hS.YZ ZN) (hS.YZ ZL) (hS.YZ ZO) (hS.YZ ZK) (hS.YZ Xn) (hx28 hg)) ?_;refine r8 ?_;refine r2 ?_;obtain⟨x29,hx29,hL⟩:=Yt hL;refine WO.gcp (Zt.no rfl rfl rfl (Y3 rfl (YA rfl (Zy rfl fh)))) rfl (fun hg=>(Xi.fn ZxC (Zf (YX (Y3 rfl (YA rfl fh)) rfl hg) (Zf (YX (Y3 rfl fh) rfl hg) (Zf (YX (YA rfl fh) rfl hg) (Zf (YX fh rfl hg) Zx)))))) (fun hg=>Zq9 (At.fz hS.fz XR XT) (Stb.up hS.hw (Stb.fz hS.fz XT XR)) (hS.YZ ZA) (hS.YZ ZN) (hS.YZ ZL) (hS.YZ ZO) (hS.YZ ZK) (hS.YZ Xn) (hx29 hg)) ?_;refine r4 ?_;refine cn hL ?_ ?_
      ·intro hc hL;refine r6 ?_;refine r1 ?_;refine YO.ret ?_;exact rt hL hT hS
      ·intro hc hL;refine r2 ?_;exact YO.Y2 _ hL ⟨_,_,rfl,hS.only (.c k1 (.c k0 .n)),YD⟩
     ·intro hc hL;refine r2 ?_;exact YO.Y2 _ hL ⟨_,_,rfl,hS.only (.c k1 (.c k0 .n)),YD⟩
end Go.Proofs.YtbmbbcaaimehkaaGreat
end
end
section
namespace Go.Proofs.YtbmbbcaaimehkaaGreat
open Go.Lf
def ZfH (XY:(ZV×Bool)) (v59:Int) (Zlz:(Int ->Option Int)) (x62:(List Zr)):Int ->(Int ->Option Int) ->Option Int:=fun v76 Zww=>
 (bif decide (v76 < (x62.length:Int)) then(ZQ x62 v76).bind fun x79=>(Zup XY.1 v59 x79).bind fun x85=>(gd (!(!x85)) (ZQ XY.1.Y0 x79.place) default).bind fun x86=>(bif((!x85) || (!(ZeB x86 (Ym.mk v59 false x79.age)))) then some 2 else Zww (Xa (v76 + 1))) else Zlz (Xa (v59 + 1)))
def ZfI (F:Nat) (p0:Zb) (XY:(ZV×Bool)):Int ->(Int ->Option Int) ->Option Int:=fun v59 Zlz=>
 (bif decide (v59 < (p0.qJ.length:Int)) then(ZQ p0.qJ v59).bind fun x62=>loop F (ZfH XY v59 Zlz x62) 0 else some 0)
def Zi0 (F:Nat) (p0:Zb) (XY:(ZV×Bool)):Int ->(Int ->Option Int) ->Option Int:=fun v40 ZwD=>
 (bif decide (v40 < (p0.qG.length:Int)) then(ZQ p0.qG v40).bind fun x43=>(Zy0 XY.1 x43).bind fun x53=>(bif(!x53) then some 2 else ZwD (Xa (v40 + 1))) else loop F (ZfI F p0 XY) 0)
def Zo6 (F:Nat) (p0:Zb):Option Int:=
 (Zy2 F p0).bind fun x3=>(gd (!(!x3)) (Zus F p0) default).bind fun x4=>(bif((!x3) || (!x4)) then some 2 else(mkL (Ym.mk 0 false 0) 24 (p0.Zv.length:Int) (p0.Zv.length:Int)).bind fun z5=>(Zy1 F (ZV.mk p0 z5)).bind fun XY=>(gd (!(!XY.2)) (Zur F XY.1) default).bind fun x32=>(gd (!((!XY.2) || (!x32))) (Zuq F XY.1) default).bind fun x33=>(bif(((!XY.2) || (!x32)) || (!x33)) then some 2 else loop F (Zi0 F p0 XY) 0))
end Go.Proofs.YtbmbbcaaimehkaaGreat
end
section
set_option maxRecDepth 20000
noncomputable section
namespace Go.Proofs.YtbmbbcaaimehkaaGreat
open Go.YJ Go.Lf
theorem ZHq {F wm:Nat} {h:H} {p0:Zb} {Zi:Option Addr} {Zh:Nat} {Zq:Option Addr} {Zo:Nat} {Zk:Option Addr} {Zj:Nat} {Zp:Option Addr} {Zn:Nat} {Zm:Option Addr} {Zl:Nat} {r:Int} (ZX:wm <=h.size) (ZA:Sl (Zu .i64) wm h Zi Zh p0.Zv) (ZN:Sl (Zz (Zu .i64)) wm h Zq Zo p0.qK) (ZL:Sl (Zz Zc) wm h Zk Zj p0.qQ) (ZO:Sl (Zz Zg) wm h Zp Zn p0.qJ) (ZK:Sl Zd wm h Zm Zl p0.qG) (hL:Zo6 F p0=some r):
 WR XX 36 #[.agg [.slice Zi p0.Zv.length Zh,.slice Zq p0.qK.length Zo,.slice Zk p0.qQ.length Zj,.slice Zp p0.qJ.length Zn,.slice Zm p0.qG.length Zl,.int .i64 p0.said].toArray] wm h (CP (fun(v:Value) (Gb:List (Ast wm))=>v= .int .i64 r∧Gb= []) [] h):=by
 refine bg Tryz.ntmps36 ZX Yd.nil ?_;intro T hT hS;unfold Zo6 at hL;refine r3 ?_;rintro _ h2 ⟨b1,eb1,rfl,hS⟩;refine r6 ?_;refine r1 ?_;obtain⟨x3,hx3,hL⟩:=bind_some hL;refine WO.cp gN rfl (Xi.fn ZKG (Zf lk Zx)) (WR.XO rfl (ZHd (Nat.le_refl _) (hS.YZ ZA) (hS.YZ ZN) (hS.YZ ZL) (hS.YZ ZO) (hS.YZ ZK) hx3)) ?_;refine r3 ?_;obtain⟨x4,hx4,hL⟩:=Yt hL;refine WO.gcp (Zt.no rfl rfl rfl (Zy rfl fh)) rfl (fun hg=>(Xi.fn ZKF (Zf (YX fh rfl hg) Zx))) (fun hg=>ZHc (hS.YZ ZA) (hS.YZ ZN) (hS.YZ ZL) (hS.YZ ZO) (hS.YZ ZK) (hx4 hg)) ?_;refine r4 ?_;refine cn hL ?_ ?_
 ·intro hc hL;refine r6 ?_;refine r1 ?_;exact rt hL hT hS
 ·intro hc hL;refine r3 ?_;refine WC.Xx mixed Kq0 ?_;refine r4 ?_;obtain⟨z5,hz5,hL⟩:=bind_some hL;refine WX.hn gN rfl (ZvU (e:=XB) (x0:= (Ym.mk 0 false 0)) () hS Zht Wl (ZCH) Zk2 rfl rfl (Yo fh rfl) (Yo fh rfl) rfl trivial hz5) ?_ rfl;rintro _ h7 ⟨b6,c8,eb6,rfl,hS⟩;refine WX.w gN rfl (X4 ZHS (ZC lk (ZC lk Yf)) rfl (cs':= (cG Zi p0.Zv.length Zh Zq p0.qK.length Zo Zk p0.qQ.length Zj Zp p0.qJ.length Zn Zm p0.qG.length Zl p0.said (some ⟨b6,0,none⟩) z5.length c8)) rfl) ?_ rfl;refine WX.hn gN rfl (ZDj hS lk (vs:= (cG Zi p0.Zv.length Zh Zq p0.qK.length Zo Zk p0.qQ.length Zj Zp p0.qJ.length Zn Zm p0.qG.length Zl p0.said (some ⟨b6,0,none⟩) z5.length c8)) rfl) ?_ rfl;rintro _ h10 ⟨b9,eb9,rfl,hS⟩;refine r6 ?_;refine r1 ?_;obtain⟨XY,ZjS,hL⟩:=bind_some hL;refine WO.cl gN rfl (Xi.fn ZKE (Zf lk Zx)) hS (.c k0 (.c k0 .n)) (fun g' hz hf hO=>ZHa (p0:= (ZV.mk p0 z5)) (by rw [hz];exact hS.hw) ((hS.sl ZA).mono hf) ((hS.sl ZN).mono hf) ((hS.sl ZL).mono hf) ((hS.sl ZO).mono hf) ((hS.sl ZK).mono hf) hO ZjS) ?_;rintro _ h30 _ ⟨a12,c14,a15,c17,a18,c20,a21,c23,a24,c26,a27,n28,c29,rfl,rfl⟩ hS;obtain rfl:=hS.on k6;refine r3 ?_;obtain⟨x32,hx32,hL⟩:=Yt hL;refine WO.gcp (Zt.no rfl rfl rfl (Zy rfl fh)) rfl (fun hg=>(Xi.fn ZKD (Zf (YX fh rfl hg) Zx))) (fun hg=>ZG9 (hS.atB k0) (.inl (hS.lt k0)) (hS.Xw k1) (hS.Xw k2) (hS.Xw k3) (hS.Xw k4) (hS.Xw k5) (hS.ord k6) (hx32 hg)) ?_;refine r4 ?_;obtain⟨x33,ZPv,hL⟩:=Yt hL;refine WO.gcp (Zt.no rfl rfl rfl (Zy rfl fh)) rfl (fun hg=>(Xi.fn ZKC (Zf (YX fh rfl hg) Zx))) (fun hg=>ZG7 (hS.atB k0) (.inl (hS.lt k0)) (hS.Xw k1) (hS.Xw k2) (hS.Xw k3) (hS.Xw k4) (hS.Xw k5) (hS.ord k6) (ZPv hg)) ?_;refine r4 ?_;refine cn hL ?_ ?_
  ·intro hc hL;refine r6 ?_;refine r1 ?_;exact rt hL hT hS
  ·intro hc hL;refine XC ?_;refine WC.loop (WL.lift hL (fun(v40:Int) (s:Fs)=>∃ (Zq0:Fr) (h34:H),s= ⟨Zq0,[],h34,none⟩∧Sp wm T h [bx wm b1 (cW p0 Zi Zh Zq Zo Zk Zj Zp Zn Zm Zl),bx wm b9 (cG a12 XY.1.Za.Zv.length c14 a15 XY.1.Za.qK.length c17 a18 XY.1.Za.qQ.length c20 a21 XY.1.Za.qJ.length c23 a24 XY.1.Za.qG.length c26 XY.1.Za.said a27 XY.1.Y0.length c29),Yb wm (Zz (Zu .i64)) (a12,c14) XY.1.Za.Zv,Yb wm (Zz (Zz (Zu .i64))) (a15,c17) XY.1.Za.qK,Yb wm (Zz (Zz Zc)) (a18,c20) XY.1.Za.qQ,Yb wm (Zz (Zz Zg)) (a21,c23) XY.1.Za.qJ,Yb wm (Zz Zd) (a24,c26) XY.1.Za.qG,ow wm XB a27 XY.1.Y0.length c29 XY.1.Y0] h34∧Zq0.at 1= .pointer (some ⟨b1,0,none⟩)∧Zq0.at 3= .pointer (some ⟨b9,0,none⟩)∧Zq0.at 39= .slice Zm p0.qG.length Zl∧Zq0.at 40= .int .i64 (p0.qG.length:Int)∧Zq0.at 41= .int .i64 v40) ⟨_,_,rfl,hS.only (.c k7 (.c k0 (.c k0 (.c k0 (.c k0 (.c k0 (.c k0 (.c k0 .n)))))))),YD⟩ ?_);clear hL hS;rintro ZwD v40 s ZBE hL ⟨Zq0,h34,rfl,hS,e36,e37,e38,e39,e41⟩;dsimp only [Zi0] at hL;refine r6 ?_;refine cn hL ?_ ?_
   ·intro hc hL;refine r6 ?_;obtain⟨x43,Zw3,hL⟩:=bind_some hL;obtain⟨b44,o45,⟨⟨a46,c47⟩,⟨a48,c49⟩⟩,ZxO,Zyl,ZLS,ZxZ⟩:=Sl.at_ ZK Zw3;refine WO.w gN rfl (ZE JK Y4 lk lk rfl ZxO Zw3) ?_;have ZJ5:Sl (Zu .i64) wm h a46 c47 x43.qV:=ZxZ.1;have ZoE:Sl (Zu .i64) wm h a48 c49 x43.Yh:=ZxZ.2;refine WO.w gN rfl (Xh ZaE Y4 (Yo fh rfl) (At.fz hS.fz ZLS Zyl) (j:=0) rfl rfl (ws:= (cL x43 a46 c47 a48 c49)) rfl) ?_;refine r1 ?_;rintro _ h51 ⟨b50,ZWz,rfl,hS⟩;refine r1 ?_;rintro h52 hS;refine r6 ?_;obtain⟨x53,ZPu,hL⟩:=bind_some hL;refine WO.cp gN rfl (Xi.fn ZKB (Zf lk (Zf lk Zx))) (WR.XO rfl (ZG5 (Nat.le_refl _) (hS.atB k2) (.inl (hS.lt k2)) (hS.Xw k3) (hS.Xw k4) (hS.Xw k5) (hS.Xw k6) (hS.Xw k7) (hS.ord k8) (hS.YZ ZJ5) (hS.YZ ZoE) ZPu)) ?_;refine r3 ?_;refine cn hL ?_ ?_
    ·intro hc hL;refine r8 ?_;refine r3 ?_;exact rt hL hT hS
    ·intro hc hL;refine r6 ?_;refine r1 ?_;exact Ye.Y2 (ZBE _ _ hL ⟨_,_,rfl,hS.only (.c k1 (.c k1 (.c k1 (.c k1 (.c k1 (.c k1 (.c k1 (.c k1 .n)))))))),YD⟩)
   ·intro hc hL;refine XC ?_;refine r3 ?_;refine WC.loop (WL.lift hL (fun(v59:Int) (s:Fs)=>∃ (ZcV:Fr) (h54:H),s= ⟨ZcV,[],h54,none⟩∧Sp wm T h [bx wm b9 (cG a12 XY.1.Za.Zv.length c14 a15 XY.1.Za.qK.length c17 a18 XY.1.Za.qQ.length c20 a21 XY.1.Za.qJ.length c23 a24 XY.1.Za.qG.length c26 XY.1.Za.said a27 XY.1.Y0.length c29),Yb wm (Zz (Zu .i64)) (a12,c14) XY.1.Za.Zv,Yb wm (Zz (Zz (Zu .i64))) (a15,c17) XY.1.Za.qK,Yb wm (Zz (Zz Zc)) (a18,c20) XY.1.Za.qQ,Yb wm (Zz (Zz Zg)) (a21,c23) XY.1.Za.qJ,Yb wm (Zz Zd) (a24,c26) XY.1.Za.qG,ow wm XB a27 XY.1.Y0.length c29 XY.1.Y0] h54∧ZcV.at 3= .pointer (some ⟨b9,0,none⟩)∧ZcV.at 51= .slice Zp p0.qJ.length Zn∧ZcV.at 52= .int .i64 (p0.qJ.length:Int)∧ZcV.at 53= .int .i64 v59) ⟨_,_,rfl,hS.only (.c k1 (.c k1 (.c k1 (.c k1 (.c k1 (.c k1 (.c k1 .n))))))),YD⟩ ?_);clear hL hS;rintro Zlz v59 s ZBx hL ⟨ZcV,h54,rfl,hS,e56,e57,e58,e60⟩;dsimp only [ZfI] at hL;refine r6 ?_;refine cn hL ?_ ?_
    ·intro hc hL;refine r6 ?_;refine r1 ?_;obtain⟨x62,ZJx,hL⟩:=bind_some hL;obtain⟨b63,o64,⟨a65,c66⟩,ZK5,ZMa,ZLH,ZLm⟩:=Sl.at_ ZO ZJx;refine WO.w gN rfl (ZE KZ Jf lk lk rfl ZK5 ZJx) ?_;have ZJ2:Sl Zg wm h a65 c66 x62:=ZLm;refine WO.w gN rfl (ZW Zdf (Yo fh rfl) (At.fz hS.fz ZLH ZMa) (j:=0) rfl (v:= .slice a65 x62.length c66) rfl) ?_;refine XC ?_;refine WC.loop (WL.lift hL (fun(v76:Int) (s:Fs)=>∃ (ZjX:Fr) (h67:H),s= ⟨ZjX,[],h67,none⟩∧Sp wm T h [bx wm b9 (cG a12 XY.1.Za.Zv.length c14 a15 XY.1.Za.qK.length c17 a18 XY.1.Za.qQ.length c20 a21 XY.1.Za.qJ.length c23 a24 XY.1.Za.qG.length c26 XY.1.Za.said a27 XY.1.Y0.length c29),Yb wm (Zz (Zu .i64)) (a12,c14) XY.1.Za.Zv,Yb wm (Zz (Zz (Zu .i64))) (a15,c17) XY.1.Za.qK,Yb wm (Zz (Zz Zc)) (a18,c20) XY.1.Za.qQ,Yb wm (Zz (Zz Zg)) (a21,c23) XY.1.Za.qJ,Yb wm (Zz Zd) (a24,c26) XY.1.Za.qG,ow wm XB a27 XY.1.Y0.length c29 XY.1.Y0] h67∧ZjX.at 3= .pointer (some ⟨b9,0,none⟩)∧ZjX.at 6= .int .i64 v59∧ZjX.at 51= .slice Zp p0.qJ.length Zn∧ZjX.at 52= .int .i64 (p0.qJ.length:Int)∧ZjX.at 53= .int .i64 v59∧ZjX.at 58= .slice a65 x62.length c66∧ZjX.at 59= .int .i64 (x62.length:Int)∧ZjX.at 60= .int .i64 v76) ⟨_,_,rfl,hS.only (.c k0 (.c k0 (.c k0 (.c k0 (.c k0 (.c k0 (.c k0 .n))))))),YD⟩ ?_);clear hL hS;rintro Zww v76 s ZBs hL ⟨ZjX,h67,rfl,hS,e69,e70,e71,e72,e73,e74,e75,e77⟩;dsimp only [ZfH] at hL;refine r6 ?_;refine cn hL ?_ ?_
     ·intro hc hL;refine r6 ?_;obtain⟨x79,ZJu,hL⟩:=bind_some hL;obtain⟨b80,o81,_,ZK1,ZL6,ZLD,ZSv⟩:=Sl.at_ ZJ2 ZJu;refine WO.w gN rfl (ZE Zbf Uq lk lk rfl ZK1 ZJu) ?_;refine WO.w gN rfl (Xh ZkZ Uq (Yo fh rfl) (At.fz hS.fz ZLD ZL6) (j:=0) rfl rfl (ws:= (cM x79)) rfl) ?_;refine r1 ?_;rintro _ h83 ⟨b82,ZWk,rfl,hS⟩;refine r1 ?_;rintro h84 hS;refine r3 ?_;refine WC.Xx mixed Kq0 ?_;refine r3 ?_;obtain⟨x85,ZPr,hL⟩:=bind_some hL;refine WX.cp gN rfl (Xi.fn ZDU (Zf lk (Zf lk (Zf lk Zx)))) (WR.XO rfl (ZyZ (Nat.le_refl _) (hS.atB k1) (.inl (hS.lt k1)) (hS.Xw k2) (hS.Xw k3) (hS.Xw k4) (hS.Xw k5) (hS.Xw k6) (hS.ord k7) ZPr)) ?_ rfl rfl;refine r8 ?_;obtain⟨x86,ZJt,hL⟩:=Yt hL;obtain⟨b87,o88,_,hQ⟩:=Src.atG (fun hg=>(hS.QH k7)) ZJt;have ZKZ:=fun hg=>(hQ hg).1
      have ZL4:=fun hg=>(hQ hg).2.1
      have ZSt:=fun hg=>(hQ hg).2.2
      refine WX.gv (Zt.no rfl rfl rfl (Y3 rfl (YA rfl fh))) rfl (fun hg=>(ZE Zht Wl (YX (YA rfl fh) rfl hg) (YX fh rfl hg) rfl (ZKZ hg) (ZJt hg))) ?_ rfl;refine WX.gv (Zt.no rfl rfl rfl (Y3 rfl (YA rfl (Zy rfl fh)))) rfl (fun hg=>(Xh Zm1 Wl (YX fh rfl hg) (ZL4 hg) (j:=0) rfl rfl (ws:= [.int .i64 x86.machine,.bool x86.here,.int .i64 x86.age]) rfl)) ?_ rfl;refine r3 ?_;refine WX.gv (Zt.no rfl rfl rfl (Y8 rfl (YA rfl (Zy rfl fh)))) rfl (fun hg=>(X4 Zrw (ZC (YX (YA rfl fh) rfl hg) (ZC lk (ZC (YX fh rfl hg) Yf))) rfl (cs':= [.int .i64 v59,.bool false,.int .i64 x79.age]) rfl)) ?_ rfl;refine WX.gv (Zt.no rfl rfl rfl (Y8 rfl (Y3 rfl fh))) rfl (fun hg=>(JE (YX (Y3 rfl fh) rfl hg) (YX fh rfl hg) (ZpF (xs:= [.int .i64 x86.machine,.bool x86.here,.int .i64 x86.age]) (ys:= [.int .i64 v59,.bool false,.int .i64 x79.age]) (ZHz x86 (Ym.mk v59 false x79.age)) rfl rfl))) ?_ rfl;refine r3 ?_;refine cn hL ?_ ?_
      ·intro hc hL;refine XC ?_;refine r3 ?_;exact rt hL hT hS
      ·intro hc hL;refine r6 ?_;refine r1 ?_;exact Ye.Y2 (ZBs _ _ hL ⟨_,_,rfl,hS.only (.c k1 (.c k1 (.c k1 (.c k1 (.c k1 (.c k1 (.c k1 .n))))))),YD⟩)
     ·intro hc hL;refine r8 ?_;refine r2 ?_;exact Ye.Y2 (ZBx _ _ hL ⟨_,_,rfl,hS.only (.c k0 (.c k0 (.c k0 (.c k0 (.c k0 (.c k0 (.c k0 .n))))))),YD⟩)
    ·intro hc hL;refine r8 ?_;refine r3 ?_;exact rt hL hT hS
end Go.Proofs.YtbmbbcaaimehkaaGreat
end
end
section
namespace Go.Proofs.YtbmbbcaaimehkaaGreat
open Go.Lf
def Zrg (F:Nat) (p0:Zb) (p1:ZH):Option (Zb×(List ZG)×Int):=
 (Zo6 F p0).bind fun x7=>(gd (!(x7 !=0)) (Zuu p0 p1) default).bind fun x8=>(bif((x7 !=0) || (!x8)) then some ((Zb.mk [] [] [] [] [] 0),[],2) else(Zut F p0 p1).bind fun x10=>(bif(x10 !=0) then some ((Zb.mk [] [] [] [] [] 0),[],x10) else(Zy9 F p0).bind fun x12=>(Zy8 F (Z6.mk x12 []) p1).bind fun x32=>some (x32.Za,x32.qX,0)))
end Go.Proofs.YtbmbbcaaimehkaaGreat
end
section
set_option maxRecDepth 20000
noncomputable section
namespace Go.Proofs.YtbmbbcaaimehkaaGreat
open Go.YJ Go.Lf
theorem ZHw {F wm:Nat} {h:H} {p0:Zb} {p1:ZH} {Zi:Option Addr} {Zh:Nat} {Zq:Option Addr} {Zo:Nat} {Zk:Option Addr} {Zj:Nat} {Zp:Option Addr} {Zn:Nat} {Zm:Option Addr} {Zl:Nat} {r:(Zb×(List ZG)×Int)} (ZX:wm <=h.size) (ZA:Sl (Zu .i64) wm h Zi Zh p0.Zv) (ZN:Sl (Zz (Zu .i64)) wm h Zq Zo p0.qK) (ZL:Sl (Zz Zc) wm h Zk Zj p0.qQ) (ZO:Sl (Zz Zg) wm h Zp Zn p0.qJ) (ZK:Sl Zd wm h Zm Zl p0.qG) (hL:Zrg F p0 p1=some r):
 WR XX 20 #[.agg [.slice Zi p0.Zv.length Zh,.slice Zq p0.qK.length Zo,.slice Zk p0.qQ.length Zj,.slice Zp p0.qJ.length Zn,.slice Zm p0.qG.length Zl,.int .i64 p0.said].toArray,.agg [.int .i64 p1.act,.int .i64 p1.a,.int .i64 p1.b].toArray] wm h (CP (fun(v:Value) (Gb:List (Ast wm))=>∃ (Qi:Option Addr) (Qg:Nat) (Qh:Nat) (Zn0:Option Addr) (ZnN:Nat) (ZnU:Nat) (Zlr:Nat ->Option Addr×Nat×Nat) (ZnZ:Option Addr) (ZnM:Nat) (ZnT:Nat) (Zlq:Nat ->Option Addr×Nat×Nat) (ZnY:Option Addr) (ZnL:Nat) (ZnS:Nat) (Zlp:Nat ->Option Addr×Nat×Nat) (ZnX:Option Addr) (ZnK:Nat) (ZnR:Nat) (ZDm:Option Addr) (ZDk:Nat) (ZDl:Nat),v= .tuple [.agg [.slice Qi Qg Qh,.slice Zn0 ZnN ZnU,.slice ZnZ ZnM ZnT,.slice ZnY ZnL ZnS,.slice ZnX ZnK ZnR,.int .i64 r.1.said].toArray,.slice ZDm ZDk ZDl,.int .i64 r.2.2].toArray∧Gb= [ow wm (Zu .i64) Qi Qg Qh r.1.Zv,Y9 wm (Z5 (Zu .i64)) Zn0 ZnN ZnU Zlr r.1.qK,Y9 wm (Z5 Zc) ZnZ ZnM ZnT Zlq r.1.qQ,Y9 wm (Z5 Zg) ZnY ZnL ZnS Zlp r.1.qJ,ow wm Zd ZnX ZnK ZnR r.1.qG,ow wm ZP ZDm ZDk ZDl r.2.1]) [] h):=by
 refine bg Tryz.ntmps20 ZX Yd.nil ?_;intro T hT hS;unfold Zrg at hL;refine r3 ?_;rintro _ h2 ⟨b1,eb1,rfl,hS⟩;refine r1 ?_;rintro _ h4 ⟨b3,eb3,rfl,hS⟩;refine r1 ?_;rintro _ h6 ⟨b5,eb5,rfl,hS⟩;refine r8 ?_;obtain⟨x7,hx7,hL⟩:=bind_some hL;refine WO.cp gN rfl (Xi.fn ZKP (Zf lk Zx)) (WR.XO rfl (ZHq (Nat.le_refl _) (hS.YZ ZA) (hS.YZ ZN) (hS.YZ ZL) (hS.YZ ZO) (hS.YZ ZK) hx7)) ?_;refine r4 ?_;obtain⟨x8,hx8,hL⟩:=Yt hL;refine WO.gcp (Zt.no rfl rfl rfl (YA rfl fh)) rfl (fun hg=>(Xi.fn ZKN (Zf (YX (Zy rfl fh) rfl hg) (Zf (YX fh rfl hg) Zx)))) (fun hg=>ZHo (hS.YZ ZA) (hS.YZ ZN) (hS.YZ ZL) (hS.YZ ZO) (hS.YZ ZK) (hx8 hg)) ?_;refine r4 ?_;refine cn hL ?_ ?_
 ·intro hc hL;refine r2 ?_;refine WO.w gN rfl (X4 Zzx Yf rfl (cs':= (cV none 0 0 none 0 0 none 0 0 none 0 0 none 0 0 0)) rfl) ?_;refine r1 ?_;rintro h9 hS;refine r6 ?_;have hS:=hS.nil (e:= (Zu .i64));have hS:=hS.Zlv (e:= (Z5 (Zu .i64))) (ps:=fun _=>(Z5 (Zu .i64)).dflt);have hS:=hS.Zlv (e:= (Z5 Zc)) (ps:=fun _=>(Z5 Zc).dflt);have hS:=hS.Zlv (e:= (Z5 Zg)) (ps:=fun _=>(Z5 Zg).dflt);have hS:=hS.nil (e:=Zd);have hS:=hS.nil (e:=ZP);have hr:=Oi0 hL;subst hr;exact Yl.gen (vs:= [.agg [.slice none 0 0,.slice none 0 0,.slice none 0 0,.slice none 0 0,.slice none 0 0,.int .i64 0].toArray,.slice none 0 0,.int .i64 2]) rfl (Xd (Y8 rfl (Y3 rfl (YA rfl fh))) (Kn ZpD Zdm (hS.atB k6) (j:=0) rfl rfl (ws:= (cV none 0 0 none 0 0 none 0 0 none 0 0 none 0 0 0)) rfl) (ZU lk (ZU lk ZB))) rfl ⟨_,⟨none,0,0,none,0,0,(fun _=>(Z5 (Zu .i64)).dflt),none,0,0,(fun _=>(Z5 Zc).dflt),none,0,0,(fun _=>(Z5 Zg).dflt),none,0,0,none,0,0,rfl,rfl⟩,hT ▸ hS.only (.c k5 (.c k4 (.c k3 (.c k2 (.c k1 (.c k0 .n))))))⟩
 ·intro hc hL;refine r6 ?_;refine r1 ?_;obtain⟨x10,ZBf,hL⟩:=bind_some hL;refine WO.cp gN rfl (Xi.fn ZKM (Zf lk (Zf lk Zx))) (ZHm (hS.YZ ZA) (hS.YZ ZN) (hS.YZ ZL) (hS.YZ ZO) (hS.YZ ZK) ZBf) ?_;refine r8 ?_;refine r1 ?_;refine cn hL ?_ ?_
  ·intro hc hL;refine r2 ?_;refine WO.w gN rfl (X4 Zzx Yf rfl (cs':= (cV none 0 0 none 0 0 none 0 0 none 0 0 none 0 0 0)) rfl) ?_;refine r2 ?_;rintro h11 hS;refine r6 ?_;have hS:=hS.nil (e:= (Zu .i64));have hS:=hS.Zlv (e:= (Z5 (Zu .i64))) (ps:=fun _=>(Z5 (Zu .i64)).dflt);have hS:=hS.Zlv (e:= (Z5 Zc)) (ps:=fun _=>(Z5 Zc).dflt);have hS:=hS.Zlv (e:= (Z5 Zg)) (ps:=fun _=>(Z5 Zg).dflt);have hS:=hS.nil (e:=Zd);have hS:=hS.nil (e:=ZP);have hr:=Oi0 hL;subst hr;exact Yl.gen (vs:= [.agg [.slice none 0 0,.slice none 0 0,.slice none 0 0,.slice none 0 0,.slice none 0 0,.int .i64 0].toArray,.slice none 0 0,.int .i64 x10]) rfl (Xd (Y8 rfl (Y8 rfl (Y3 rfl (Zy rfl fh)))) (Kn ZpD Zdm (hS.atB k6) (j:=0) rfl rfl (ws:= (cV none 0 0 none 0 0 none 0 0 none 0 0 none 0 0 0)) rfl) (ZU lk (ZU lk ZB))) rfl ⟨_,⟨none,0,0,none,0,0,(fun _=>(Z5 (Zu .i64)).dflt),none,0,0,(fun _=>(Z5 Zc).dflt),none,0,0,(fun _=>(Z5 Zg).dflt),none,0,0,none,0,0,rfl,rfl⟩,hT ▸ hS.only (.c k5 (.c k4 (.c k3 (.c k2 (.c k1 (.c k0 .n))))))⟩
  ·intro hc hL;refine r4 ?_;refine r1 ?_;obtain⟨x12,Zqy,hL⟩:=bind_some hL;refine WO.cl gN rfl (Xi.fn ZKL (Zf lk Zx)) hS .n (fun g' hz hf hO=>ZHk (by rw [hz];exact hS.hw) ((hS.sl ZA).mono hf) ((hS.sl ZN).mono hf) ((hS.sl ZL).mono hf) ((hS.sl ZO).mono hf) ((hS.sl ZK).mono hf) Zqy) ?_;rintro _ h28 _ ⟨a13,n14,c15,a16,n17,c18,ZR2,a19,n20,c21,ZDp,a22,n23,c24,ZDo,a25,n26,c27,rfl,rfl⟩ hS;obtain rfl:=hS.on k0;obtain rfl:=hS.Xk k1;obtain rfl:=hS.Xk k2;obtain rfl:=hS.Xk k3;obtain rfl:=hS.on k4;refine WO.w gN rfl (X4 ZHT (ZC lk Yf) rfl (cs':= (cG a13 x12.Zv.length c15 a16 x12.qK.length c18 a19 x12.qQ.length c21 a22 x12.qJ.length c24 a25 x12.qG.length c27 x12.said none 0 0)) rfl) ?_;refine r1 ?_;rintro _ h31 ⟨b30,ZWG,rfl,hS⟩;refine r6 ?_;refine r1 ?_;obtain⟨x32,hx32,hL⟩:=bind_some hL;have hS:=hS.nil (e:=ZP);refine WO.cl gN rfl (Xi.fn ZKK (Zf lk (Zf lk Zx))) hS (.c k1 (.c k1 (.c k1 (.c k1 (.c k1 (.c k1 (.c k0 .n))))))) (fun g' hz hf hO=>ZHj (p0:= (Z6.mk x12 [])) (by rw [hz];exact hS.hw) hO hx32) ?_;rintro _ h51 _ ⟨a33,n34,c35,a36,n37,c38,Zv8,a39,n40,c41,ZIW,a42,n43,c44,ZIV,a45,n46,c47,a48,n49,c50,rfl,rfl⟩ hS;obtain rfl:=hS.on k1;obtain rfl:=hS.Xk k2;obtain rfl:=hS.Xk k3;obtain rfl:=hS.Xk k4;obtain rfl:=hS.on k5;obtain rfl:=hS.on k6;refine r3 ?_;refine WC.Xx mixed Kq0 ?_;refine r6 ?_;refine r1 ?_;refine WX.wr (fun x=>x=b30) hS gN rfl (fun _ _ hR=>ZW ZEl (Yo fh rfl) (At.eqv (hR b30 rfl) (hS.atB k0)) (j:=6) rfl (v:= .slice a48 x32.qX.length c50) rfl) ?_ rfl rfl;rintro h53 e54 hS;refine WX.hu gN (ZaQ hS k7 Zdm lk lk (vs:= (cW x32.Za a33 c35 a36 c38 a39 c41 a42 c44 a45 c47)) rfl rfl rfl rfl (cs':= (cW x32.Za a33 c35 a36 c38 a39 c41 a42 c44 a45 c47)) rfl) ?_ rfl rfl [7] Kq0 (.c .z (hS.dj (.c k7 (.c k0 .n))) YV.e);rintro h55 hS;refine WX.w gN rfl (ZcQ lk) ?_ Kq0;refine WX.w gN rfl (ZcQ lk) ?_ Kq0;refine r3 ?_;have hr:=Oi0 hL;subst hr;exact Yl.gen (vs:= [.agg [.slice a33 x32.Za.Zv.length c35,.slice a36 x32.Za.qK.length c38,.slice a39 x32.Za.qQ.length c41,.slice a42 x32.Za.qJ.length c44,.slice a45 x32.Za.qG.length c47,.int .i64 x32.Za.said].toArray,.slice a48 x32.qX.length c50,.int .i64 0]) rfl (Xd (Y8 rfl (Y8 rfl (Y8 rfl (Y8 rfl (YA rfl (Zy rfl fh)))))) (Kn ZpD Zdm (hS.atB k0) (j:=0) rfl rfl (ws:= (cW x32.Za a33 c35 a36 c38 a39 c41 a42 c44 a45 c47)) rfl) (ZU lk (ZU lk ZB))) rfl ⟨_,⟨a33,x32.Za.Zv.length,c35,a36,x32.Za.qK.length,c38,Zv8,a39,x32.Za.qQ.length,c41,ZIW,a42,x32.Za.qJ.length,c44,ZIV,a45,x32.Za.qG.length,c47,a48,x32.qX.length,c50,rfl,rfl⟩,hT ▸ hS.only (.c k2 (.c k2 (.c k2 (.c k2 (.c k2 (.c k2 .n))))))⟩
end Go.Proofs.YtbmbbcaaimehkaaGreat
end
end
section
namespace Go.Proofs.YtbmbbcaaimehkaaGreat
open Go.Lf
def ZkP (v10:Int) (WK:(Int×(List Int)×(List (List Int))×(List (List Zw))×(List (List Zr))×(List Ze)×Int ->Option Bool)):(List Int)×(List (List Int))×(List (List Zw))×(List (List Zr))×(List Ze)×Int ->Option Bool:=fun(v35,v38,v41,v44,v47,v50)=>
 WK (Xa (v10 + 1),v35,v38,v41,v44,v47,v50)
def ZkO (JH:Int) (UB:(Int ->Option Bool)):Unit ->Option Bool:=fun _=>
 UB (Xa (JH + 1))
def Zeu (Ze3:Int) (K5:(Int×(List (Int×Int)) ->Option Bool)):(List (Int×Int)) ->Option Bool:=fun ZjI=>
 K5 (Xa (Ze3 + 1),ZjI)
def ZsV (F:Nat) (v10:Int) (v12:(List Int)) (v15:(List (List Int))) (v18:(List (List Zw))) (v21:(List (List Zr))) (v24:(List Ze)) (v27:Int) (WK:(Int×(List Int)×(List (List Int))×(List (List Zw))×(List (List Zr))×(List Ze)×Int ->Option Bool)) (QT:(Zb×(List ZG)×Int)) (ZcT:(List (Int×Int))):Int ->(Int ->Option Bool) ->Option Bool:=fun v173 Zsk=>
 (bif decide (v173 < (QT.1.Zv.length:Int)) then(Zj4 F QT.1 v173).bind fun Zvn=>(Zj4 F (Zb.mk v12 v15 v18 v21 v24 v27) v173).bind fun Zvm=>(Zff ZcT v173 0).bind fun ZAx=>(gd (!(((Zvn.2.1 !=Zvm.2.1) || (Zvn.2.2 !=Zvm.2.2)) != (ZAx==1))) (Zff ZcT v173 0) default).bind fun ZEC=>(bif((((Zvn.2.1 !=Zvm.2.1) || (Zvn.2.2 !=Zvm.2.2)) != (ZAx==1)) || (decide (ZEC > 1))) then some false else(ZQ QT.1.Zv v173).bind fun ZpW=>(gd (decide (ZpW >=0)) (Zff ZcT v173 0) default).bind fun ZEB=>(gd (decide (ZpW >=0)) (Zff ZcT ZpW 0) default).bind fun ZpV=>(bif((decide (ZpW >=0)) && (ZEB !=ZpV)) then some false else Zsk (Xa (v173 + 1)))) else(ZkP v10 WK) (QT.1.Zv,QT.1.qK,QT.1.qQ,QT.1.qJ,QT.1.qG,QT.1.said))
def ZsW (F:Nat) (v10:Int) (v12:(List Int)) (v15:(List (List Int))) (v18:(List (List Zw))) (v21:(List (List Zr))) (v24:(List Ze)) (v27:Int) (WK:(Int×(List Int)×(List (List Int))×(List (List Zw))×(List (List Zr))×(List Ze)×Int ->Option Bool)) (QT:(Zb×(List ZG)×Int)):Int×(List (Int×Int)) ->(Int×(List (Int×Int)) ->Option Bool) ->Option Bool:=fun(Ze3,ZcT) K5=>
 (bif decide (Ze3 < (QT.2.1.length:Int)) then(ZQ QT.2.1 Ze3).bind fun x151=>(Zuw x151.place (QT.1.Zv.length:Int)).bind fun x157=>(bif(!x157) then some false else(Zj4 F QT.1 x151.place).bind fun x158=>(Zj4 F (Zb.mk v12 v15 v18 v21 v24 v27) x151.place).bind fun x159=>(bif(x151.deed==1) then(bif((!x158.2.1) || (x158.1 !=x151.at_)) then some false else(Zeu Ze3 K5) ZcT) else(bif(x151.deed==3) then(Zff ZcT x151.place 0).bind fun x160=>(bif((((!x158.2.1) || (x158.1 !=x151.at_)) || x159.2.1) || (x159.1 !=x151.at_)) then some false else(Zeu Ze3 K5) (U6 ZcT x151.place (Xa (x160 + 1)))) else(bif(x151.deed==2) then(Zff ZcT x151.place 0).bind fun ZAy=>(bif(((x158.2.1 || (x158.1 !=x151.n)) || (!x159.2.1)) || (x159.1 !=x151.at_)) then some false else(Zeu Ze3 K5) (U6 ZcT x151.place (Xa (ZAy + 1)))) else(Zeu Ze3 K5) ZcT)))) else loop F (ZsV F v10 v12 v15 v18 v21 v24 v27 WK QT ZcT) 0)
def Zo2 (F:Nat) (v10:Int) (v12:(List Int)) (v15:(List (List Int))) (v18:(List (List Zw))) (v21:(List (List Zr))) (v24:(List Ze)) (v27:Int) (WK:(Int×(List Int)×(List (List Int))×(List (List Zw))×(List (List Zr))×(List Ze)×Int ->Option Bool)) (QT:(Zb×(List ZG)×Int)):Int ->(Int ->Option Bool) ->Option Bool:=fun JH UB=>
 (bif decide (JH < (QT.1.Zv.length:Int)) then(ZQ QT.1.Zv JH).bind fun Zdi=>(bif decide (Zdi < 0) then(ZkO JH UB) () else(Zj4 F QT.1 JH).bind fun ZaL=>(Zj4 F QT.1 Zdi).bind fun ZEF=>(bif((ZaL.1 !=ZEF.1) || (ZaL.2.1 !=ZEF.2.1)) then some false else(ZkO JH UB) ())) else loop F (ZsW F v10 v12 v15 v18 v21 v24 v27 WK QT) (0,[]))
def ZsX (F:Nat) (p1:(List ZH)):Int×(List Int)×(List (List Int))×(List (List Zw))×(List (List Zr))×(List Ze)×Int ->(Int×(List Int)×(List (List Int))×(List (List Zw))×(List (List Zr))×(List Ze)×Int ->Option Bool) ->Option Bool:=fun(v10,v12,v15,v18,v21,v24,v27) WK=>
 (bif decide (v10 < (p1.length:Int)) then(ZQ p1 v10).bind fun x51=>(Zrg F (Zb.mk v12 v15 v18 v21 v24 v27) x51).bind fun QT=>(bif(QT.2.2 !=0) then(ZkP v10 WK) (v12,v15,v18,v21,v24,v27) else(Zo7 F QT.1).bind fun x93=>(bif((!x93) || ((QT.1.Zv.length:Int) != (v12.length:Int))) then some false else loop F (Zo2 F v10 v12 v15 v18 v21 v24 v27 WK QT) 0)) else(ZHy).bind fun ZIw=>some ZIw)
def f9L (F:Nat) (p0:Zb) (p1:(List ZH)):Option Bool:=
 (Zzc F p0 p1 []).bind fun x3=>(bif(!x3) then(ZHy).bind fun x4=>some x4 else loop F (ZsX F p1) (0,p0.Zv,p0.qK,p0.qQ,p0.qJ,p0.qG,p0.said))
end Go.Proofs.YtbmbbcaaimehkaaGreat
end
section
set_option maxRecDepth 20000
noncomputable section
namespace Go.Proofs.YtbmbbcaaimehkaaGreat
open Go.YJ Go.Lf
theorem ZME {F wm:Nat} {h:H} {p0:Zb} {p1:(List ZH)} {Zi:Option Addr} {Zh:Nat} {Zq:Option Addr} {Zo:Nat} {Zk:Option Addr} {Zj:Nat} {Zp:Option Addr} {Zn:Nat} {Zm:Option Addr} {Zl:Nat} {QJ:Option Addr} {QI:Nat} {r:Bool} (ZX:wm <=h.size) (ZA:Sl (Zu .i64) wm h Zi Zh p0.Zv) (ZN:Sl (Zz (Zu .i64)) wm h Zq Zo p0.qK) (ZL:Sl (Zz Zc) wm h Zk Zj p0.qQ) (ZO:Sl (Zz Zg) wm h Zp Zn p0.qJ) (ZK:Sl Zd wm h Zm Zl p0.qG) (Zad:Sl Kz wm h QJ QI p1) (hL:f9L F p0 p1=some r):
 WR XX 9 #[.agg [.slice Zi p0.Zv.length Zh,.slice Zq p0.qK.length Zo,.slice Zk p0.qQ.length Zj,.slice Zp p0.qJ.length Zn,.slice Zm p0.qG.length Zl,.int .i64 p0.said].toArray,.slice QJ p1.length QI] wm h (CP (fun(v:Value) (Gb:List (Ast wm))=>v= .bool r∧Gb= []) [] h):=by
 refine bg Tryz.ntmps9 ZX Yd.nil ?_;intro T hT hS;unfold f9L at hL;refine r3 ?_;rintro _ h2 ⟨b1,eb1,rfl,hS⟩;refine r8 ?_;obtain⟨x3,hx3,hL⟩:=bind_some hL;refine WO.cp gN rfl (Xi.fn ZKS (Zf lk (Zf lk (Zf lk Zx)))) (WR.XO rfl (ZHu (Nat.le_refl _) (hS.YZ ZA) (hS.YZ ZN) (hS.YZ ZL) (hS.YZ ZO) (hS.YZ ZK) (hS.YZ Zad) Sl.nil hx3)) ?_;refine r3 ?_;refine cn hL ?_ ?_
 ·intro hc hL;refine r2 ?_;obtain⟨x4,hx4,hL⟩:=bind_some hL;refine WO.cp gN rfl (Xi.fn ZDY Zx) (Zzf hx4) ?_;refine r4 ?_;refine r1 ?_;exact rt hL hT hS
 ·intro hc hL;refine r8 ?_;refine r3 ?_;have hS:=hS.add (A:=Yb wm (Zz (Zu .i64)) (Zi,Zh) p0.Zv) (hS.sl ZA) (fun _ z=>z);have hS:=hS.add (A:=Yb wm (Zz (Zz (Zu .i64))) (Zq,Zo) p0.qK) (hS.sl ZN) (fun _ z=>z);have hS:=hS.add (A:=Yb wm (Zz (Zz Zc)) (Zk,Zj) p0.qQ) (hS.sl ZL) (fun _ z=>z);have hS:=hS.add (A:=Yb wm (Zz (Zz Zg)) (Zp,Zn) p0.qJ) (hS.sl ZO) (fun _ z=>z);have hS:=hS.add (A:=Yb wm (Zz Zd) (Zm,Zl) p0.qG) (hS.sl ZK) (fun _ z=>z);refine WC.loop (WL.lift hL (fun(p:Int×(List Int)×(List (List Int))×(List (List Zw))×(List (List Zr))×(List Ze)×Int) (s:Fs)=>match p with | (v10,v12,v15,v18,v21,v24,v27)=>∃ (fr6:Fr) (h5:H) (a13:Option Addr) (c14:Nat) (a16:Option Addr) (c17:Nat) (a19:Option Addr) (c20:Nat) (a22:Option Addr) (c23:Nat) (a25:Option Addr) (c26:Nat),s= ⟨fr6,[],h5,none⟩∧Sp wm T h [Yb wm (Zz (Zu .i64)) (a13,c14) v12,Yb wm (Zz (Zz (Zu .i64))) (a16,c17) v15,Yb wm (Zz (Zz Zc)) (a19,c20) v18,Yb wm (Zz (Zz Zg)) (a22,c23) v21,Yb wm (Zz Zd) (a25,c26) v24,bx wm b1 (cV a13 v12.length c14 a16 v15.length c17 a19 v18.length c20 a22 v21.length c23 a25 v24.length c26 v27)] h5∧fr6.at 2= .pointer (some ⟨b1,0,none⟩)∧fr6.at 40= .slice QJ p1.length QI∧fr6.at 41= .int .i64 (p1.length:Int)∧fr6.at 42= .int .i64 v10) ⟨_,_,Zi,Zh,Zq,Zo,Zk,Zj,Zp,Zn,Zm,Zl,rfl,hS.only (.c k4 (.c k3 (.c k2 (.c k1 (.c k0 (.c k0 .n)))))),YD⟩ ?_);clear hL hS;rintro WK ⟨v10,v12,v15,v18,v21,v24,v27⟩ s ZBH hL ⟨fr6,h5,a13,c14,a16,c17,a19,c20,a22,c23,a25,c26,rfl,hS,e7,e8,e9,e11⟩;dsimp only [ZsX] at hL;refine r6 ?_;refine cn hL ?_ ?_
  ·intro hc hL;refine r2 ?_;refine WC.Zbn (r:=r) (fun(p:(List Int)×(List (List Int))×(List (List Zw))×(List (List Zr))×(List Ze)×Int) (s:Fs)=>match p with | (v35,v38,v41,v44,v47,v50)=>∃ (KG:Fr) (h29:H) (a36:Option Addr) (c37:Nat) (a39:Option Addr) (c40:Nat) (a42:Option Addr) (c43:Nat) (a45:Option Addr) (c46:Nat) (a48:Option Addr) (c49:Nat),s= ⟨KG,[],h29,none⟩∧Sp wm T h [Yb wm (Zz (Zu .i64)) (a36,c37) v35,Yb wm (Zz (Zz (Zu .i64))) (a39,c40) v38,Yb wm (Zz (Zz Zc)) (a42,c43) v41,Yb wm (Zz (Zz Zg)) (a45,c46) v44,Yb wm (Zz Zd) (a48,c49) v47,bx wm b1 (cV a36 v35.length c37 a39 v38.length c40 a42 v41.length c43 a45 v44.length c46 a48 v47.length c49 v50)] h29∧KG.at 2= .pointer (some ⟨b1,0,none⟩)∧KG.at 40= .slice QJ p1.length QI∧KG.at 41= .int .i64 (p1.length:Int)∧KG.at 42= .int .i64 v10) (ZkP v10 WK) ?_ ?_
   ·clear hL hS;rintro⟨v35,v38,v41,v44,v47,v50⟩ s hL ⟨KG,h29,a36,c37,a39,c40,a42,c43,a45,c46,a48,c49,rfl,hS,e31,e32,e33,e34⟩;dsimp only [ZkP] at hL;refine r4 ?_;exact Ye.Y2 (ZBH _ _ hL ⟨_,_,a36,c37,a39,c40,a42,c43,a45,c46,a48,c49,rfl,hS.only (.c k0 (.c k0 (.c k0 (.c k0 (.c k0 (.c k0 .n)))))),YD⟩)
   ·skip;refine r3 ?_;obtain⟨x51,Zt8,hL⟩:=bind_some hL;obtain⟨b52,o53,_,ZsK,Zyj,ZLO,ZLs⟩:=Sl.at_ Zad Zt8;refine WO.w gN rfl (ZE ZDe Zqa lk lk rfl ZsK Zt8) ?_;refine WO.w gN rfl (Xh ZEm Zqa (Yo fh rfl) (At.fz hS.fz ZLO Zyj) (j:=0) rfl rfl (ws:= (cS x51)) rfl) ?_;refine r1 ?_;rintro _ h55 ⟨b54,ZWx,rfl,hS⟩;refine r1 ?_;rintro h56 hS;refine r6 ?_;obtain⟨QT,ZBd,hL⟩:=bind_some hL;refine WO.cl gN rfl (Xi.fn ZKT (Zf lk (Zf lk Zx))) hS .n (fun g' hz hf hO=>ZHw (p0:= (Zb.mk v12 v15 v18 v21 v24 v27)) (by rw [hz];exact hS.hw) ((hS.fsl k1).mono hf) ((hS.fsl k2).mono hf) ((hS.fsl k3).mono hf) ((hS.fsl k4).mono hf) ((hS.fsl k5).mono hf) ZBd) ?_;rintro _ h76 _ ⟨a58,n59,c60,a61,n62,c63,ZR1,a64,n65,c66,ZR0,a67,n68,c69,ZRZ,a70,n71,c72,a73,n74,c75,rfl,rfl⟩ hS;obtain rfl:=hS.on k0;obtain rfl:=hS.Xk k1;obtain rfl:=hS.Xk k2;obtain rfl:=hS.Xk k3;obtain rfl:=hS.on k4;obtain rfl:=hS.on k5;refine WO.fzn hS k0 ?_;rintro h78 ⟨ZUY,hS⟩;refine WO.ZGP hS k1 ?_;rintro h80 ⟨ZUX,hS⟩;refine WO.ZGP hS k2 ?_;rintro h82 ⟨ZUW,hS⟩;refine WO.ZGP hS k3 ?_;rintro h84 ⟨ZUV,hS⟩;refine WO.fzn hS k4 ?_;rintro h86 ⟨ZUU,hS⟩;refine WO.fzn hS k5 ?_;rintro h88 ⟨ZUT,hS⟩;refine r4 ?_;refine r1 ?_;rintro _ h91 ⟨b90,ZWg,rfl,hS⟩;refine r1 ?_;rintro h92 hS;refine r8 ?_;refine r3 ?_;refine cn hL ?_ ?_
    ·intro hc hL;refine r3 ?_;exact YO.Y2 _ hL ⟨_,_,a13,c14,a16,c17,a19,c20,a22,c23,a25,c26,rfl,hS.only (.c k8 (.c k8 (.c k8 (.c k8 (.c k8 (.c k8 .n)))))),YD⟩
    ·intro hc hL;refine r6 ?_;obtain⟨x93,hx93,hL⟩:=bind_some hL;refine WO.cp gN rfl (Xi.fn ZDX (Zf lk Zx)) (Zzd (hS.Xw k6) (hS.Xw k5) (hS.Xw k4) (hS.Xw k3) (hS.Xw k2) hx93) ?_;refine XC ?_;refine cn hL ?_ ?_
     ·intro hc hL;refine r8 ?_;refine YO.ret ?_;refine r3 ?_;exact rt hL hT hS
     ·intro hc hL;refine XC ?_;refine WC.loop (WL.lift hL (fun(JH:Int) (s:Fs)=>∃ (Za2:Fr) (h94:H),s= ⟨Za2,[],h94,none⟩∧Sp wm T h [bx wm b1 (cV a13 v12.length c14 a16 v15.length c17 a19 v18.length c20 a22 v21.length c23 a25 v24.length c26 v27),bx wm b90 (cW QT.1 a58 c60 a61 c63 a64 c66 a67 c69 a70 c72),Yb wm (Zz ZP) (a73,c75) QT.2.1,Yb wm (Zz (Zu .i64)) (a58,c60) QT.1.Zv,Yb wm (Zz (Zu .i64)) (a13,c14) v12,Yb wm (Zz (Zz (Zu .i64))) (a16,c17) v15,Yb wm (Zz (Zz Zc)) (a19,c20) v18,Yb wm (Zz (Zz Zg)) (a22,c23) v21,Yb wm (Zz Zd) (a25,c26) v24,Yb wm (Zz (Zz (Zu .i64))) (a61,c63) QT.1.qK,Yb wm (Zz (Zz Zc)) (a64,c66) QT.1.qQ,Yb wm (Zz (Zz Zg)) (a67,c69) QT.1.qJ,Yb wm (Zz Zd) (a70,c72) QT.1.qG] h94∧Za2.at 2= .pointer (some ⟨b1,0,none⟩)∧Za2.at 7= .pointer (some ⟨b90,0,none⟩)∧Za2.at 8= .slice a73 QT.2.1.length c75∧Za2.at 40= .slice QJ p1.length QI∧Za2.at 41= .int .i64 (p1.length:Int)∧Za2.at 42= .int .i64 v10∧Za2.at 68= .slice a58 QT.1.Zv.length c60∧Za2.at 69= .int .i64 (QT.1.Zv.length:Int)∧Za2.at 70= .int .i64 JH) ⟨_,_,rfl,hS.only (.c k13 (.c k0 (.c k0 (.c k4 (.c k5 (.c k5 (.c k5 (.c k5 (.c k5 (.c k3 (.c k2 (.c k1 (.c k0 .n))))))))))))),YD⟩ ?_);clear hL hS;rintro UB JH s Zia hL ⟨Za2,h94,rfl,hS,e96,e97,e98,e99,e100,ZHE,ZMV,ZHD,ZHC⟩;dsimp only [Zo2] at hL;refine r6 ?_;refine cn hL ?_ ?_
      ·intro hc hL;refine r2 ?_;refine WC.Zbn (r:=r) (fun(_:Unit) (s:Fs)=>∃ (Zb5:Fr) (ZGN:H),s= ⟨Zb5,[],ZGN,none⟩∧Sp wm T h [bx wm b1 (cV a13 v12.length c14 a16 v15.length c17 a19 v18.length c20 a22 v21.length c23 a25 v24.length c26 v27),bx wm b90 (cW QT.1 a58 c60 a61 c63 a64 c66 a67 c69 a70 c72),Yb wm (Zz ZP) (a73,c75) QT.2.1,Yb wm (Zz (Zu .i64)) (a58,c60) QT.1.Zv,Yb wm (Zz (Zu .i64)) (a13,c14) v12,Yb wm (Zz (Zz (Zu .i64))) (a16,c17) v15,Yb wm (Zz (Zz Zc)) (a19,c20) v18,Yb wm (Zz (Zz Zg)) (a22,c23) v21,Yb wm (Zz Zd) (a25,c26) v24,Yb wm (Zz (Zz (Zu .i64))) (a61,c63) QT.1.qK,Yb wm (Zz (Zz Zc)) (a64,c66) QT.1.qQ,Yb wm (Zz (Zz Zg)) (a67,c69) QT.1.qJ,Yb wm (Zz Zd) (a70,c72) QT.1.qG] ZGN∧Zb5.at 2= .pointer (some ⟨b1,0,none⟩)∧Zb5.at 7= .pointer (some ⟨b90,0,none⟩)∧Zb5.at 8= .slice a73 QT.2.1.length c75∧Zb5.at 40= .slice QJ p1.length QI∧Zb5.at 41= .int .i64 (p1.length:Int)∧Zb5.at 42= .int .i64 v10∧Zb5.at 68= .slice a58 QT.1.Zv.length c60∧Zb5.at 69= .int .i64 (QT.1.Zv.length:Int)∧Zb5.at 70= .int .i64 JH) (ZkO JH UB) ?_ ?_
       ·clear hL hS;rintro _ s hL ⟨Zb5,ZGN,rfl,hS,e109,ZHB,ZRc,ZMU,ZMT,ZCu,e115,e116,e117⟩;dsimp only [ZkO] at hL;refine r4 ?_;exact Ye.Y2 (Zia _ _ hL ⟨_,_,rfl,hS.only (.c k0 (.c k0 (.c k0 (.c k0 (.c k0 (.c k0 (.c k0 (.c k0 (.c k0 (.c k0 (.c k0 (.c k0 (.c k0 .n))))))))))))),YD⟩)
       ·skip;refine r4 ?_;obtain⟨Zdi,ZoC,hL⟩:=bind_some hL;obtain⟨ZRw,ZO8,_,ZqM,ZqR,Zya,ZF7⟩:=Sl.at_ (hS.fsl k3) ZoC;refine WO.w gN rfl (ZE YE YF lk lk rfl ZqM ZoC) ?_;refine WO.w gN rfl (ZW Xv (Yo fh rfl) ZqR (j:=0) rfl (v:= .int .i64 Zdi) rfl) ?_;refine r8 ?_;refine r3 ?_;refine cn hL ?_ ?_
        ·intro hc hL;refine r3 ?_;exact YO.Y2 _ hL ⟨_,_,rfl,hS.only (.c k0 (.c k0 (.c k0 (.c k0 (.c k0 (.c k0 (.c k0 (.c k0 (.c k0 (.c k0 (.c k0 (.c k0 (.c k0 .n))))))))))))),YD⟩
        ·intro hc hL;refine r6 ?_;obtain⟨ZaL,Zeo,hL⟩:=bind_some hL;refine WO.cp gN rfl (Xi.fn ZkK (Zf lk (Zf lk Zx))) (WR.XO rfl (ZfJ (Nat.le_refl _) (hS.Xw k3) (hS.Xw k9) (hS.Xw k10) (hS.Xw k11) (hS.Xw k12) Zeo)) ?_;refine XC ?_;refine r1 ?_;obtain⟨ZEF,ZJS,hL⟩:=bind_some hL;refine WO.cp gN rfl (Xi.fn ZkK (Zf lk (Zf lk Zx))) (WR.XO rfl (ZfJ (Nat.le_refl _) (hS.Xw k3) (hS.Xw k9) (hS.Xw k10) (hS.Xw k11) (hS.Xw k12) ZJS)) ?_;refine r16 ?_;refine r1 ?_;refine WO.gv (Zt.no rfl rfl rfl (YA rfl fh)) rfl (fun hg=>(JE (YX (Zy rfl fh) rfl hg) (YX fh rfl hg) (Wh Zp2))) ?_;refine r3 ?_;refine cn hL ?_ ?_
         ·intro hc hL;refine r6 ?_;refine r1 ?_;refine YO.ret ?_;refine r4 ?_;refine YO.ret ?_;refine r3 ?_;exact rt hL hT hS
         ·intro hc hL;refine r2 ?_;exact YO.Y2 _ hL ⟨_,_,rfl,hS.only (.c k0 (.c k0 (.c k0 (.c k0 (.c k0 (.c k0 (.c k0 (.c k0 (.c k0 (.c k0 (.c k0 (.c k0 (.c k0 .n))))))))))))),YD⟩
      ·intro hc hL;refine r6 ?_;refine r1 ?_;refine WO.hn gN rfl (ZDi (Value.int .i64) (Value.int .i64) hS) ?_;rintro _ ZQL ⟨ZmS,ZMR,rfl,hS⟩;refine XC ?_;refine WC.loop (WL.lift hL (fun(p:Int×(List (Int×Int))) (s:Fs)=>match p with | (Ze3,ZcT)=>∃ (Zb4:Fr) (Zyu:H),s= ⟨Zb4,[],Zyu,none⟩∧Sp wm T h [bx wm b1 (cV a13 v12.length c14 a16 v15.length c17 a19 v18.length c20 a22 v21.length c23 a25 v24.length c26 v27),bx wm b90 (cW QT.1 a58 c60 a61 c63 a64 c66 a67 c69 a70 c72),mp wm (Value.int .i64) (Value.int .i64) (some ZmS) ZcT,Yb wm (Zz ZP) (a73,c75) QT.2.1,Yb wm (Zz (Zu .i64)) (a13,c14) v12,Yb wm (Zz (Zz (Zu .i64))) (a16,c17) v15,Yb wm (Zz (Zz Zc)) (a19,c20) v18,Yb wm (Zz (Zz Zg)) (a22,c23) v21,Yb wm (Zz Zd) (a25,c26) v24,Yb wm (Zz (Zu .i64)) (a58,c60) QT.1.Zv,Yb wm (Zz (Zz (Zu .i64))) (a61,c63) QT.1.qK,Yb wm (Zz (Zz Zc)) (a64,c66) QT.1.qQ,Yb wm (Zz (Zz Zg)) (a67,c69) QT.1.qJ,Yb wm (Zz Zd) (a70,c72) QT.1.qG] Zyu∧Zb4.at 2= .pointer (some ⟨b1,0,none⟩)∧Zb4.at 7= .pointer (some ⟨b90,0,none⟩)∧Zb4.at 18= .map (some ZmS)∧Zb4.at 40= .slice QJ p1.length QI∧Zb4.at 41= .int .i64 (p1.length:Int)∧Zb4.at 42= .int .i64 v10∧Zb4.at 101= .slice a73 QT.2.1.length c75∧Zb4.at 102= .int .i64 (QT.2.1.length:Int)∧Zb4.at 103= .int .i64 Ze3) ⟨_,_,rfl,hS.only (.c k1 (.c k1 (.c k0 (.c k0 (.c k1 (.c k1 (.c k1 (.c k1 (.c k1 (.c k0 (.c k0 (.c k0 (.c k0 (.c k0 .n)))))))))))))),YD⟩ ?_);clear hL hS;rintro K5 ⟨Ze3,ZcT⟩ s Zxo hL ⟨Zb4,Zyu,rfl,hS,e127,e128,e129,ZXo,ZXn,ZRb,ZRa,ZQ9,ZXl⟩;dsimp only [ZsW] at hL;refine r6 ?_;refine cn hL ?_ ?_
       ·intro hc hL;refine r2 ?_;refine WC.Zbn (r:=r) (fun(ZjI:(List (Int×Int))) (s:Fs)=>∃ (Zb3:Fr) (Zyt:H),s= ⟨Zb3,[],Zyt,none⟩∧Sp wm T h [bx wm b1 (cV a13 v12.length c14 a16 v15.length c17 a19 v18.length c20 a22 v21.length c23 a25 v24.length c26 v27),bx wm b90 (cW QT.1 a58 c60 a61 c63 a64 c66 a67 c69 a70 c72),mp wm (Value.int .i64) (Value.int .i64) (some ZmS) ZjI,Yb wm (Zz ZP) (a73,c75) QT.2.1,Yb wm (Zz (Zu .i64)) (a13,c14) v12,Yb wm (Zz (Zz (Zu .i64))) (a16,c17) v15,Yb wm (Zz (Zz Zc)) (a19,c20) v18,Yb wm (Zz (Zz Zg)) (a22,c23) v21,Yb wm (Zz Zd) (a25,c26) v24,Yb wm (Zz (Zu .i64)) (a58,c60) QT.1.Zv,Yb wm (Zz (Zz (Zu .i64))) (a61,c63) QT.1.qK,Yb wm (Zz (Zz Zc)) (a64,c66) QT.1.qQ,Yb wm (Zz (Zz Zg)) (a67,c69) QT.1.qJ,Yb wm (Zz Zd) (a70,c72) QT.1.qG] Zyt∧Zb3.at 2= .pointer (some ⟨b1,0,none⟩)∧Zb3.at 7= .pointer (some ⟨b90,0,none⟩)∧Zb3.at 18= .map (some ZmS)∧Zb3.at 40= .slice QJ p1.length QI∧Zb3.at 41= .int .i64 (p1.length:Int)∧Zb3.at 42= .int .i64 v10∧Zb3.at 101= .slice a73 QT.2.1.length c75∧Zb3.at 102= .int .i64 (QT.2.1.length:Int)∧Zb3.at 103= .int .i64 Ze3) (Zeu Ze3 K5) ?_ ?_
        ·clear hL hS;rintro ZjI s hL ⟨Zb3,Zyt,rfl,hS,ZQ8,ZXi,e143,ZQ7,ZQ6,ZQ5,ZQ4,ZQ3,ZQ2⟩;dsimp only [Zeu] at hL;refine r4 ?_;exact Ye.Y2 (Zxo _ _ hL ⟨_,_,rfl,hS.only (.c k0 (.c k0 (.c k0 (.c k0 (.c k0 (.c k0 (.c k0 (.c k0 (.c k0 (.c k0 (.c k0 (.c k0 (.c k0 (.c k0 .n)))))))))))))),YD⟩)
        ·skip;refine r3 ?_;obtain⟨x151,hx151,hL⟩:=bind_some hL;obtain⟨ZmR,ZUo,_,ZFU,ZGA,ZQw,ZQj⟩:=Sl.at_ (hS.fsl k3) hx151;refine WO.w gN rfl (ZE Zns Ze8 lk lk rfl ZFU hx151) ?_;refine WO.w gN rfl (Xh ZEk Ze8 (Yo fh rfl) ZGA (j:=0) rfl rfl (ws:= [.int .i64 x151.deed,.int .i64 x151.place,.int .i64 x151.at_,.int .i64 x151.n,.int .i64 x151.hops]) rfl) ?_;refine r1 ?_;rintro _ ZV0 ⟨ZYf,ZS9,rfl,hS⟩;refine r1 ?_;rintro ZVZ hS;refine r8 ?_;refine r2 ?_;obtain⟨x157,hx157,hL⟩:=bind_some hL;refine WO.cp gN rfl (Xi.fn ZKR (Zf lk (Zf lk Zx))) (ZHt hx157) ?_;refine r3 ?_;refine cn hL ?_ ?_
         ·intro hc hL;refine r8 ?_;refine YO.ret ?_;refine r4 ?_;refine YO.ret ?_;refine r3 ?_;exact rt hL hT hS
         ·intro hc hL;refine r6 ?_;refine r1 ?_;obtain⟨x158,hx158,hL⟩:=bind_some hL;refine WO.cp gN rfl (Xi.fn ZkK (Zf lk (Zf lk Zx))) (WR.XO rfl (ZfJ (Nat.le_refl _) (hS.Xw k10) (hS.Xw k11) (hS.Xw k12) (hS.Xw k13) (hS.Xw k14) hx158)) ?_;refine XC ?_;refine r2 ?_;obtain⟨x159,hx159,hL⟩:=bind_some hL;refine WO.cp gN rfl (Xi.fn ZkK (Zf lk (Zf lk Zx))) (WR.XO rfl (ZfJ (Nat.le_refl _) (p0:= (Zb.mk v12 v15 v18 v21 v24 v27)) (hS.Xw k5) (hS.Xw k6) (hS.Xw k7) (hS.Xw k8) (hS.Xw k9) hx159)) ?_;refine r16 ?_;refine r6 ?_;refine cn hL ?_ ?_
          ·intro hc hL;refine XC ?_;refine cn hL ?_ ?_
           ·intro hc hL;refine r8 ?_;refine YO.ret ?_;refine r4 ?_;refine YO.ret ?_;refine r3 ?_;exact rt hL hT hS
           ·intro hc hL;refine r3 ?_;exact YO.Y2 _ hL ⟨_,_,rfl,hS.only (.c k1 (.c k1 (.c k1 (.c k1 (.c k1 (.c k1 (.c k1 (.c k1 (.c k1 (.c k1 (.c k1 (.c k1 (.c k1 (.c k1 .n)))))))))))))),YD⟩
          ·intro hc hL;refine r6 ?_;refine cn hL ?_ ?_
           ·intro hc hL;refine r4 ?_;refine r1 ?_;obtain⟨x160,hx160,hL⟩:=bind_some hL;refine WO.w gN rfl (Ke (kv:= (Value.int .i64)) (vv:= (Value.int .i64)) (k:=x151.place) (z:=0) Zop Zgi WQ (Yo (YA rfl fh) rfl) (Yo fh rfl) (hS.get k3).at_ hx160 (w:= .int .i64 x160) rfl) ?_;refine r1 ?_;refine WO.hu gN (ZvT (kv:= (Value.int .i64)) (vv:= (Value.int .i64)) (k:=x151.place) (v:=Xa (x160 + 1)) hS k3 Zop Zgi (Yo (Y3 rfl fh) rfl) (Yo (YA rfl fh) rfl) (Yo fh rfl)) ?_;rintro ZVY hS;refine r16 ?_;refine r6 ?_;refine r1 ?_;refine cn hL ?_ ?_
            ·intro hc hL;refine r8 ?_;refine YO.ret ?_;refine r4 ?_;refine YO.ret ?_;refine r3 ?_;exact rt hL hT hS
            ·intro hc hL;refine r3 ?_;exact YO.Y2 _ hL ⟨_,_,rfl,hS.only (.c k2 (.c k2 (.c k0 (.c k1 (.c k1 (.c k1 (.c k1 (.c k1 (.c k1 (.c k1 (.c k1 (.c k1 (.c k1 (.c k1 .n)))))))))))))),YD⟩
           ·intro hc hL;refine r6 ?_;refine cn hL ?_ ?_
            ·intro hc hL;refine r4 ?_;refine r1 ?_;obtain⟨ZAy,ZJP,hL⟩:=bind_some hL;refine WO.w gN rfl (Ke (kv:= (Value.int .i64)) (vv:= (Value.int .i64)) (k:=x151.place) (z:=0) Zop Zgi WQ (Yo (YA rfl fh) rfl) (Yo fh rfl) (hS.get k3).at_ ZJP (w:= .int .i64 ZAy) rfl) ?_;refine r1 ?_;refine WO.hu gN (ZvT (kv:= (Value.int .i64)) (vv:= (Value.int .i64)) (k:=x151.place) (v:=Xa (ZAy + 1)) hS k3 Zop Zgi (Yo (Y3 rfl fh) rfl) (Yo (YA rfl fh) rfl) (Yo fh rfl)) ?_;rintro ZQI hS;refine r16 ?_;refine r6 ?_;refine r1 ?_;refine cn hL ?_ ?_
             ·intro hc hL;refine r8 ?_;refine YO.ret ?_;refine r4 ?_;refine YO.ret ?_;refine r3 ?_;exact rt hL hT hS
             ·intro hc hL;refine r3 ?_;exact YO.Y2 _ hL ⟨_,_,rfl,hS.only (.c k2 (.c k2 (.c k0 (.c k1 (.c k1 (.c k1 (.c k1 (.c k1 (.c k1 (.c k1 (.c k1 (.c k1 (.c k1 (.c k1 .n)))))))))))))),YD⟩
            ·intro hc hL;refine r3 ?_;exact YO.Y2 _ hL ⟨_,_,rfl,hS.only (.c k1 (.c k1 (.c k1 (.c k1 (.c k1 (.c k1 (.c k1 (.c k1 (.c k1 (.c k1 (.c k1 (.c k1 (.c k1 (.c k1 .n)))))))))))))),YD⟩
       ·intro hc hL;refine XC ?_;refine r3 ?_;refine WC.loop (WL.lift hL (fun(v173:Int) (s:Fs)=>∃ (Zc9:Fr) (ZBR:H),s= ⟨Zc9,[],ZBR,none⟩∧Sp wm T h [bx wm b1 (cV a13 v12.length c14 a16 v15.length c17 a19 v18.length c20 a22 v21.length c23 a25 v24.length c26 v27),bx wm b90 (cW QT.1 a58 c60 a61 c63 a64 c66 a67 c69 a70 c72),mp wm (Value.int .i64) (Value.int .i64) (some ZmS) ZcT,Yb wm (Zz (Zu .i64)) (a13,c14) v12,Yb wm (Zz (Zz (Zu .i64))) (a16,c17) v15,Yb wm (Zz (Zz Zc)) (a19,c20) v18,Yb wm (Zz (Zz Zg)) (a22,c23) v21,Yb wm (Zz Zd) (a25,c26) v24,Yb wm (Zz (Zu .i64)) (a58,c60) QT.1.Zv,Yb wm (Zz (Zz (Zu .i64))) (a61,c63) QT.1.qK,Yb wm (Zz (Zz Zc)) (a64,c66) QT.1.qQ,Yb wm (Zz (Zz Zg)) (a67,c69) QT.1.qJ,Yb wm (Zz Zd) (a70,c72) QT.1.qG] ZBR∧Zc9.at 2= .pointer (some ⟨b1,0,none⟩)∧Zc9.at 7= .pointer (some ⟨b90,0,none⟩)∧Zc9.at 18= .map (some ZmS)∧Zc9.at 40= .slice QJ p1.length QI∧Zc9.at 41= .int .i64 (p1.length:Int)∧Zc9.at 42= .int .i64 v10∧Zc9.at 193= .int .i64 (QT.1.Zv.length:Int)∧Zc9.at 194= .int .i64 v173) ⟨_,_,rfl,hS.only (.c k0 (.c k0 (.c k0 (.c k1 (.c k1 (.c k1 (.c k1 (.c k1 (.c k1 (.c k1 (.c k1 (.c k1 (.c k1 .n))))))))))))),YD⟩ ?_);clear hL hS;rintro Zsk v173 s Zxm hL ⟨Zc9,ZBR,rfl,hS,e166,e167,e168,e169,e170,ZXf,ZQ1,ZQ0⟩;dsimp only [ZsV] at hL;refine r6 ?_;refine cn hL ?_ ?_
        ·intro hc hL;refine XC ?_;refine r2 ?_;obtain⟨Zvn,ZJN,hL⟩:=bind_some hL;refine WO.cp gN rfl (Xi.fn ZkK (Zf lk (Zf lk Zx))) (WR.XO rfl (ZfJ (Nat.le_refl _) (hS.Xw k8) (hS.Xw k9) (hS.Xw k10) (hS.Xw k11) (hS.Xw k12) ZJN)) ?_;refine XC ?_;refine r1 ?_;obtain⟨Zvm,ZJM,hL⟩:=bind_some hL;refine WO.cp gN rfl (Xi.fn ZkK (Zf lk (Zf lk Zx))) (WR.XO rfl (ZfJ (Nat.le_refl _) (p0:= (Zb.mk v12 v15 v18 v21 v24 v27)) (hS.Xw k3) (hS.Xw k4) (hS.Xw k5) (hS.Xw k6) (hS.Xw k7) ZJM)) ?_;refine XC ?_;refine r2 ?_;refine WO.w gN rfl (JE lk lk (Wh Zp2)) ?_;refine r6 ?_;refine r1 ?_;obtain⟨ZAx,ZJL,hL⟩:=bind_some hL;refine WO.w gN rfl (Ke (kv:= (Value.int .i64)) (vv:= (Value.int .i64)) (k:=v173) (z:=0) Zop Zgi WQ (Yo (Zy rfl fh) rfl) (Yo fh rfl) (hS.get k2).at_ ZJL (w:= .int .i64 ZAx) rfl) ?_;refine r1 ?_;refine WO.w gN rfl (JE lk lk (Wh Zp2)) ?_;refine r3 ?_;obtain⟨ZEC,ZJK,hL⟩:=Yt hL;refine WO.gv (Zt.no rfl rfl rfl (YA rfl fh)) rfl (fun hg=>(Ke (kv:= (Value.int .i64)) (vv:= (Value.int .i64)) (k:=v173) (z:=0) Zop Zgi WQ (YX (Zy rfl fh) rfl hg) (YX fh rfl hg) (hS.get k2).at_ (ZJK hg) (w:= .int .i64 ZEC) rfl)) ?_;refine r4 ?_;refine cn hL ?_ ?_
         ·intro hc hL;refine XC ?_;refine r1 ?_;refine YO.ret ?_;refine r3 ?_;exact rt hL hT hS
         ·intro hc hL;refine r6 ?_;refine r1 ?_;obtain⟨ZpW,ZDB,hL⟩:=bind_some hL;obtain⟨ZYd,ZUl,_,ZFS,ZGy,ZQv,ZQh⟩:=Sl.at_ (hS.fsl k8) ZDB;refine WO.w gN rfl (ZE YE YF lk lk rfl ZFS ZDB) ?_;refine WO.w gN rfl (ZW Xv (Yo fh rfl) ZGy (j:=0) rfl (v:= .int .i64 ZpW) rfl) ?_;refine r8 ?_;refine r2 ?_;obtain⟨ZEB,ZJJ,hL⟩:=Yt hL;refine WO.gv (Zt.yes rfl rfl rfl (YA rfl fh)) rfl (fun hg=>(Ke (kv:= (Value.int .i64)) (vv:= (Value.int .i64)) (k:=v173) (z:=0) Zop Zgi WQ (YX (Zy rfl fh) rfl hg) (YX fh rfl hg) (hS.get k2).at_ (ZJJ hg) (w:= .int .i64 ZEB) rfl)) ?_;refine r2 ?_;obtain⟨ZpV,Zsx,hL⟩:=Yt hL;refine WO.gv (Zt.yes rfl rfl rfl (Y3 rfl (Zy rfl fh))) rfl (fun hg=>(Ke (kv:= (Value.int .i64)) (vv:= (Value.int .i64)) (k:=ZpW) (z:=0) Zop Zgi WQ (YX (Zy rfl fh) rfl hg) (YX fh rfl hg) (hS.get k2).at_ (Zsx hg) (w:= .int .i64 ZpV) rfl)) ?_;refine r4 ?_;refine cn hL ?_ ?_
          ·intro hc hL;refine XC ?_;refine YO.ret ?_;refine r3 ?_;exact rt hL hT hS
          ·intro hc hL;refine r6 ?_;refine r1 ?_;exact Ye.Y2 (Zxm _ _ hL ⟨_,_,rfl,hS.only (.c k0 (.c k0 (.c k0 (.c k0 (.c k0 (.c k0 (.c k0 (.c k0 (.c k0 (.c k0 (.c k0 (.c k0 (.c k0 .n))))))))))))),YD⟩)
        ·intro hc hL;refine r8 ?_;rintro ZVU hS;refine r2 ?_;exact YO.Y2 _ hL ⟨_,_,a58,c60,a61,c63,a64,c66,a67,c69,a70,c72,rfl,hS.only (.c k8 (.c k8 (.c k8 (.c k8 (.c k8 (.c k0 .n)))))),YD⟩
  ·intro hc hL;refine r6 ?_;refine r1 ?_;obtain⟨ZIw,ZJI,hL⟩:=bind_some hL;refine WO.cp gN rfl (Xi.fn ZDY Zx) (Zzf ZJI) ?_;refine r4 ?_;exact rt hL hT hS
theorem ZMF {F:Nat} {h:H} {p0:Zb} {p1:(List ZH)} {Zi:Option Addr} {Zh:Nat} {Zq:Option Addr} {Zo:Nat} {Zk:Option Addr} {Zj:Nat} {Zp:Option Addr} {Zn:Nat} {Zm:Option Addr} {Zl:Nat} {QJ:Option Addr} {QI:Nat} {r:Bool} (ZA:Sl (Zu .i64) h.size h Zi Zh p0.Zv) (ZN:Sl (Zz (Zu .i64)) h.size h Zq Zo p0.qK) (ZL:Sl (Zz Zc) h.size h Zk Zj p0.qQ) (ZO:Sl (Zz Zg) h.size h Zp Zn p0.qJ) (ZK:Sl Zd h.size h Zm Zl p0.qG) (Zad:Sl Kz h.size h QJ QI p1) (hL:f9L F p0 p1=some r):Pure XX 9 #[.agg [.slice Zi p0.Zv.length Zh,.slice Zq p0.qK.length Zo,.slice Zk p0.qQ.length Zj,.slice Zp p0.qJ.length Zn,.slice Zm p0.qG.length Zl,.int .i64 p0.said].toArray,.slice QJ p1.length QI] h (.bool r):=
 WR.XO rfl (ZME (Nat.le_refl _) ZA ZN ZL ZO ZK Zad hL)
end Go.Proofs.YtbmbbcaaimehkaaGreat
end
end
section
namespace Go.Proofs.YtbmbbcaaimehkaaGreat
open Go.Lf
end Go.Proofs.YtbmbbcaaimehkaaGreat
end
section
set_option maxRecDepth 20000
noncomputable section
namespace Go.Proofs.YtbmbbcaaimehkaaGreat
open Go.YJ Go.Lf
end Go.Proofs.YtbmbbcaaimehkaaGreat
end
end
section
end
section
namespace Go.Lf
theorem Zvu {k:Nat} (h:k < 4611686018427387904):Xa ((k:Int) + 1)= ((k + 1:Nat):Int):=by
 rw [Zby (by omega) (by omega)];rfl
theorem Zvv {k:Nat} (h:k < 4611686018427387904) (h0:0 < k):Xa ((k:Int) - 1)= ((k - 1:Nat):Int):=by
 rw [Zby (by omega) (by omega)];omega
theorem ZmZ {α:Type} {Jd:Nat} {xs ys:List α} (h:xs.length + ys.length <=1000000) (hb:Jd <=1000):app Jd xs ys=some (xs ++ ys):=
 ZrD (Nat.le_trans (Nat.mul_le_mul (show 2 * (xs.length + ys.length) + 1000 <=2001000 by omega) hb) (by decide))
def iter {α β σ:Type} (g:Nat ->α ->σ ->(σ ->Option β) ->Option β) (d:σ ->Option β):Nat ->List α ->σ ->Option β
 | _,[],s=>d s
 | i,x::l,s=>g i x s (fun s'=>iter g d (i + 1) l s')
end Go.Lf
end
section
namespace Go.Proofs.YtbmbbcaaimehkaaGreat
open Go.Lf
section
variable {β γ:Type}
theorem Zfm {body:γ ->(γ ->Option β) ->Option β} {r:Option β} (S:Nat ->γ) {n F:Nat} (hF:n < F) (hb:∀ k,k < n ->∀ next,body (S k) next=next (S (k + 1))) (he:∀ next,body (S n) next=r):loop F body (S 0)=r:=by
 have:∀ j F,j <=n ->n - j < F ->loop F body (S j)=r:=by
  intro j F hj hF;obtain⟨d,hd⟩:∃ d,d=n - j:= ⟨_,rfl⟩
  induction d generalizing j F with
  | zero=>
    have:j=n:=by omega
    subst this;cases F with
    | zero=>omega
    | succ F=>rw [ZcC];exact he _
  | succ d ih=>
    cases F with
    | zero=>omega
    | succ F=>rw [ZcC,hb j (by omega)];exact ih (j + 1) F (by omega) (by omega) (by omega)
 exact this 0 F (Nat.zero_le _) (by omega)
theorem Zoi {body:γ ->(γ ->Option β) ->Option β} {r1 r2:Option β} (S:Nat ->γ) (c:Nat ->Bool) {n F:Nat} (hF:n < F) (hb:∀ k,k < n ->∀ next,body (S k) next=bif c k then r1 else next (S (k + 1))) (he:∀ next,body (S n) next=r2):loop F body (S 0)=bif(List.range n).any c then r1 else r2:=by
 cases h:(List.range n).any c with
 | false=>
   rw [List.any_eq_false] at h;refine Zfm S hF (fun k hk next=>?_) he;have:=h k (List.mem_range.2 hk);rw [hb k hk,Bool.eq_false_iff.2 this];rfl
 | true=>
   have hex:∃ k,k < n∧c k=true:=by
    obtain⟨k,h1,h2⟩:=List.any_eq_true.1 h;exact⟨k,List.mem_range.1 h1,h2⟩
   have hm:∃ m,(m < n∧c m=true)∧∀ k,k < m ->c k=false:=by
    obtain⟨k,hk⟩:=hex
    induction k using Nat.strongRecOn with
    | _ k ih=>
      by_cases hz:∃ j,j < k∧c j=true
      ·obtain⟨j,h1,h2⟩:=hz;exact ih j h1 ⟨by omega,h2⟩
      ·exact⟨k,hk,fun j hj=>Bool.eq_false_iff.2 fun q=>hz ⟨j,hj,q⟩⟩
   obtain⟨m,⟨h1,h2⟩,h3⟩:=hm;refine Zfm S (n:=m) (by omega) (fun k hk next=>?_) (fun next=>?_)
   ·rw [hb k (by omega),h3 k hk];rfl
   ·rw [hb m h1,h2];rfl
end
theorem Yz {k:Nat} (h:k < 4611686018427387904):Xa ((k:Int) + 1)= ((k + 1:Nat):Int):=Zvu h
theorem ZM {k n:Nat} (h:k < n):decide ((k:Int) < (n:Int))=true:=decide_eq_true (by omega)
theorem ZT (n:Nat):decide ((n:Int) < (n:Int))=false:=decide_eq_false (by omega)
theorem XJ {α:Type} {l:List α} {k:Nat} (h:k < l.length):ZQ l (k:Int)=some l[k]:=by rw [Zir,List.getElem?_eq_getElem h]
theorem app1 {α:Type} {b:Nat} {l:List α} {x:α} (h:l.length <=900000) (hb:b <=1000):app b l [x]=some (l ++ [x]):=ZmZ (by simp;omega) hb
theorem Xl {α:Type} [BEq α] [LawfulBEq α] (a:α):(a !=a)=false:=by simp
end Go.Proofs.YtbmbbcaaimehkaaGreat
end
section
namespace Go.Proofs.YtbmbbcaaimehkaaGreat
open Go.Lf
structure WH (n:Nat) (w:Zb):Prop where
 Zv:w.Zv.length < n
 qK:w.qK.length < n
 qQ:w.qQ.length < n
 qJ:w.qJ.length < n
 qG:w.qG.length < n
 box:∀ l ∈ w.qK,l.length < n
 row:∀ l ∈ w.qQ,l.length < n
 hel:∀ l ∈ w.qJ,l.length < n
 Xg:∀ x ∈ w.qG,x.qV.length < n∧x.Yh.length < n
theorem WH.mono {n m:Nat} {w:Zb} (h:WH n w) (hm:n <=m):WH m w:=
 ⟨Nat.lt_of_lt_of_le h.Zv hm,Nat.lt_of_lt_of_le h.qK hm,Nat.lt_of_lt_of_le h.qQ hm,Nat.lt_of_lt_of_le h.qJ hm,Nat.lt_of_lt_of_le h.qG hm,fun l q=>Nat.lt_of_lt_of_le (h.box l q) hm,fun l q=>Nat.lt_of_lt_of_le (h.row l q) hm,fun l q=>Nat.lt_of_lt_of_le (h.hel l q) hm,fun x q=>⟨Nat.lt_of_lt_of_le (h.Xg x q).1 hm,Nat.lt_of_lt_of_le (h.Xg x q).2 hm⟩⟩
abbrev Zzi:Zb:= ⟨[],[],[],[],[],0⟩
theorem Zki {α:Type} (l:List α) (c:α ->Bool) (d:α):(List.range l.length).any (fun k=>c (l.getD k d))=l.any c:=by
 rw [Bool.eq_iff_iff,List.any_eq_true,List.any_eq_true]
 constructor
 ·rintro⟨k,h1,h2⟩;have hk:=List.mem_range.1 h1;rw [List.getD_eq_getElem?_getD,List.getElem?_eq_getElem hk] at h2;exact⟨_,List.getElem_mem hk,h2⟩
 ·rintro⟨x,h1,h2⟩;obtain⟨k,hk,rfl⟩:=List.getElem_of_mem h1;exact⟨k,List.mem_range.2 hk,by rw [List.getD_eq_getElem?_getD,List.getElem?_eq_getElem hk];exact h2⟩
theorem Yj {β γ:Type} {body:γ ->(γ ->Option β) ->Option β} {r:Option β} {s0:γ} (S:Nat ->γ) (h0:S 0=s0) {n F:Nat} (hF:n < F) (hb:∀ k,k < n ->∀ next,body (S k) next=next (S (k + 1))) (he:∀ next,body (S n) next=r):loop F body s0=r:=h0 ▸ Zfm S hF hb he
def row (w:Zb) (m:Nat):List Zw:=w.qQ.getD m []
def E (w:Zb) (m p:Nat):Zw:= (row w m).getD p default
structure WN (w:Zb):Prop where
 m1:1 <=w.qQ.length
 m2:w.qQ.length <=5
 p1:1 <=w.Zv.length
 p2:w.Zv.length <=8
 bx:w.qK.length=w.Zv.length
 hd:w.qJ.length=w.qQ.length
 rw_:∀ l ∈ w.qQ,l.length=w.Zv.length
theorem YC {α:Type} {l:List α} {k:Nat} {d:α} (h:k < l.length):l.getD k d ∈ l:=by
 rw [List.getD_eq_getElem?_getD,List.getElem?_eq_getElem h];exact List.getElem_mem h
theorem YN {α:Type} {l:List α} {k:Nat} (d:α) (h:k < l.length):ZQ l (k:Int)=some (l.getD k d):=by
 rw [XJ h,List.getD_eq_getElem?_getD,List.getElem?_eq_getElem h];rfl
theorem WN.row {w:Zb} (s:WN w) {m:Nat} (h:m < w.qQ.length):ZQ w.qQ (m:Int)=some (row w m):=YN [] h
theorem WN.len {w:Zb} (s:WN w) {m:Nat} (h:m < w.qQ.length):(Proofs.YtbmbbcaaimehkaaGreat.row w m).length=w.Zv.length:=s.rw_ _ (YC h)
theorem WN.ent {w:Zb} (s:WN w) {m p:Nat} (h:m < w.qQ.length) (hp:p < w.Zv.length):ZQ (Proofs.YtbmbbcaaimehkaaGreat.row w m) (p:Int)=some (E w m p):=YN default (by rw [s.len h];exact hp)
def Xc (w:Zb) (p k:Nat):List Ym:= (List.range k).filterMap fun m=>if(E w m p).here then some ⟨(m:Int),true,(E w m p).age⟩ else none
def Wv (x:Ze) (p j:Nat):List Ym:= (List.range j).filterMap fun i=>if x.qV.getD i 0= (p:Int) then some ⟨x.Z8,false,x.Yh.getD i 0⟩ else none
def WI (x:Ze) (p:Nat):List Ym:=if x.kind=2 then Wv x p x.qV.length else []
def XZ (l:List Ze) (p:Nat):List Ym:=l.flatMap fun x=>WI x p
def YB (w:Zb) (p:Nat):List Ym:=Xc w p w.qQ.length ++ XZ w.qG p
def WU (l:List Ym):Ym:=l.getLastD ⟨0,false,0⟩
theorem Zh2 (l:List Ym) (x:Ym):WU (l ++ [x])=x:=by unfold WU;simp
theorem ZyF {α β:Type} (f:α ->Option β) (a:α): [a].filterMap f= (f a).toList:=by
 cases h:f a <;> simp [List.filterMap_cons,h]
theorem Jz (w:Zb) (p k:Nat):Xc w p (k + 1)=Xc w p k ++ (if(E w k p).here then [⟨(k:Int),true,(E w k p).age⟩] else []):=by
 unfold Xc;rw [List.range_succ,List.filterMap_append,ZyF];congr 1;by_cases h:(E w k p).here=true
 ·rw [if_pos h,if_pos h];rfl
 ·rw [if_neg h,if_neg h];rfl
theorem Ze0 (x:Ze) (p j:Nat):Wv x p (j + 1)=Wv x p j ++ (if x.qV.getD j 0= (p:Int) then [⟨x.Z8,false,x.Yh.getD j 0⟩] else []):=by
 unfold Wv;rw [List.range_succ,List.filterMap_append,ZyF];congr 1;by_cases h:x.qV.getD j 0= (p:Int)
 ·rw [if_pos h,if_pos h];rfl
 ·rw [if_neg h,if_neg h];rfl
theorem Ztp {l:List Ze} {k:Nat} (h:k < l.length) (p:Nat):XZ (l.take (k + 1)) p=XZ (l.take k) p ++ WI l[k] p:=by
 unfold XZ;rw [List.take_add_one,List.getElem?_eq_getElem h,List.flatMap_append];simp
theorem ZcG (w:Zb) (p k:Nat):(Xc w p k).length <=k:=by
 have:=List.length_filterMap_le (fun m=>if(E w m p).here then some (⟨(m:Int),true,(E w m p).age⟩:Ym) else none) (List.range k);unfold Xc;rw [List.length_range] at this;exact this
theorem ZdY (x:Ze) (p j:Nat):(Wv x p j).length <=j:=by
 have:=List.length_filterMap_le (fun i=>if x.qV.getD i 0= (p:Int) then some (⟨x.Z8,false,x.Yh.getD i 0⟩:Ym) else none) (List.range j);unfold Wv;rw [List.length_range] at this;exact this
def Mvd (n:Nat) (l:List Ze):Prop:=∀ x ∈ l,x.kind=2 ->x.Yh.length=x.qV.length∧x.qV.length <=n
theorem Zvt {n:Nat} {l:List Ze} (h:Mvd n l) (p:Nat):(XZ l p).length <=n * l.length:=by
 induction l with
 | nil=>simp [XZ]
 | cons x l ih=>
   have:=ih fun y hy=>h y (by simp [hy])
   have hx:(WI x p).length <=n:=by
    unfold WI;by_cases hk:x.kind=2
    ·rw [if_pos hk];exact Nat.le_trans (ZdY _ _ _) (h x (by simp) hk).2
    ·rw [if_neg hk];simp
   unfold XZ at this ⊢;rw [List.flatMap_cons,List.length_append,List.length_cons,Nat.mul_succ];omega
theorem Ja (a b:Int):(a !=b)=decide (a ≠ b):=by
 by_cases h:a=b <;> simp [h]
theorem Yc (a b:Int):(a==b)=decide (a=b):=by
 by_cases h:a=b <;> simp [h]
theorem ZaB {α:Type} (c:Prop) [Decidable c] (a b:α):(bif decide c then a else b)=if c then a else b:=by
 by_cases h:c <;> simp [h]
def stP (l:List Ym) (k:Nat):Int×Int×Int×Bool×Int:= ((l.length:Int),(k:Int),(WU l).machine,(WU l).here,(WU l).age)
theorem ZtX (l:List Ym):Ym.mk (WU l).machine (WU l).here (WU l).age=WU l:=rfl
theorem Zhq {F:Nat} (hF:1000 <=F) (hM:F <=1000000) {w:Zb} (s:WN w) (hv:Mvd 900 w.qG) (hw:w.qG.length < 900) {p:Nat} (hp:p < w.Zv.length):
 ZdB F w (p:Int)=some (WU (YB w p),((YB w p).length:Int)):=by
 have h0:=s.m2;have hh:=ZcG w p w.qQ.length
 have hlen:∀ k,k <=w.qG.length ->(XZ (w.qG.take k) p).length <=900 * 900:=fun k hk=>by
  have:=Zvt (l:=w.qG.take k) (fun x hx=>hv x (List.mem_of_mem_take hx)) p;rw [List.length_take] at this;exact Nat.le_trans this (by apply Nat.mul_le_mul (Nat.le_refl _);omega)
 have h1:loop F (ZiK F w (p:Int)) (stP (Xc w p w.qQ.length) 0)=some (WU (YB w p),((YB w p).length:Int)):=by
  refine Yj (fun k=>stP (Xc w p w.qQ.length ++ XZ (w.qG.take k) p) k) (by simp [XZ]) (n:=w.qG.length) (by omega) (fun k hk next=>?_) (fun next=>?_)
  ·have hl:=hlen k (by omega);have hx:w.qG[k] ∈ w.qG:=List.getElem_mem hk;rw [Ztp hk];unfold ZiK stP;dsimp only;rw [ZM hk,Cq1,XJ hk];simp only [Bq0];rw [Ja,ZaB];by_cases hk2:w.qG[k].kind=2
   ·rw [if_neg (fun q=>q hk2)];obtain⟨v1,v2⟩:=hv _ hx hk2;have hwk:WI w.qG[k] p=Wv w.qG[k] p w.qG[k].qV.length:=by unfold WI;rw [if_pos hk2]
    rw [hwk];have hll:(Xc w p w.qQ.length ++ XZ (w.qG.take k) p).length <=5 + 900 * 900:=by rw [List.length_append];omega
    rw [← List.append_assoc];generalize Xc w p w.qQ.length ++ XZ (w.qG.take k) p=l at hll ⊢;refine Yj (fun j=>stP (l ++ Wv w.qG[k] p j) j) (by simp [Wv,stP]) (n:=w.qG[k].qV.length) (by omega) (fun j hj ZwF=>?_) (fun ZwF=>?_)
    ·have hl2:=ZdY w.qG[k] p j;rw [Ze0];unfold Zmj stP;dsimp only;rw [ZM hj,Cq1,YN 0 hj,YN 0 (show j < w.qG[k].Yh.length by omega)];simp only [Bq0];rw [Yc,ZaB];unfold ZiI;dsimp only;by_cases hq:w.qG[k].qV.getD j 0= (p:Int)
     ·rw [if_pos hq,if_pos hq,Yz (by rw [List.length_append];omega),Yz (by omega),← List.append_assoc,Zh2];simp [Int.add_assoc]
     ·rw [if_neg hq,if_neg hq,Yz (by omega),List.append_nil]
    ·unfold Zmj stP;dsimp only;rw [ZT,Cq0];unfold ZfC;dsimp only;rw [Yz (by omega)]
   ·rw [if_pos hk2];have hwk:WI w.qG[k] p= []:=by unfold WI;rw [if_neg hk2]
    rw [hwk,List.append_nil];unfold ZfC;dsimp only;rw [Yz (by omega)]
  ·unfold ZiK stP;dsimp only;rw [ZT,Cq0,List.take_of_length_le (Nat.le_refl _),ZtX];rfl
 unfold ZdB;refine Yj (fun k=>stP (Xc w p k) k) (by rfl) (n:=w.qQ.length) (by omega) (fun k hk next=>?_) (fun next=>?_)
 ·unfold Zmk stP;dsimp only;rw [ZM hk,Cq1,s.row hk];simp only [Bq0];rw [s.ent hk hp];simp only [Bq0];have hl:=ZcG w p k;rw [Jz];unfold ZiJ;dsimp only;cases hE:(E w k p).here with
  | true=>
    simp only [Cq1,if_true];rw [Yz (by omega),Yz (by omega),Zh2];simp
  | false=>
    simp only [Cq0];rw [Yz (by omega)];simp
 ·unfold Zmk;dsimp only [stP];rw [ZT];exact h1
def inn (w:Zb) (q:Int):Int:=w.Zv.getD q.toNat 0
def up (w:Zb):Nat ->Int ->Int
 | 0,q=>q
 | k + 1,q=>if q < 0 then q else up w k (inn w q)
theorem Zld {w:Zb} {q:Int} (h:q < 0) (k:Nat):up w k q=q:=by
 cases k with
 | zero=>rfl
 | succ k=>show(if q < 0 then q else _)=q;rw [if_pos h]
theorem Qx (w:Zb) (k:Nat) (q:Int):up w (k + 1) q=if up w k q < 0 then up w k q else inn w (up w k q):=by
 induction k generalizing q with
 | zero=>rfl
 | succ k ih=>
   show(if q < 0 then q else up w (k + 1) (inn w q))=_;by_cases h:q < 0
   ·rw [if_pos h,Zld h,if_pos h]
   ·rw [if_neg h,ih];show _=if(if q < 0 then q else up w k (inn w q)) < 0 then _ else _
    rw [if_neg h];show _=if _ then(if q < 0 then q else up w k (inn w q)) else inn w (if q < 0 then q else up w k (inn w q))
    rw [if_neg h]
theorem up_add (w:Zb) (a b:Nat) (q:Int):up w (a + b) q=up w b (up w a q):=by
 induction a generalizing q with
 | zero=>rw [Nat.zero_add];rfl
 | succ a ih=>
   rw [show a + 1 + b= (a + b) + 1 by omega];show(if q < 0 then q else up w (a + b) (inn w q))=up w b (if q < 0 then q else up w a (inn w q));by_cases h:q < 0
   ·rw [if_pos h,if_pos h,Zld h]
   ·rw [if_neg h,if_neg h,ih]
theorem Un {w:Zb} {q:Int} {a:Nat} (h:up w a q < 0) {b:Nat} (hb:a <=b):up w b q < 0:=by
 obtain⟨d,rfl⟩:∃ d,b=a + d:= ⟨b - a,by omega⟩
 rw [up_add,Zld h];exact h
def okN (w:Zb) (q:Int):Prop:=-1 <=q∧q < (w.Zv.length:Int)
instance (w:Zb) (q:Int):Decidable (okN w q):=by unfold okN;infer_instance
structure Inn (w:Zb):Prop where
 rng:∀ p:Nat,p < w.Zv.length ->okN w (inn w p)
 acy:∀ p:Nat,p < w.Zv.length ->up w w.Zv.length p < 0
theorem Inn.up {w:Zb} (h:Inn w) {q:Int} (hq:okN w q) (k:Nat):okN w (up w k q):=by
 induction k with
 | zero=>exact hq
 | succ k ih=>
   rw [Qx];by_cases h2:Proofs.YtbmbbcaaimehkaaGreat.up w k q < 0
   ·rw [if_pos h2];exact ih
   ·rw [if_neg h2];have:=h.rng (Proofs.YtbmbbcaaimehkaaGreat.up w k q).toNat (by have:=ih.2;omega)
    rwa [Int.toNat_of_nonneg (by omega)] at this
theorem Qn {c:Nat ->Prop} {n:Nat} (h:c n):∃ m,m <=n∧c m∧∀ k,k < m ->¬ c k:=by
 induction n using Nat.strongRecOn with
 | _ n ih=>
   by_cases hz:∃ j,j < n∧c j
   ·obtain⟨j,h1,h2⟩:=hz;obtain⟨m,q1,q2,q3⟩:=ih j h1 h2;exact⟨m,by omega,q2,q3⟩
   ·exact⟨n,Nat.le_refl _,h,fun k hk q=>hz ⟨k,hk,q⟩⟩
theorem ZE3:∀ (n:Nat) (f:Nat ->Nat),(∀ i,i <=n ->f i < n) ->∃ i j,i < j∧j <=n∧f i=f j:=by
 intro n
 induction n with
 | zero=>intro f h;exact absurd (h 0 (Nat.le_refl _)) (Nat.not_lt_zero _)
 | succ n ih=>
   intro f h;by_cases hz:∃ i,i <=n∧f i=f (n + 1)
   ·obtain⟨i,h1,h2⟩:=hz;exact⟨i,n + 1,by omega,Nat.le_refl _,h2⟩
   ·have hne:∀ i,i <=n ->f i ≠ f (n + 1):=fun i hi q=>hz ⟨i,hi,q⟩
    have hl:=h (n + 1) (Nat.le_refl _)
    obtain⟨i,j,h1,h2,h3⟩:=ih (fun i=>if f i < f (n + 1) then f i else f i - 1) (fun i hi=>by
     have:=h i (by omega);have:=hne i hi;by_cases q:f i < f (n + 1)
     ·rw [if_pos q];omega
     ·rw [if_neg q];omega)
    refine⟨i,j,h1,by omega,?_⟩;have a1:=hne i (by omega);have a2:=hne j h2;by_cases q1:f i < f (n + 1) <;> by_cases q2:f j < f (n + 1)
    ·rwa [if_pos q1,if_pos q2] at h3
    ·rw [if_pos q1,if_neg q2] at h3;omega
    ·rw [if_neg q1,if_pos q2] at h3;omega
    ·rw [if_neg q1,if_neg q2] at h3;omega
theorem Zhj {w:Zb} (hr:∀ p:Nat,p < w.Zv.length ->okN w (inn w p)):(∀ p:Nat,p < w.Zv.length ->up w w.Zv.length p < 0)↔∀ p:Nat,p < w.Zv.length ->∀ j,j <=w.Zv.length ->up w (j + 1) p ≠ (p:Int):=by
 constructor
 ·intro h p hp j hj e
  have:∀ m:Nat,up w (m * (j + 1)) p= (p:Int):=fun m=>by
   induction m with
   | zero=>rw [Nat.zero_mul];rfl
   | succ m ih=>rw [Nat.succ_mul,up_add,ih,e]
  have h2:=Un (h p hp) (b:=w.Zv.length * (j + 1)) (Nat.le_mul_of_pos_right _ (by omega));rw [this] at h2;omega
 ·intro h p hp;rcases Int.lt_or_le (up w w.Zv.length p) 0 with q | q
  ·exact q
  ·exfalso
   have hk:∀ k,k <=w.Zv.length ->0 <=up w k p:=fun k hk=>by
    rcases Int.lt_or_le (up w k p) 0 with z | z
    ·have:=Un z hk;omega
    ·exact z
   have hok:∀ k,okN w (up w k p):=fun k=>by
    induction k with
    | zero=>exact⟨by show(-1:Int) <= (p:Int);omega,by show(p:Int) < _;omega⟩
    | succ k ih=>
      rw [Qx];by_cases h2:up w k p < 0
      ·rw [if_pos h2];exact ih
      ·rw [if_neg h2];have:=hr (up w k p).toNat (by have:=ih.2;omega)
       rwa [Int.toNat_of_nonneg (by omega)] at this
   obtain⟨i,j,h1,h2,h3⟩:=ZE3 w.Zv.length (fun k=>(up w k p).toNat) fun k hk'=>by
    have:= (hok k).2;have:=hk k hk';omega
   have e:up w i p=up w j p:=by have:=hk i (by omega);have:=hk j h2;omega
   have hi:=hk i (by omega);have:=h (up w i p).toNat (by have:= (hok i).2;omega) (j - i - 1) (by omega);apply this;rw [Int.toNat_of_nonneg hi,show j - i - 1 + 1=j - i by omega,← up_add,show i + (j - i)=j by omega,e]
end Go.Proofs.YtbmbbcaaimehkaaGreat
end
section
namespace Go.Proofs.YtbmbbcaaimehkaaGreat
open Go.Lf
section
variable {β γ:Type} {R:β ->Prop}
theorem QO {c:Bool} {A B:Option β} (h1:c=true ->∃ b,A=some b∧R b) (h2:c=false ->∃ b,B=some b∧R b):∃ b,(bif c then A else B)=some b∧R b:=by
 cases c
 ·exact h2 rfl
 ·exact h1 rfl
theorem JU {body:γ ->(γ ->Option β) ->Option β} (r1:β) (r2:Option β) {s0:γ} (S:Nat ->γ) (h0:S 0=s0) (c:Nat ->Prop) {n F:Nat} (hF:n < F)
 (hb:∀ k,k < n ->((∀ next,body (S k) next=some r1)∧c k)∨((∀ next,body (S k) next=next (S (k + 1)))∧¬ c k)) (he:∀ next,body (S n) next=r2)
 (h1:∀ k,k < n ->c k ->R r1) (h2:(∀ k,k < n ->¬ c k) ->∃ b,r2=some b∧R b):∃ b,loop F body s0=some b∧R b:=by
 by_cases hz:∃ k,k < n∧c k
 ·obtain⟨k0,hk0⟩:=hz;obtain⟨m,hm,⟨hmn,hcm⟩,hlt⟩:=Qn (c:=fun k=>k < n∧c k) hk0;refine⟨r1,Yj S h0 (n:=m) (by omega) (fun k hk=>?_) ?_,h1 m hmn hcm⟩
  ·rcases hb k (by omega) with⟨_,q⟩ | ⟨q,_⟩
   ·exact absurd ⟨by omega,q⟩ (hlt k hk)
   ·exact q
  ·rcases hb m hmn with⟨q,_⟩ | ⟨_,q⟩
   ·exact q
   ·exact absurd hcm q
 ·have hno:∀ k,k < n ->¬ c k:=fun k hk q=>hz ⟨k,hk,q⟩
  obtain⟨b,e,hR⟩:=h2 hno;refine⟨b,?_,hR⟩;rw [← e];exact Yj S h0 hF (fun k hk=>(hb k hk).elim (fun q=>absurd q.2 (hno k hk)) fun q=>q.1) he
end
theorem QN {w:Zb} {q:Int} (h:okN w q) (h2:¬ q < 0):∃ k:Nat,q= (k:Int)∧k < w.Zv.length:= ⟨q.toNat,by omega,by have:=h.2;omega⟩
theorem Xt {w:Zb} {p:Nat} (hp:p < w.Zv.length):ZQ w.Zv (p:Int)=some (inn w p):=YN 0 hp
theorem Zeq (k:Nat):decide ((k:Int) >=0)=true:=decide_eq_true (by omega)
def Chn (w:Zb) (p:Nat):Prop:=okN w (inn w p)∧∃ n,n <=w.Zv.length∧(∀ j,j < n ->¬ up w j p < 0∧okN w (inn w (up w j p)))∧up w n p < 0
theorem Zs8 {w:Zb}:(∀ p,p < w.Zv.length ->Chn w p)↔Inn w:=by
 constructor
 ·intro h;exact⟨fun p hp=>(h p hp).1,fun p hp=>let⟨_,n,h1,_,h3⟩:=h p hp;Un h3 h1⟩
 ·intro h p hp;refine⟨h.rng p hp,?_⟩;obtain⟨m,h1,h2,h3⟩:=Qn (c:=fun k=>up w k p < 0) (h.acy p hp);refine⟨m,h1,fun j hj=>⟨h3 j hj,?_⟩,h2⟩;have hq:okN w ((p:Int)):= ⟨by omega,by omega⟩
  obtain⟨k,e,hk⟩:=QN (h.up hq j) (h3 j hj);rw [e];exact h.rng k hk
open Classical in
theorem Zjh {F:Nat} {w:Zb} (hF:1000 <=F) (h8:w.Zv.length <=8) {p:Nat} (hp:p < w.Zv.length) (next:Int ->Option Bool):
 ((ZQ w.Zv (p:Int)).bind fun Ki=>(bif((decide (Ki < (-1))) || (decide (Ki >= (w.Zv.length:Int)))) then some false else loop F (ZfA w (p:Int) next) (0,(p:Int))))=if Chn w p then next ((p + 1:Nat):Int) else some false:=by
 rw [Xt hp];simp only [Bq0];by_cases hr:okN w (inn w p)
 ·have e:(decide (inn w p < (-1)) || decide (inn w p >= (w.Zv.length:Int)))=false:=by
   have h1:=hr.1;have h2:=hr.2;rw [decide_eq_false (by omega),decide_eq_false (by omega)];rfl
  rw [e,Cq0];obtain⟨m,hm,hs,hlt⟩:=Qn (c:=fun k=>up w k p < 0∨k=w.Zv.length∨¬ okN w (inn w (up w k p))) (n:=w.Zv.length) (.inr (.inl rfl))
  have hj:∀ j,j < m ->¬ up w j p < 0∧j ≠ w.Zv.length∧okN w (inn w (up w j p)):=fun j hj=>by
   have:=hlt j hj;refine⟨fun q=>this (.inl q),fun q=>this (.inr (.inl q)),?_⟩;by_cases z:okN w (inn w (up w j p))
   ·exact z
   ·exact absurd (.inr (.inr z)) this
  have hok:∀ j,j <=m ->okN w (up w j p):=fun j hjm=>by
   induction j with
   | zero=>exact⟨by show(-1:Int) <= (p:Int);omega,by show(p:Int) < _;omega⟩
   | succ j ih=>
     have:=hj j (by omega);rw [Qx,if_neg this.1];exact this.2.2
  refine Yj (fun j=>((j:Int),up w j p)) rfl (n:=m) (by omega) (fun j hjm nx=>?_) (fun nx=>?_)
  ·obtain⟨a1,a2,a3⟩:=hj j hjm;obtain⟨k,e,hk⟩:=QN (hok j (by omega)) a1;unfold ZfA;dsimp only;rw [e,Zeq,Cq1,Yz (by omega),decide_eq_false (by omega),Cq0,Xt hk];have e2:inn w (k:Int)=inn w (up w j p):=by rw [e]
   have h1:=a3.1;have h2:=a3.2;simp only [Bq0];rw [e2,decide_eq_false (show ¬ inn w (up w j p) < -1 by omega),Bool.not_false,YI];simp only [Bq0];rw [decide_eq_false (show ¬ inn w (up w j p) >= (w.Zv.length:Int) by omega)];simp only [Bool.or_self,Cq0];rw [Qx,if_neg a1]
  ·by_cases hneg:up w m p < 0
   ·unfold ZfA;dsimp only;rw [decide_eq_false (by omega),Cq0,Yz (by omega),if_pos ⟨hr,m,hm,fun j hjm=>⟨(hj j hjm).1,(hj j hjm).2.2⟩,hneg⟩]
   ·have hnc:¬ Chn w p:=by
     rintro⟨_,n,h1,h2,h3⟩
     have hmn:m < n:=by
      rcases Nat.lt_or_ge m n with z | z
      ·exact z
      ·exact absurd (Un h3 z) hneg
     rcases hs with z | z | z
     ·exact hneg z
     ·omega
     ·exact z (h2 m hmn).2
    rw [if_neg hnc];obtain⟨k,e,hk⟩:=QN (hok m (Nat.le_refl _)) hneg;unfold ZfA;dsimp only;rw [e,Zeq,Cq1,Yz (by omega)];by_cases hml:m=w.Zv.length
    ·rw [decide_eq_true (by omega)];rfl
    ·rw [decide_eq_false (by omega),Cq0,Xt hk]
     have hb:¬ okN w (inn w (k:Int)):=by
      rcases hs with z | z | z
      ·exact absurd z hneg
      ·exact absurd z hml
      ·rwa [e] at z
     simp only [Bq0];by_cases h1:inn w (k:Int) < -1
     ·rw [decide_eq_true h1];rfl
     ·rw [decide_eq_false h1,Bool.not_false,YI];simp only [Bq0]
      rw [decide_eq_true (show inn w (k:Int) >= (w.Zv.length:Int) by
       rcases Int.lt_or_le (inn w (k:Int)) (w.Zv.length:Int) with z | z
       ·exact absurd ⟨by omega,z⟩ hb
       ·exact z)]
      rfl
 ·rw [if_neg (fun q=>hr q.1)]
  have e:(decide (inn w p < (-1)) || decide (inn w p >= (w.Zv.length:Int)))=true:=by
   by_cases h1:inn w p < -1
   ·rw [decide_eq_true h1];rfl
   ·rw [decide_eq_true (show inn w p >= (w.Zv.length:Int) by
     rcases Int.lt_or_le (inn w p) (w.Zv.length:Int) with z | z
     ·exact absurd ⟨by omega,z⟩ hr
     ·exact z),Bool.or_true]
  rw [e];rfl
theorem Zqb {F:Nat} (hF:1000 <=F) (w:Zb):∃ b,Zy2 F w=some b∧(b=true↔WN w∧Inn w):=by
 unfold Zy2;refine QO (fun hc=>⟨false,rfl,?_⟩) (fun hc=>?_)
 ·simp only [Bool.false_eq_true,false_iff];rintro⟨s,_⟩;have:=s.m1;have:=s.m2;have:=s.p1;have:=s.p2;have:=s.bx;have:=s.hd;simp only [Bool.or_eq_true,decide_eq_true_eq,bne_iff_ne] at hc;omega
 ·simp only [Bool.or_eq_false_iff,decide_eq_false_iff_not,bne_eq_false_iff_eq] at hc;obtain⟨⟨⟨⟨⟨a1,a2⟩,a3⟩,a4⟩,a5⟩,a6⟩:=hc;refine JU false (loop F (ZfB F w) 0) (fun k=>(k:Int)) rfl (fun k=>(row w k).length ≠ w.Zv.length) (n:=w.qQ.length) (by omega) (fun k hk=>?_) (fun next=>?_) (fun k hk hc=>?_) (fun hall=>?_)
  ·have hx:ZQ w.qQ (k:Int)=some (row w k):=YN [] hk;by_cases hl:(row w k).length=w.Zv.length
   ·refine .inr ⟨fun next=>?_,fun q=>q hl⟩;unfold ZiH;rw [ZM hk,Cq1,hx];simp only [Bq0];rw [hl,Xl,Cq0,Yz (by omega)]
   ·refine .inl ⟨fun next=>?_,hl⟩;unfold ZiH;rw [ZM hk,Cq1,hx];simp only [Bq0];rw [Ja,decide_eq_true (by omega)];rfl
  ·unfold ZiH;rw [ZT];rfl
  ·simp only [Bool.false_eq_true,false_iff];rintro⟨s,_⟩;exact hc (s.len hk)
  ·have hrow:∀ l ∈ w.qQ,l.length=w.Zv.length:=fun l hl=>by
    obtain⟨k,hk,rfl⟩:=List.getElem_of_mem hl;have:=hall k hk;unfold row at this;rw [List.getD_eq_getElem?_getD,List.getElem?_eq_getElem hk] at this;exact Classical.byContradiction this
   have ZFi:WN w:= ⟨by omega,by omega,by omega,by omega,by omega,by omega,hrow⟩
   refine JU false (some true) (fun k=>(k:Int)) rfl (fun k=>¬ Chn w k) (n:=w.Zv.length) (by omega) (fun k hk=>?_) (fun next=>?_) (fun k hk hc=>?_) (fun ZKV=>⟨true,rfl,?_⟩)
   ·by_cases hch:Chn w k
    ·refine .inr ⟨fun next=>?_,fun q=>q hch⟩;have:=Zjh hF (by omega) hk next;rw [if_pos hch] at this;unfold ZfB;rw [ZM hk,Cq1];exact this
    ·refine .inl ⟨fun next=>?_,hch⟩;have:=Zjh hF (by omega) hk next;rw [if_neg hch] at this;unfold ZfB;rw [ZM hk,Cq1];exact this
   ·unfold ZfB;rw [ZT];rfl
   ·simp only [Bool.false_eq_true,false_iff];rintro⟨_,h⟩;exact hc (Zs8.2 h k hk)
   ·exact⟨fun _=>⟨ZFi,Zs8.1 fun p hp=>Classical.byContradiction (ZKV p hp)⟩,fun _=>rfl⟩
end Go.Proofs.YtbmbbcaaimehkaaGreat
end
section
namespace Go.Proofs.YtbmbbcaaimehkaaGreat
open Go.Lf
abbrev Zsq:Zr:= ⟨0,0,0,0,0⟩
theorem KM (x y:Zr):JB x y=true↔x=y:=by
 unfold JB;cases x;cases y;simp [Zr.mk.injEq]
theorem ZgE (x y:Zw):UF x y=true↔x=y:=by
 unfold UF;cases x;cases y;simp [Zw.mk.injEq]
theorem Zi9 (x y:Ym):ZeB x y=true↔x=y:=by
 unfold ZeB;cases x;cases y;simp [Ym.mk.injEq]
def Pur (x:Ze):Prop:=
 (x.kind=1∧x.place=0∧x.at_=0∧x.age=0∧x.qV= []∧x.Yh= [])∨
 (x.kind=2∧x.place=0∧x.at_=0∧x.age=0∧x.Yi=Zsq∧x.qV ≠ []∧x.qV.length=x.Yh.length)∨
 (x.kind=3∧x.Yi=Zsq∧x.qV= []∧x.Yh= [])
theorem Zgv {α:Type} (l:List α):decide ((l.length:Int) > 0)=true↔l ≠ []:=by
 rw [decide_eq_true_eq]
 constructor
 ·rintro h rfl;simp at h
 ·intro h;have:=List.length_pos_iff.2 h;omega
theorem Zv7 (x:Ze):∃ b,Zuo x=some b∧(b=true↔Pur x):=by
 unfold Zuo Pur
 have nl:∀ l:List Int,decide ((l.length:Int) > 0)=false↔l= []:=fun l=>by
  rw [Bool.eq_false_iff,Ne,Zgv];exact Classical.not_not
 refine QO (fun hc=>⟨_,rfl,?_⟩) (fun hc=>QO (fun hc2=>⟨_,rfl,?_⟩) (fun hc2=>QO (fun hc3=>⟨_,rfl,?_⟩) (fun hc3=>⟨_,rfl,?_⟩)))
 ·have hk:x.kind=1:=by simpa using hc
  simp only [Ba0,Bool.not_eq_true',Bool.or_eq_false_iff,bne_eq_false_iff_eq,nl]
  constructor
  ·rintro⟨⟨⟨a,b⟩,c⟩,d,e⟩;exact .inl ⟨hk,a,b,c,d,e⟩
  ·rintro(⟨_,a,b,c,d,e⟩ | ⟨q,_⟩ | ⟨q,_⟩)
   ·exact⟨⟨⟨a,b⟩,c⟩,d,e⟩
   ·omega
   ·omega
 ·have hk:x.kind=2:=by simpa using hc2
  simp only [Ba0,Bool.not_eq_true',Bool.or_eq_false_iff,bne_eq_false_iff_eq,Bool.not_eq_false',KM,Zgv,beq_iff_eq]
  constructor
  ·rintro⟨⟨⟨⟨⟨a,b⟩,c⟩,d⟩,e⟩,f⟩;exact .inr (.inl ⟨hk,a,b,c,d,e,by omega⟩)
  ·rintro(⟨q,_⟩ | ⟨_,a,b,c,d,e,f⟩ | ⟨q,_⟩)
   ·omega
   ·exact⟨⟨⟨⟨⟨a,b⟩,c⟩,d⟩,e⟩,by omega⟩
   ·omega
 ·have hk:x.kind=3:=by simpa using hc3
  simp only [Ba0,Bool.not_eq_true',Bool.or_eq_false_iff,Bool.not_eq_false',KM,nl]
  constructor
  ·rintro⟨a,b,c⟩;exact .inr (.inr ⟨hk,a,b,c⟩)
  ·rintro(⟨q,_⟩ | ⟨q,_⟩ | ⟨_,a,b,c⟩)
   ·omega
   ·omega
   ·exact⟨a,b,c⟩
 ·simp only [Bool.false_eq_true,false_iff];have h1:x.kind ≠ 1:=by simpa using hc
  have h2:x.kind ≠ 2:=by simpa using hc2
  have h3:x.kind ≠ 3:=by simpa using hc3
  rintro(⟨q,_⟩ | ⟨q,_⟩ | ⟨q,_⟩)
  ·exact h1 q
  ·exact h2 q
  ·exact h3 q
def KR (w:Zb) (x:Ze) (i:Nat):Prop:=
 0 <=x.qV.getD i 0∧x.qV.getD i 0 < (w.Zv.length:Int)∧(0 < i ->x.qV.getD (i - 1) 0 < x.qV.getD i 0)∧1 <=x.Yh.getD i 0∧x.Yh.getD i 0 <=30
def Plc (w:Zb) (x:Ze):Prop:=∀ i,i < x.qV.length ->KR w x i
theorem Zn5 (w:Zb) (x:Ze) {i:Nat} (hi:i < x.qV.length) (ha:i < x.Yh.length) (h9:x.qV.length < 900) {β:Type} (r:β) (next:Option β):
 ((ZQ x.qV (i:Int)).bind fun x112=>(gd ((!((decide (x112 < 0)) || (decide (x112 >= (w.Zv.length:Int))))) && (decide ((i:Int) > 0))) (ZQ x.qV (Xa ((i:Int) - 1))) default).bind fun x115=>(gd (!(((decide (x112 < 0)) || (decide (x112 >= (w.Zv.length:Int)))) || ((decide ((i:Int) > 0)) && (decide (x112 <=x115))))) (ZQ x.Yh (i:Int)) default).bind fun Zdi=>(gd (!((((decide (x112 < 0)) || (decide (x112 >= (w.Zv.length:Int)))) || ((decide ((i:Int) > 0)) && (decide (x112 <=x115)))) || (decide (Zdi < 1)))) (ZQ x.Yh (i:Int)) default).bind fun ZaL=>(bif(((((decide (x112 < 0)) || (decide (x112 >= (w.Zv.length:Int)))) || ((decide ((i:Int) > 0)) && (decide (x112 <=x115)))) || (decide (Zdi < 1))) || (decide (ZaL > 30))) then some r else next))=open Classical in if KR w x i then next else some r:=by
 rw [YN 0 hi];simp only [Bq0]
 have key:∀ (c d e:Bool) (y y2:Int),ZQ x.Yh (i:Int)=some (x.Yh.getD i 0) ->((gd (!(c || d)) (ZQ x.Yh (i:Int)) default).bind fun Zdi=>(gd (!((c || d) || decide (Zdi < 1))) (ZQ x.Yh (i:Int)) default).bind fun ZaL=>(bif(((c || d) || (decide (Zdi < 1))) || (decide (ZaL > 30))) then some r else next))=bif(c || d || decide (x.Yh.getD i 0 < 1) || decide (x.Yh.getD i 0 > 30)) then some r else next:=by
  intro c d e y y2 hg;rw [hg];cases h1:(c || d)
  ·simp only [Bool.not_false,YI,Bq0,Bool.false_or];cases h2:decide (x.Yh.getD i 0 < 1)
   ·simp only [Bool.not_false,YI,Bq0,Bool.false_or]
   ·simp only [Bool.not_true,Xo,Bq0,Bool.true_or,Cq1]
  ·simp only [Bool.not_true,Xo,Bq0,Bool.true_or,Cq1]
 by_cases hz:i=0
 ·subst hz;rw [show decide (((0:Nat):Int) > 0)=false from rfl];simp only [Bool.and_false,Xo,Bq0,Bool.false_and];rw [key _ _ false 0 0 (YN 0 ha)];unfold KR;by_cases hp:0 <=x.qV.getD 0 0∧x.qV.getD 0 0 < (w.Zv.length:Int)∧(0 < 0 ->x.qV.getD (0 - 1) 0 < x.qV.getD 0 0)∧1 <=x.Yh.getD 0 0∧x.Yh.getD 0 0 <=30
  ·rw [if_pos hp];obtain⟨a,b,_,c,d⟩:=hp;rw [decide_eq_false (show ¬ x.qV.getD 0 0 < 0 by omega),decide_eq_false (show ¬ x.qV.getD 0 0 >= (w.Zv.length:Int) by omega),decide_eq_false (show ¬ x.Yh.getD 0 0 < 1 by omega),decide_eq_false (show ¬ x.Yh.getD 0 0 > 30 by omega)];rfl
  ·rw [if_neg hp]
   have:(decide (x.qV.getD 0 0 < 0) || decide (x.qV.getD 0 0 >= (w.Zv.length:Int)) || false || decide (x.Yh.getD 0 0 < 1) || decide (x.Yh.getD 0 0 > 30))=true:=by
    simp only [Bool.or_eq_true,decide_eq_true_eq,Bool.or_false];rcases Int.lt_or_le (x.qV.getD 0 0) 0 with z | z
    ·exact .inl (.inl (.inl z))
    ·rcases Int.lt_or_le (x.qV.getD 0 0) (w.Zv.length:Int) with z2 | z2
     ·rcases Int.lt_or_le (x.Yh.getD 0 0) 1 with z3 | z3
      ·exact .inl (.inr z3)
      ·rcases Int.lt_or_le 30 (x.Yh.getD 0 0) with z4 | z4
       ·exact .inr z4
       ·exact absurd ⟨z,z2,fun q=>absurd q (by omega),z3,z4⟩ hp
     ·exact .inl (.inl (.inr z2))
   rw [this];rfl
 ·have hi0:decide ((i:Int) > 0)=true:=decide_eq_true (by omega)
  have hg1:ZQ x.qV (Xa ((i:Int) - 1))=some (x.qV.getD (i - 1) 0):=by
   rw [Zvv (by omega) (by omega)];exact YN 0 (by omega)
  rw [hi0,hg1];simp only [Bool.and_true,Bool.true_and];have hgd:∀ c:Bool,gd (!c) (some (x.qV.getD (i - 1) 0)) (default:Int)=some (bif c then default else x.qV.getD (i - 1) 0):=fun c=>by cases c <;> rfl
  rw [hgd];simp only [Bq0];rw [key _ _ false 0 0 (YN 0 ha)];unfold KR;by_cases hp:0 <=x.qV.getD i 0∧x.qV.getD i 0 < (w.Zv.length:Int)∧(0 < i ->x.qV.getD (i - 1) 0 < x.qV.getD i 0)∧1 <=x.Yh.getD i 0∧x.Yh.getD i 0 <=30
  ·rw [if_pos hp];obtain⟨a,b,c0,c,d⟩:=hp;have c0:=c0 (by omega);rw [decide_eq_false (show ¬ x.qV.getD i 0 < 0 by omega),decide_eq_false (show ¬ x.qV.getD i 0 >= (w.Zv.length:Int) by omega),decide_eq_false (show ¬ x.Yh.getD i 0 < 1 by omega),decide_eq_false (show ¬ x.Yh.getD i 0 > 30 by omega)];simp only [Bool.or_self,Cq0,Bool.false_or];rw [decide_eq_false (show ¬ x.qV.getD i 0 <=x.qV.getD (i - 1) 0 by omega)];rfl
  ·rw [if_neg hp]
   have:(decide (x.qV.getD i 0 < 0) || decide (x.qV.getD i 0 >= (w.Zv.length:Int)) || decide (x.qV.getD i 0 <=bif decide (x.qV.getD i 0 < 0) || decide (x.qV.getD i 0 >= (w.Zv.length:Int)) then default else x.qV.getD (i - 1) 0) || decide (x.Yh.getD i 0 < 1) || decide (x.Yh.getD i 0 > 30))=true:=by
    rcases Int.lt_or_le (x.qV.getD i 0) 0 with z | z
    ·rw [decide_eq_true z];simp
    ·rcases Int.lt_or_le (x.qV.getD i 0) (w.Zv.length:Int) with z2 | z2
     ·rw [decide_eq_false (show ¬ x.qV.getD i 0 < 0 by omega),decide_eq_false (show ¬ x.qV.getD i 0 >= (w.Zv.length:Int) by omega)];simp only [Bool.or_self,Cq0,Bool.false_or,Bool.or_eq_true,decide_eq_true_eq];rcases Int.lt_or_le (x.qV.getD (i - 1) 0) (x.qV.getD i 0) with z5 | z5
      ·rcases Int.lt_or_le (x.Yh.getD i 0) 1 with z3 | z3
       ·exact .inl (.inr z3)
       ·rcases Int.lt_or_le 30 (x.Yh.getD i 0) with z4 | z4
        ·exact .inr z4
        ·exact absurd ⟨z,z2,fun _=>z5,z3,z4⟩ hp
      ·exact .inl (.inl z5)
     ·rw [decide_eq_true (show x.qV.getD i 0 >= (w.Zv.length:Int) by omega)];simp
   rw [this];rfl
def ZdR (w:Zb) (m p:Nat):Prop:=0 <= (E w m p).age∧(E w m p).age <=30∧0 <= (E w m p).Z8∧(E w m p).Z8 < (w.qQ.length:Int)∧((E w m p).here=true↔(E w m p).Z8= (m:Int))
def ZNQ (w:Zb) (x:Ze):Prop:=x.kind=3 ->0 <=x.place∧x.place < (w.Zv.length:Int)∧x.at_ ≠ x.Z8
structure Zjx (w:Zb) (x:Ze):Prop where
 to1:0 <=x.Z8
 to2:x.Z8 < (w.qQ.length:Int)
 Y7:Pur x
 U4:Plc w x
 ntd:ZNQ w x
structure ShR (w:Zb):Prop where
 KT:WN w
 inn:Inn w
 sd1:0 <=w.said
 sd2:w.said <=40
 ent:∀ m,m < w.qQ.length ->∀ p,p < w.Zv.length ->ZdR w m p
 Xg:∀ x ∈ w.qG,Zjx w x
theorem Pur.len {x:Ze} (h:Pur x):x.Yh.length=x.qV.length:=by
 rcases h with⟨_,_,_,_,a,b⟩ | ⟨_,_,_,_,_,_,a⟩ | ⟨_,_,a,b⟩
 ·rw [a,b]
 ·omega
 ·rw [a,b]
theorem Zoh {F:Nat} {w:Zb} (hF:1000 <=F) (h8:w.Zv.length <=8) (hr:∀ p:Nat,p < w.Zv.length ->okN w (inn w p)) {p:Nat} (hp:p < w.Zv.length) (next:Int ->Option Bool):
 ((ZQ w.Zv (p:Int)).bind fun x25=>loop F (ZiV w (p:Int) next) (x25,0))=open Classical in if(∃ j,j <=w.Zv.length∧up w (j + 1) p= (p:Int)) then some false else next ((p + 1:Nat):Int):=by
 rw [Xt hp];simp only [Bq0]
 have hok:∀ k,okN w (up w k p):=fun k=>by
  induction k with
  | zero=>exact⟨by show(-1:Int) <= (p:Int);omega,by show(p:Int) < _;omega⟩
  | succ k ih=>
    rw [Qx];by_cases h2:up w k p < 0
    ·rw [if_pos h2];exact ih
    ·rw [if_neg h2];obtain⟨j,e,hj⟩:=QN ih h2;rw [e];exact hr j hj
 have e0:(inn w p,(0:Int))= (up w (0 + 1) p,((0:Nat):Int)):=by
  rw [Qx];show _= (if((p:Int)) < 0 then _ else _,_);rw [if_neg (by omega)];rfl
 obtain⟨m,hm,hs,hlt⟩:=Qn (c:=fun k=>w.Zv.length < k∨up w (k + 1) p < 0∨up w (k + 1) p= (p:Int)) (n:=w.Zv.length + 1) (.inl (by omega))
 have hj:∀ j,j < m ->j <=w.Zv.length∧¬ up w (j + 1) p < 0∧up w (j + 1) p ≠ (p:Int):=fun j hj=>by
  have:=hlt j hj
  exact⟨by rcases Nat.lt_or_ge w.Zv.length j with z | z;· exact absurd (.inl z) this
           ·exact z,fun q=>this (.inr (.inl q)),fun q=>this (.inr (.inr q))⟩
 refine Yj (fun j=>(up w (j + 1) p,(j:Int))) e0.symm (n:=m) (by omega) (fun j hjm nx=>?_) (fun nx=>?_)
 ·obtain⟨a1,a2,a3⟩:=hj j hjm;obtain⟨k,e,hk⟩:=QN (hok (j + 1)) a2;unfold ZiV;dsimp only;rw [Qx w (j + 1),if_neg a2];rw [e] at a3 ⊢;rw [decide_eq_true (show(j:Int) <= (w.Zv.length:Int) by omega),Zeq,Bool.and_self,Cq1,Yc,decide_eq_false a3,Cq0,Xt hk];simp only [Bq0];rw [Yz (by omega)]
 ·unfold ZiV;dsimp only;by_cases h1:w.Zv.length < m
  ·rw [decide_eq_false (show ¬ (m:Int) <= (w.Zv.length:Int) by omega),Bool.false_and,Cq0,Yz (by omega),if_neg];rintro⟨j,q1,q2⟩;exact(hj j (by omega)).2.2 q2
  ·by_cases h2:up w (m + 1) p < 0
   ·rw [decide_eq_false (show ¬ up w (m + 1) p >=0 by omega),Bool.and_false,Cq0,Yz (by omega),if_neg];rintro⟨j,q1,q2⟩;rcases Nat.lt_or_ge j m with z | z
    ·exact(hj j z).2.2 q2
    ·have:=Un h2 (show m + 1 <=j + 1 by omega);omega
   ·have h3:up w (m + 1) p= (p:Int):=by rcases hs with z | z | z <;> first | exact absurd z h1 | exact absurd z h2 | exact z
    rw [decide_eq_true (show(m:Int) <= (w.Zv.length:Int) by omega),h3,Zeq,Bool.and_self,Cq1,Yc,decide_eq_true rfl,Cq1,if_pos ⟨m,by omega,h3⟩]
theorem ZtC {F:Nat} (hF:1000 <=F) {w:Zb} (sm:WH 900 w):∃ b,Zy7 F w=some b∧(b=true↔ShR w):=by
 unfold Zy7;refine QO (fun hc=>⟨false,rfl,?_⟩) (fun hc=>?_)
 ·simp only [Bool.false_eq_true,false_iff];intro s;have:=s.KT.m1;have:=s.KT.m2;have:=s.KT.p1;have:=s.KT.p2;have:=s.KT.bx;have:=s.KT.hd;have:=s.sd1;have:=s.sd2;simp only [Bool.or_eq_true,decide_eq_true_eq,bne_iff_ne] at hc;omega
 simp only [Bool.or_eq_false_iff,decide_eq_false_iff_not,bne_eq_false_iff_eq] at hc;obtain⟨⟨⟨⟨⟨⟨⟨a1,a2⟩,a3⟩,a4⟩,a5⟩,a6⟩,a7⟩,a8⟩:=hc;refine JU false (loop F (ZfG F w) 0) (fun k=>(k:Int)) rfl (fun k=>¬ okN w (inn w k)) (n:=w.Zv.length) (by omega) (fun k hk=>?_) (fun next=>?_) (fun k hk hc=>?_) (fun hr=>?_)
 ·by_cases ho:okN w (inn w k)
  ·refine .inr ⟨fun next=>?_,fun q=>q ho⟩;have h1:=ho.1;have h2:=ho.2;unfold ZiW;rw [ZM hk,Cq1,Xt hk];simp only [Bq0];rw [decide_eq_false (by omega),decide_eq_false (by omega),Bool.or_self,Cq0,Yz (by omega)]
  ·refine .inl ⟨fun next=>?_,ho⟩;unfold ZiW;rw [ZM hk,Cq1,Xt hk];simp only [Bq0];by_cases h1:inn w (k:Int) < -1
   ·rw [decide_eq_true h1];rfl
   ·rw [decide_eq_true (show inn w (k:Int) >= (w.Zv.length:Int) by
     rcases Int.lt_or_le (inn w (k:Int)) (w.Zv.length:Int) with z | z
     ·exact absurd ⟨by omega,z⟩ ho
     ·exact z),Bool.or_true];rfl
 ·unfold ZiW;rw [ZT];rfl
 ·simp only [Bool.false_eq_true,false_iff];intro s;exact hc (s.inn.rng k hk)
 have hr:∀ p:Nat,p < w.Zv.length ->okN w (inn w p):=fun p hp=>Classical.byContradiction (hr p hp)
 refine JU false (loop F (ZdC F w) 0) (fun k=>(k:Int)) rfl (fun p=>∃ j,j <=w.Zv.length∧up w (j + 1) p= (p:Int)) (n:=w.Zv.length) (by omega) (fun k hk=>?_) (fun next=>?_) (fun k hk hc=>?_) (fun hac=>?_)
 ·by_cases ho:∃ j,j <=w.Zv.length∧up w (j + 1) k= (k:Int)
  ·refine .inl ⟨fun next=>?_,ho⟩;have:=Zoh hF (by omega) hr hk next;rw [if_pos ho] at this;unfold ZfG;rw [ZM hk,Cq1];exact this
  ·refine .inr ⟨fun next=>?_,ho⟩;have:=Zoh hF (by omega) hr hk next;rw [if_neg ho] at this;unfold ZfG;rw [ZM hk,Cq1];exact this
 ·unfold ZfG;rw [ZT];rfl
 ·simp only [Bool.false_eq_true,false_iff];intro s;obtain⟨j,q1,q2⟩:=hc;exact(Zhj hr).1 s.inn.acy k hk j q1 q2
 have ZPR:Inn w:= ⟨hr,(Zhj hr).2 fun p hp j hj q=>hac p hp ⟨j,hj,q⟩⟩
 refine JU false (loop F (KI F w) 0) (fun k=>(k:Int)) rfl (fun m=>¬ ((row w m).length=w.Zv.length∧∀ p,p < w.Zv.length ->ZdR w m p)) (n:=w.qQ.length) (by omega) (fun m hm=>?_) (fun next=>?_) (fun k hk hc=>?_) (fun hen=>?_)
 ·have hx:ZQ w.qQ (m:Int)=some (row w m):=YN [] hm;by_cases hl:(row w m).length=w.Zv.length
  ·have hgp:∀ p,p < w.Zv.length ->ZQ (row w m) (p:Int)=some (E w m p):=fun p hp=>YN default (by rw [hl];exact hp)
   have step:∀ next:Int ->Option Bool,∀ p,p < w.Zv.length ->∀ nx,ZfF w (m:Int) next (row w m) (p:Int) nx=open Classical in if ZdR w m p then nx ((p + 1:Nat):Int) else some false:=fun next p hp nx=>by
    unfold ZfF;rw [decide_eq_true (show(p:Int) < ((row w m).length:Int) by omega),Cq1,hgp p hp];simp only [Bq0];by_cases he:ZdR w m p
    ·obtain⟨e1,e2,e3,e4,e5⟩:=he
     have e6:((E w m p).here != ((E w m p).Z8== (m:Int)))=false:=by
      rw [bne_eq_false_iff_eq,Bool.eq_iff_iff,e5,beq_iff_eq]
     rw [if_pos ⟨e1,e2,e3,e4,e5⟩,decide_eq_false (by omega),decide_eq_false (by omega),decide_eq_false (by omega),decide_eq_false (by omega),e6];simp only [Bool.or_self,Cq0];rw [Yz (by omega)]
    ·rw [if_neg he]
     have:(decide ((E w m p).age < 0) || decide ((E w m p).age > 30) || decide ((E w m p).Z8 < 0) || decide ((E w m p).Z8 >= (w.qQ.length:Int)) || ((E w m p).here != ((E w m p).Z8== (m:Int))))=true:=by
      rw [← Bool.not_eq_false];intro hf;simp only [Bool.or_eq_false_iff,decide_eq_false_iff_not,bne_eq_false_iff_eq] at hf;obtain⟨⟨⟨⟨q1,q2⟩,q3⟩,q4⟩,q5⟩:=hf;exact he ⟨by omega,by omega,by omega,by omega,by rw [q5,beq_iff_eq]⟩
     rw [this];rfl
   have body:∀ next nx0,ZdC F w (m:Int) next=loop F (ZfF w (m:Int) next (row w m)) nx0∨nx0 ≠ 0:=fun next nx0=>by
    by_cases h0:nx0=0
    ·subst h0;left;unfold ZdC;rw [ZM hm,Cq1,hx];simp only [Bq0];rw [hl,Xl,Cq0]
    ·exact .inr h0
   by_cases hall:∀ p,p < w.Zv.length ->ZdR w m p
   ·refine .inr ⟨fun next=>?_,fun q=>q ⟨hl,hall⟩⟩;rw [(body next 0).resolve_right (fun q=>q rfl)];refine Yj (fun p=>(p:Int)) rfl (n:=w.Zv.length) (by omega) (fun p hp nx=>?_) (fun nx=>?_)
    ·rw [step next p hp nx,if_pos (hall p hp)]
    ·unfold ZfF;rw [decide_eq_false (by omega),Cq0,Yz (by omega)]
   ·refine .inl ⟨fun next=>?_,fun q=>hall q.2⟩;rw [(body next 0).resolve_right (fun q=>q rfl)];have hz:∃ p,p < w.Zv.length∧¬ ZdR w m p:=Classical.byContradiction fun q=>hall fun p hp=>Classical.byContradiction fun q2=>q ⟨p,hp,q2⟩
    obtain⟨p0,hp0⟩:=hz;obtain⟨p1,_,hp1,hlt⟩:=Qn (c:=fun p=>p < w.Zv.length∧¬ ZdR w m p) hp0;refine Yj (fun p=>(p:Int)) rfl (n:=p1) (by omega) (fun p hp nx=>?_) (fun nx=>?_)
    ·rw [step next p (by omega) nx,if_pos (Classical.byContradiction fun q=>hlt p hp ⟨by omega,q⟩)]
    ·rw [step next p1 hp1.1 nx,if_neg hp1.2]
  ·refine .inl ⟨fun next=>?_,fun q=>hl q.1⟩;unfold ZdC;rw [ZM hm,Cq1,hx];simp only [Bq0];rw [Ja,decide_eq_true (by omega)];rfl
 ·unfold ZdC;rw [ZT];rfl
 ·simp only [Bool.false_eq_true,false_iff];intro s;exact hc ⟨s.KT.len hk,s.ent k hk⟩
 have hen:∀ m,m < w.qQ.length ->(row w m).length=w.Zv.length∧∀ p,p < w.Zv.length ->ZdR w m p:=fun m hm=>Classical.byContradiction (hen m hm)
 have ZFi:WN w:= ⟨by omega,by omega,by omega,by omega,by omega,by omega,fun l hl=>by
  obtain⟨k,hk,rfl⟩:=List.getElem_of_mem hl;have:= (hen k hk).1;unfold row at this
  rwa [List.getD_eq_getElem?_getD,List.getElem?_eq_getElem hk] at this⟩
 refine JU false (some true) (fun k=>(k:Int)) rfl (fun k=>∃ h:k < w.qG.length,¬ Zjx w w.qG[k]) (n:=w.qG.length) (by have:=sm.qG;omega) (fun k hk=>?_) (fun next=>?_) (fun k hk hc=>?_) (fun hlt=>⟨true,rfl,?_⟩)
 ·have hwl:=sm.qG;have hx:w.qG[k] ∈ w.qG:=List.getElem_mem hk;obtain⟨s1,s2⟩:=sm.Xg _ hx;generalize hX:w.qG[k]=x at *;have hgx:ZQ w.qG (k:Int)=some x:=by rw [XJ hk,hX]
  have bad:(∀ next,KI F w (k:Int) next=some false)∧¬ Zjx w x∨(∀ next,KI F w (k:Int) next=next ((k + 1:Nat):Int))∧Zjx w x:=by
   obtain⟨pb,hpb,hpi⟩:=Zv7 x;by_cases ht:0 <=x.Z8∧x.Z8 < (w.qQ.length:Int)
   ·have e1:(decide (x.Z8 < 0) || decide (x.Z8 >= (w.qQ.length:Int)))=false:=by
     rw [decide_eq_false (by omega),decide_eq_false (by omega)];rfl
    cases pb with
    | false=>
      have hnp:¬ Pur x:=fun q=>by have:=hpi.2 q;cases this
      refine .inl ⟨fun next=>?_,fun l=>hnp l.Y7⟩;unfold KI;rw [ZM hk,Cq1,hgx];simp only [Bq0];rw [e1,Bool.not_false,YI,hpb];rfl
    | true=>
      have hp:Pur x:=hpi.1 rfl;have hal:=hp.len
      have body:∀ next,KI F w (k:Int) next=loop F (ZfE w (k:Int) next x) 0:=fun next=>by
       unfold KI;rw [ZM hk,Cq1,hgx];simp only [Bq0];rw [e1,Bool.not_false,YI,hpb];rfl
      have step:∀ (next:Int ->Option Bool) (i:Nat),i < x.qV.length ->∀ nx,ZfE w (k:Int) next x (i:Int) nx=open Classical in if KR w x i then nx ((i + 1:Nat):Int) else some false:=fun next i hi nx=>by
       have:=Zn5 w x hi (by omega) s1 false (nx (Xa ((i:Int) + 1)));unfold ZfE;rw [ZM hi,Cq1,this,Yz (by omega)]
      by_cases hpl:Plc w x
      ·have fin:∀ next,KI F w (k:Int) next=bif((x.kind==3) && (((decide (x.place < 0)) || (decide (x.place >= (w.Zv.length:Int)))) || (x.at_==x.Z8))) then some false else next ((k + 1:Nat):Int):=fun next=>by
        rw [body];refine Yj (fun i=>(i:Int)) rfl (n:=x.qV.length) (by omega) (fun i hi nx=>?_) (fun nx=>?_)
        ·rw [step next i hi nx,if_pos (hpl i hi)]
        ·unfold ZfE;rw [ZT,Cq0,Yz (by omega)]
       by_cases hn:ZNQ w x
       ·refine .inr ⟨fun next=>?_,⟨ht.1,ht.2,hp,hpl,hn⟩⟩;rw [fin]
        have:((x.kind==3) && (((decide (x.place < 0)) || (decide (x.place >= (w.Zv.length:Int)))) || (x.at_==x.Z8)))=false:=by
         by_cases h3:x.kind=3
         ·obtain⟨q1,q2,q3⟩:=hn h3;rw [decide_eq_false (by omega),decide_eq_false (by omega),Yc x.at_,decide_eq_false q3];simp
         ·rw [Yc,decide_eq_false h3];rfl
        rw [this];rfl
       ·refine .inl ⟨fun next=>?_,fun l=>hn l.ntd⟩;rw [fin]
        have:((x.kind==3) && (((decide (x.place < 0)) || (decide (x.place >= (w.Zv.length:Int)))) || (x.at_==x.Z8)))=true:=by
         rw [← Bool.not_eq_false];intro hf;apply hn;intro h3;simp only [Bool.and_eq_false_iff,Bool.or_eq_false_iff,decide_eq_false_iff_not,beq_eq_false_iff_ne] at hf;rcases hf with q | ⟨⟨q1,q2⟩,q3⟩
         ·exact absurd h3 q
         ·exact⟨by omega,by omega,q3⟩
        rw [this];rfl
      ·have hz:∃ i,i < x.qV.length∧¬ KR w x i:=Classical.byContradiction fun q=>hpl fun i hi=>Classical.byContradiction fun q2=>q ⟨i,hi,q2⟩
       obtain⟨i0,hi0⟩:=hz;obtain⟨i1,_,hi1,hlt⟩:=Qn (c:=fun i=>i < x.qV.length∧¬ KR w x i) hi0;refine .inl ⟨fun next=>?_,fun l=>hpl l.U4⟩;rw [body];refine Yj (fun i=>(i:Int)) rfl (n:=i1) (by omega) (fun i hi nx=>?_) (fun nx=>?_)
       ·rw [step next i (by omega) nx,if_pos (Classical.byContradiction fun q=>hlt i hi ⟨by omega,q⟩)]
       ·rw [step next i1 hi1.1 nx,if_neg hi1.2]
   ·refine .inl ⟨fun next=>?_,fun l=>ht ⟨l.to1,l.to2⟩⟩
    have e1:(decide (x.Z8 < 0) || decide (x.Z8 >= (w.qQ.length:Int)))=true:=by
     rw [← Bool.not_eq_false];intro hf;simp only [Bool.or_eq_false_iff,decide_eq_false_iff_not] at hf;exact ht ⟨by omega,by omega⟩
    unfold KI;rw [ZM hk,Cq1,hgx];simp only [Bq0];rw [e1,Bool.not_true,Xo];rfl
  rcases bad with⟨b1,b2⟩ | ⟨b1,b2⟩
  ·exact .inl ⟨b1,hk,by rwa [hX]⟩
  ·exact .inr ⟨b1,fun⟨_,q⟩=>by rw [hX] at q;exact q b2⟩
 ·unfold KI;rw [ZT];rfl
 ·simp only [Bool.false_eq_true,false_iff];obtain⟨h,q⟩:=hc;intro s;exact q (s.Xg _ (List.getElem_mem h))
 ·refine⟨fun _=>⟨ZFi,ZPR,by omega,by omega,fun m hm=>(hen m hm).2,fun x hx=>?_⟩,fun _=>rfl⟩;obtain⟨k,hk,rfl⟩:=List.getElem_of_mem hx;exact Classical.byContradiction fun q=>hlt k hk ⟨hk,q⟩
def Zc8 (s:Ym):XG:= ⟨s.machine,s.age,-1,true⟩
def Znk (k:Nat) (s:Ym):XG:= ⟨s.machine,s.age,(k:Int),false⟩
def ZJ (w:Zb) (i:Nat):Ze:=w.qG.getD i default
def Kr (w:Zb) (p k:Nat):List XG:= (List.range k).flatMap fun i=>(Wv (ZJ w i) p (ZJ w i).qV.length).map (Znk i)
def Qz (w:Zb) (p:Nat):List XG:= (Xc w p w.qQ.length).map Zc8 ++ Kr w p w.qG.length
def UU (l:List XG):XG:=l.getLastD ⟨0,0,0,false⟩
theorem Zh3 (l:List XG) (x:XG):UU (l ++ [x])=x:=by unfold UU;simp
theorem Zhr (w:Zb) (p k:Nat):Kr w p (k + 1)=Kr w p k ++ (Wv (ZJ w k) p (ZJ w k).qV.length).map (Znk k):=by
 unfold Kr;rw [List.range_succ,List.flatMap_append];simp
theorem Zkr {w:Zb} {n:Nat} (h:∀ x ∈ w.qG,x.qV.length <=n) (p:Nat):∀ k,k <=w.qG.length ->(Kr w p k).length <=n * k
 | 0,_=>by simp [Kr]
 | k + 1,hk=>by
   have:=Zkr h p k (by omega);have h1:=ZdY (ZJ w k) p (ZJ w k).qV.length;have h2:=h (ZJ w k) (YC (by omega));rw [Zhr,List.length_append,List.length_map,Nat.mul_succ];omega
def stR (l:List XG) (k:Nat):Int×Int×Int×Int×Int×Bool:= ((l.length:Int),(k:Int),(UU l).at_,(UU l).age,(UU l).letter,(UU l).is)
theorem ZtY (l:List XG):XG.mk (UU l).at_ (UU l).age (UU l).letter (UU l).is=UU l:=rfl
theorem ZqF (w:Zb) (p k:Nat):∀ s ∈ Xc w p k,s.here=true:=fun s hs=>by
 unfold Xc at hs;obtain⟨m,_,hm⟩:=List.mem_filterMap.1 hs;by_cases h:(E w m p).here=true
 ·rw [if_pos h] at hm;cases hm;rfl
 ·rw [if_neg h] at hm;cases hm
theorem Zp0 (x:Ze) (p j:Nat):∀ s ∈ Wv x p j,s.here=false:=fun s hs=>by
 unfold Wv at hs;obtain⟨m,_,hm⟩:=List.mem_filterMap.1 hs;by_cases h:x.qV.getD m 0= (p:Int)
 ·rw [if_pos h] at hm;cases hm;rfl
 ·rw [if_neg h] at hm;cases hm
theorem ZoZ {F:Nat} (hF:1000 <=F) {w:Zb} (s:WN w) (hv:∀ x ∈ w.qG,x.Yh.length=x.qV.length∧x.qV.length <=900) (hw:w.qG.length < 900) {p:Nat} (hp:p < w.Zv.length):
 Zre F w (p:Int)=some (UU (Qz w p),decide ((Qz w p).length=1)):=by
 have h0:=s.m2;have hh:=ZcG w p w.qQ.length
 have hlen:∀ k,k <=w.qG.length ->(Kr w p k).length <=900 * 900:=fun k hk=>by
  have:=Zkr (fun x hx=>(hv x hx).2) p k hk;exact Nat.le_trans this (by apply Nat.mul_le_mul (Nat.le_refl _);omega)
 have h1:loop F (ZiU F w (p:Int)) (stR ((Xc w p w.qQ.length).map Zc8) 0)=some (UU (Qz w p),decide ((Qz w p).length=1)):=by
  refine Yj (fun k=>stR ((Xc w p w.qQ.length).map Zc8 ++ Kr w p k) k) (by simp [Kr]) (n:=w.qG.length) (by omega) (fun k hk next=>?_) (fun next=>?_)
  ·have hl:=hlen k (by omega);have hgx:ZQ w.qG (k:Int)=some (ZJ w k):=YN default hk;have hx:ZJ w k ∈ w.qG:=YC hk;obtain⟨v1,v2⟩:=hv _ hx;rw [Zhr];generalize ZJ w k=x at *;have hll:((Xc w p w.qQ.length).map Zc8 ++ Kr w p k).length <=5 + 900 * 900:=by rw [List.length_append,List.length_map];omega
   rw [← List.append_assoc];generalize (Xc w p w.qQ.length).map Zc8 ++ Kr w p k=l at hll ⊢;unfold ZiU;dsimp only [stR];rw [ZM hk,Cq1,hgx];simp only [Bq0];refine Yj (fun j=>stR (l ++ (Wv x p j).map (Znk k)) j) (by simp [Wv,stR]) (n:=x.qV.length) (by omega) (fun j hj ZwF=>?_) (fun ZwF=>?_)
   ·have hl2:=ZdY x p j;rw [Ze0];unfold Zmo;dsimp only [stR];rw [ZM hj,Cq1,YN 0 hj];simp only [Bq0];rw [decide_eq_true (show(j:Int) < (x.Yh.length:Int) by omega),Bool.and_true,Yc,ZaB];unfold ZiS;dsimp only;by_cases hq:x.qV.getD j 0= (p:Int)
    ·rw [if_pos hq,if_pos hq,YN 0 (show j < x.Yh.length by omega)];simp only [Bq0];rw [Yz (by rw [List.length_append,List.length_map];omega),Yz (by omega),List.map_append,← List.append_assoc,List.map_cons,List.map_nil,Zh3];simp [Znk,Int.add_assoc]
    ·rw [if_neg hq,if_neg hq,Yz (by omega),List.append_nil]
   ·unfold Zmo;dsimp only [stR];rw [ZT,Cq0,Yz (by omega)]
  ·unfold ZiU;dsimp only [stR];rw [ZT,Cq0,ZtY,Yc];unfold Qz;congr 2;by_cases h:((Xc w p w.qQ.length).map Zc8 ++ Kr w p w.qG.length).length=1
   ·rw [decide_eq_true h,decide_eq_true (by omega)]
   ·rw [decide_eq_false h,decide_eq_false (by omega)]
 unfold Zre;refine Yj (fun k=>stR ((Xc w p k).map Zc8) k) (by rfl) (n:=w.qQ.length) (by omega) (fun k hk next=>?_) (fun next=>?_)
 ·unfold Zmp;dsimp only [stR];rw [ZM hk,Cq1,s.row hk];simp only [Bq0];rw [s.ent hk hp];simp only [Bq0];have hl:=ZcG w p k;rw [Jz];unfold ZiT;dsimp only;cases hE:(E w k p).here with
  | true=>
    simp only [Cq1,if_true];rw [Yz (by rw [List.length_map];omega),Yz (by omega),List.map_append,List.map_cons,List.map_nil,Zh3];simp [Zc8]
  | false=>
    simp only [Cq0];rw [Yz (by omega)];simp
 ·unfold Zmp;dsimp only [stR];rw [ZT];exact h1
def toS (s:XG):Ym:= ⟨s.at_,s.is,s.age⟩
theorem Zdr {α β:Type} (l:List α) (d:α) (f:α ->List β):(List.range l.length).flatMap (fun i=>f (l.getD i d))=l.flatMap f:=by
 induction l with
 | nil=>rfl
 | cons x l ih=>
   rw [List.length_cons,List.range_succ_eq_map,List.flatMap_cons,List.flatMap_map,List.flatMap_cons];have:(fun a=>f ((x::l).getD a.succ d))=fun a=>f (l.getD a d):=by funext a;simp
   rw [this,ih];rfl
theorem Zsr {w:Zb} (hp:∀ x ∈ w.qG,x.kind=2∨x.qV= []) (p:Nat):(Qz w p).map toS=YB w p:=by
 unfold Qz YB Kr XZ;rw [List.map_append,List.map_map,List.map_flatMap];congr 1
 ·have:∀ s ∈ Xc w p w.qQ.length,(toS ∘ Zc8) s=id s:=fun s hs=>by
   have:=ZqF w p _ s hs;cases s;simp only [Function.comp,Zc8,toS,id] at this ⊢;rw [this]
  rw [List.map_congr_left this,List.map_id]
 ·rw [← Zdr w.qG default];unfold List.flatMap;congr 1;apply List.map_congr_left;intro i hi;have hx:w.qG.getD i default ∈ w.qG:=YC (List.mem_range.1 hi);rw [List.map_map];unfold ZJ;generalize w.qG.getD i default=x at *
  have h1:∀ s ∈ Wv x p x.qV.length,(toS ∘ Znk i) s=id s:=fun s hs=>by
   have:=Zp0 x p _ s hs;cases s;simp only [Function.comp,Znk,toS,id] at this ⊢;rw [this]
  rw [List.map_congr_left h1,List.map_id];unfold WI;rcases hp x hx with h | h
  ·rw [if_pos h]
  ·rw [h];by_cases hk:x.kind=2
   ·rw [if_pos hk]
   ·rw [if_neg hk];simp [Wv]
theorem ZA5 {w:Zb} (hp:∀ x ∈ w.qG,x.kind=2∨x.qV= []) (p:Nat):toS (UU (Qz w p))=WU (YB w p):=by
 rw [← Zsr hp];unfold UU WU;rcases List.eq_nil_or_concat (Qz w p) with h | ⟨l,x,h⟩
 ·rw [h];rfl
 ·rw [h];simp
theorem len_eq {w:Zb} (hp:∀ x ∈ w.qG,x.kind=2∨x.qV= []) (p:Nat):(YB w p).length= (Qz w p).length:=by rw [← Zsr hp,List.length_map]
theorem Pur.two {x:Ze} (h:Pur x):x.kind=2∨x.qV= []:=by
 rcases h with⟨_,_,_,_,a,b⟩ | ⟨a,_⟩ | ⟨_,_,a,b⟩
 ·exact .inr a
 ·exact .inl a
 ·exact .inr a
theorem ShR.two {w:Zb} (h:ShR w):∀ x ∈ w.qG,x.kind=2∨x.qV= []:=fun x hx=>(h.Xg x hx).Y7.two
def MvX (w:Zb) (x:Ze):Prop:=x.kind=1∨x.kind=3∨(x.kind=2∧x.qV ≠ []∧x.Yh.length=x.qV.length∧Plc w x)
theorem Zqn {F:Nat} (hF:1000 <=F) {w:Zb} (sm:WH 900 w):∃ b,Zus F w=some b∧(b=true↔∀ x ∈ w.qG,MvX w x):=by
 unfold Zus;refine JU false (some true) (fun k=>(k:Int)) rfl (fun k=>∃ h:k < w.qG.length,¬ MvX w w.qG[k]) (n:=w.qG.length) (by have:=sm.qG;omega) (fun k hk=>?_) (fun next=>?_) (fun k hk hc=>?_) (fun hlt=>⟨true,rfl,?_⟩)
 ·have hwl:=sm.qG;have hx:w.qG[k] ∈ w.qG:=List.getElem_mem hk;obtain⟨s1,s2⟩:=sm.Xg _ hx;generalize hX:w.qG[k]=x at *;have hgx:ZQ w.qG (k:Int)=some x:=by rw [XJ hk,hX]
  have bad:(∀ next,Zae F w (k:Int) next=some false)∧¬ MvX w x∨(∀ next,Zae F w (k:Int) next=next ((k + 1:Nat):Int))∧MvX w x:=by
   by_cases h1:x.kind=1
   ·refine .inr ⟨fun next=>?_,.inl h1⟩;unfold Zae;rw [ZM hk,Cq1,hgx];simp only [Bq0];rw [h1];show Za4 (k:Int) next ()=_;unfold Za4;rw [Yz (by omega)]
   ·have b0:∀ next,Zae F w (k:Int) next=Zdz F w (k:Int) next x (x.kind==3):=fun next=>by
     unfold Zae;rw [ZM hk,Cq1,hgx];simp only [Bq0];rw [Yc x.kind 1,decide_eq_false h1];rfl
    by_cases h3:x.kind=3
    ·refine .inr ⟨fun next=>?_,.inr (.inl h3)⟩;rw [b0,h3];show Za4 (k:Int) next ()=_;unfold Za4;rw [Yz (by omega)]
    ·by_cases h2:x.kind=2
     ·have b1:∀ next,Zae F w (k:Int) next=bif((decide ((x.qV.length:Int) < 1)) || ((x.Yh.length:Int) != (x.qV.length:Int))) then some false else loop F (ZdA w (k:Int) next x) 0:=fun next=>by
       rw [b0];unfold Zdz;rw [Yc x.kind 3,decide_eq_false h3,Cq0,h2];rfl
      by_cases hl:x.qV ≠ []∧x.Yh.length=x.qV.length
      ·have hpos:=List.length_pos_iff.2 hl.1
       have b2:∀ next,Zae F w (k:Int) next=loop F (ZdA w (k:Int) next x) 0:=fun next=>by
        rw [b1,decide_eq_false (by omega),Ja,decide_eq_false (by omega)];rfl
       have step:∀ (next:Int ->Option Bool) (i:Nat),i < x.qV.length ->∀ nx,ZdA w (k:Int) next x (i:Int) nx=open Classical in if KR w x i then nx ((i + 1:Nat):Int) else some false:=fun next i hi nx=>by
        have:=Zn5 w x hi (by omega) s1 false (nx (Xa ((i:Int) + 1)));unfold ZdA;rw [ZM hi,Cq1,this,Yz (by omega)]
       by_cases hpl:Plc w x
       ·refine .inr ⟨fun next=>?_,.inr (.inr ⟨h2,hl.1,hl.2,hpl⟩)⟩;rw [b2];refine Yj (fun i=>(i:Int)) rfl (n:=x.qV.length) (by omega) (fun i hi nx=>?_) (fun nx=>?_)
        ·rw [step next i hi nx,if_pos (hpl i hi)]
        ·unfold ZdA;rw [ZT,Cq0];unfold Za4;rw [Yz (by omega)]
       ·have hz:∃ i,i < x.qV.length∧¬ KR w x i:=Classical.byContradiction fun q=>hpl fun i hi=>Classical.byContradiction fun q2=>q ⟨i,hi,q2⟩
        obtain⟨i0,hi0⟩:=hz;obtain⟨i1,_,hi1,hlt⟩:=Qn (c:=fun i=>i < x.qV.length∧¬ KR w x i) hi0;refine .inl ⟨fun next=>?_,fun l=>?_⟩
        ·rw [b2];refine Yj (fun i=>(i:Int)) rfl (n:=i1) (by omega) (fun i hi nx=>?_) (fun nx=>?_)
         ·rw [step next i (by omega) nx,if_pos (Classical.byContradiction fun q=>hlt i hi ⟨by omega,q⟩)]
         ·rw [step next i1 hi1.1 nx,if_neg hi1.2]
        ·rcases l with q | q | ⟨_,_,_,q⟩
         ·exact h1 q
         ·exact h3 q
         ·exact hpl q
      ·refine .inl ⟨fun next=>?_,fun l=>?_⟩
       ·rw [b1]
        have:((decide ((x.qV.length:Int) < 1)) || ((x.Yh.length:Int) != (x.qV.length:Int)))=true:=by
         rw [← Bool.not_eq_false];intro hf;simp only [Bool.or_eq_false_iff,decide_eq_false_iff_not,bne_eq_false_iff_eq] at hf;exact hl ⟨List.length_pos_iff.1 (by omega),by omega⟩
        rw [this];rfl
       ·rcases l with q | q | ⟨_,q1,q2,_⟩
        ·exact h1 q
        ·exact h3 q
        ·exact hl ⟨q1,q2⟩
     ·refine .inl ⟨fun next=>?_,fun l=>?_⟩
      ·rw [b0];unfold Zdz;rw [Yc x.kind 3,decide_eq_false h3,Cq0,Yc x.kind 2,decide_eq_false h2];rfl
      ·rcases l with q | q | ⟨q,_⟩
       ·exact h1 q
       ·exact h3 q
       ·exact h2 q
  rcases bad with⟨b1,b2⟩ | ⟨b1,b2⟩
  ·exact .inl ⟨b1,hk,by rwa [hX]⟩
  ·exact .inr ⟨b1,fun⟨_,q⟩=>by rw [hX] at q;exact q b2⟩
 ·unfold Zae;rw [ZT];rfl
 ·simp only [Bool.false_eq_true,false_iff];obtain⟨h,q⟩:=hc;intro s;exact q (s _ (List.getElem_mem h))
 ·refine⟨fun _ x hx=>?_,fun _=>rfl⟩;obtain⟨k,hk,rfl⟩:=List.getElem_of_mem hx;exact Classical.byContradiction fun q=>hlt k hk ⟨hk,q⟩
end Go.Proofs.YtbmbbcaaimehkaaGreat
end
section
namespace Go.Proofs.YtbmbbcaaimehkaaGreat
open Go.Lf
section
variable {β γ:Type} {R:β ->Prop}
theorem Zi5 {body:γ ->(γ ->Option β) ->Option β} (r1:Nat ->β) (r2:Option β) {s0:γ} (S:Nat ->γ) (h0:S 0=s0) (c:Nat ->Prop) {n F:Nat} (hF:n < F)
 (hb:∀ k,k < n ->((∀ next,body (S k) next=some (r1 k))∧c k)∨((∀ next,body (S k) next=next (S (k + 1)))∧¬ c k)) (he:∀ next,body (S n) next=r2)
 (h1:∀ k,k < n ->c k ->R (r1 k)) (h2:(∀ k,k < n ->¬ c k) ->∃ b,r2=some b∧R b):∃ b,loop F body s0=some b∧R b:=by
 by_cases hz:∃ k,k < n∧c k
 ·obtain⟨k0,hk0⟩:=hz;obtain⟨m,hm,⟨hmn,hcm⟩,hlt⟩:=Qn (c:=fun k=>k < n∧c k) hk0;refine⟨r1 m,Yj S h0 (n:=m) (by omega) (fun k hk=>?_) ?_,h1 m hmn hcm⟩
  ·rcases hb k (by omega) with⟨_,q⟩ | ⟨q,_⟩
   ·exact absurd ⟨by omega,q⟩ (hlt k hk)
   ·exact q
  ·rcases hb m hmn with⟨q,_⟩ | ⟨_,q⟩
   ·exact q
   ·exact absurd hcm q
 ·have hno:∀ k,k < n ->¬ c k:=fun k hk q=>hz ⟨k,hk,q⟩
  obtain⟨b,e,hR⟩:=h2 hno;refine⟨b,?_,hR⟩;rw [← e];exact Yj S h0 hF (fun k hk=>(hb k hk).elim (fun q=>absurd q.2 (hno k hk)) fun q=>q.1) he
end
theorem Zag {F:Nat} (hF:1000 <=F) {l:List Int} (hl:l.length <=900) (x:Int):∃ b,Zo4 F l x=some b∧(b=true↔x ∈ l):=by
 have:∃ k,ZyQ F l x=some k∧(0 <=k↔x ∈ l):=by
  unfold ZyQ;refine Zi5 (fun k=>(k:Int)) (some (-1)) (fun k=>(k:Int)) rfl (fun k=>∃ h:k < l.length,x=l[k]) (n:=l.length) (by omega) (fun k hk=>?_) (fun next=>?_) (fun k hk hc=>?_) (fun hno=>⟨-1,rfl,?_⟩)
  ·by_cases h:x=l[k]
   ·refine .inl ⟨fun next=>?_,hk,h⟩;unfold Zix;rw [ZM hk,Cq1,XJ hk];simp only [Bq0];rw [Yc,decide_eq_true h];rfl
   ·refine .inr ⟨fun next=>?_,fun⟨_,q⟩=>h q⟩;unfold Zix;rw [ZM hk,Cq1,XJ hk];simp only [Bq0];rw [Yc,decide_eq_false h,Cq0,Yz (by omega)]
  ·unfold Zix;rw [ZT];rfl
  ·obtain⟨h,e⟩:=hc;exact⟨fun _=>e ▸ List.getElem_mem h,fun _=>by omega⟩
  ·refine⟨fun q=>absurd q (by omega),fun q=>?_⟩;obtain⟨k,hk,e⟩:=List.getElem_of_mem q;exact absurd ⟨hk,e.symm⟩ (hno k hk)
 obtain⟨k,h1,h2⟩:=this;refine⟨decide (k >=0),?_,?_⟩
 ·unfold Zo4;rw [h1];rfl
 ·rw [decide_eq_true_eq];exact h2
def Zjw (w:Zb) (p q:Int):Prop:=∃ x ∈ w.qG,x.kind=2∧p ∈ x.qV∧q ∈ x.qV
theorem ZtI {F:Nat} (hF:1000 <=F) {w:Zb} (sm:WH 900 w) (l:List Ym) (p q:Int):∃ b,Zra F ⟨w,l⟩ p q=some b∧(b=true↔Zjw w p q):=by
 unfold Zra;have hwl:=sm.qG;refine Zi5 (fun _=>true) (some false) (fun k=>(k:Int)) rfl (fun k=>∃ h:k < w.qG.length,(w.qG[k]).kind=2∧p ∈ (w.qG[k]).qV∧q ∈ (w.qG[k]).qV) (n:=w.qG.length) (by omega) (fun k hk=>?_) (fun next=>?_) (fun k hk hc=>?_) (fun hno=>⟨false,rfl,?_⟩)
 ·have hx:w.qG[k] ∈ w.qG:=List.getElem_mem hk;obtain⟨s1,s2⟩:=sm.Xg _ hx;obtain⟨b1,e1,i1⟩:=Zag (F:=F) hF (l:=w.qG[k].qV) (by omega) p;obtain⟨b2,e2,i2⟩:=Zag (F:=F) hF (l:=w.qG[k].qV) (by omega) q
  have hb:∀ next,Ziz F ⟨w,l⟩ p q (k:Int) next=bif(((w.qG[k].kind==2) && b1) && b2) then some true else next ((k + 1:Nat):Int):=fun next=>by
   unfold Ziz;rw [ZM hk,Cq1,XJ hk];simp only [Bq0];rw [e1,e2];cases h2:(w.qG[k].kind==2)
   ·simp only [Xo,Bq0,Bool.false_and,Cq0];rw [Yz (by omega)]
   ·simp only [YI,Bq0,Bool.true_and];cases b1
    ·simp only [Xo,Bq0,Bool.false_and,Cq0];rw [Yz (by omega)]
    ·simp only [YI,Bq0,Bool.true_and];cases b2
     ·simp only [Cq0];rw [Yz (by omega)]
     ·simp only [Cq1];unfold Ziy;rw [Zeq]
  by_cases hc:w.qG[k].kind=2∧p ∈ w.qG[k].qV∧q ∈ w.qG[k].qV
  ·refine .inl ⟨fun next=>?_,hk,hc⟩;rw [hb,Yc,decide_eq_true hc.1,i1.2 hc.2.1,i2.2 hc.2.2];rfl
  ·refine .inr ⟨fun next=>?_,fun⟨_,z⟩=>hc z⟩;rw [hb]
   have:(((w.qG[k].kind==2) && b1) && b2)=false:=by
    rw [← Bool.not_eq_true];intro z;simp only [Ba0,beq_iff_eq] at z;exact hc ⟨z.1.1,i1.1 z.1.2,i2.1 z.2⟩
   rw [this];rfl
 ·unfold Ziz;rw [ZT];rfl
 ·obtain⟨h,z⟩:=hc;exact⟨fun _=>⟨_,List.getElem_mem h,z⟩,fun _=>rfl⟩
 ·simp only [Bool.false_eq_true,false_iff];rintro⟨x,hx,z⟩;obtain⟨k,hk,rfl⟩:=List.getElem_of_mem hx;exact hno k hk ⟨hk,z⟩
def sp (w:Zb) (p:Nat):Ym:=WU (YB w p)
def spL (w:Zb):List Ym:= (List.range w.Zv.length).map (sp w)
def ZH4 (w:Zb) (p:Nat):Prop:= (YB w p).length=1∧(0 <=inn w p ->(sp w (inn w p).toNat).machine= (sp w p).machine∧(sp w (inn w p).toNat).here= (sp w p).here∧((sp w p).here=false ->Zjw w p (inn w p)))
def spK (w:Zb) (k:Nat):List Ym:= (List.range k).map (sp w) ++ List.replicate (w.Zv.length - k) ⟨0,false,0⟩
theorem Zr4 {w:Zb} {k:Nat} (h:k < w.Zv.length):Yr (spK w k) (k:Int) (sp w k)=spK w (k + 1):=by
 unfold Yr spK;rw [Int.toNat_natCast,List.set_append_right _ _ (by simp),List.range_succ,List.map_append,List.append_assoc];congr 1;rw [List.length_map,List.length_range,Nat.sub_self,show w.Zv.length - k= (w.Zv.length - (k + 1)) + 1 by omega,List.replicate_succ,List.set_cons_zero];rfl
theorem ZAN {w:Zb} {k:Nat} (h:k <=w.Zv.length):(spK w k).length=w.Zv.length:=by simp [spK];omega
theorem ZAO (w:Zb):spK w w.Zv.length=spL w:=by simp [spK,spL]
theorem MvX.mvd {w:Zb} (sm:WH 900 w) (h:∀ x ∈ w.qG,MvX w x):Mvd 900 w.qG:=fun x hx hk=>by
 rcases h x hx with q | q | ⟨_,_,q,_⟩
 ·omega
 ·omega
 ·exact⟨q,by have:= (sm.Xg x hx).1;omega⟩
theorem ZjJ {F:Nat} (hF:1000 <=F) (hM:F <=1000000) {w:Zb} (s:WN w) (hi:Inn w) (sm:WH 900 w) (hv:Mvd 900 w.qG):
 ∃ x,Zy1 F ⟨w,List.replicate w.Zv.length ⟨0,false,0⟩⟩=some x∧((x.2=true↔∀ p,p < w.Zv.length ->ZH4 w p)∧(x.2=true ->x.1= ⟨w,spL w⟩)):=by
 have h8:=s.p2;have hwh:∀ p,p < w.Zv.length ->ZdB F w (p:Int)=some (sp w p,((YB w p).length:Int)):=fun p hp=>Zhq hF hM s hv sm.qG hp
 unfold Zy1
 let l1:Nat ->List Ym:=fun k=>if(YB w k).length=1 then spK w (k + 1) else spK w k
 refine Zi5 (fun k=>(⟨w,l1 k⟩,false)) (some (⟨w,spL w⟩,true)) (fun k=>((k:Int),spK w k)) (by simp [spK]) (fun k=>¬ ZH4 w k) (n:=w.Zv.length) (by omega) (fun k hk=>?_) (fun next=>?_) (fun k hk hc=>?_) (fun hno=>⟨_,rfl,?_⟩)
 ·have hok:=hi.rng k hk
  have b0:∀ next,Zfz F ⟨w,List.replicate w.Zv.length ⟨0,false,0⟩⟩ ((k:Int),spK w k) next= (bif(((YB w k).length:Int) !=1) then some (⟨w,spK w k⟩,false) else(bif decide (inn w k < 0) then Zb8 (k:Int) next (Yr (spK w k) (k:Int) (sp w k)) else(ZdB F w (inn w k)).bind fun x37=>(gd ((!((x37.1.machine != (sp w k).machine) || (x37.1.here != (sp w k).here))) && (!(sp w k).here)) (Zra F ⟨w,Yr (spK w k) (k:Int) (sp w k)⟩ (k:Int) (inn w k)) default).bind fun x44=>(bif(((x37.1.machine != (sp w k).machine) || (x37.1.here != (sp w k).here)) || ((!(sp w k).here) && (!x44))) then some (⟨w,Yr (spK w k) (k:Int) (sp w k)⟩,false) else Zb8 (k:Int) next (Yr (spK w k) (k:Int) (sp w k))))):=fun next=>by
   unfold Zfz;dsimp only;rw [ZM hk,Cq1,Xt hk];simp only [Bq0];rw [hwh k hk];simp only [Bq0];rw [YN ⟨0,false,0⟩ (show k < (spK w k).length by rw [ZAN (by omega)];exact hk)];simp only [Bq0]
  by_cases h1:(YB w k).length=1
  ·have e1:(((YB w k).length:Int) !=1)=false:=by rw [h1];rfl
   have hl1:l1 k=spK w (k + 1):=if_pos h1;have jn:∀ next,Zb8 (k:Int) next (spK w (k + 1))=next (((k + 1:Nat):Int),spK w (k + 1)):=fun next=>by unfold Zb8;rw [Yz (by omega)]
   by_cases h2:inn w k < 0
   ·refine .inr ⟨fun next=>?_,fun q=>q ⟨h1,fun z=>by omega⟩⟩;rw [b0,e1,Cq0,decide_eq_true h2,Cq1,Zr4 hk,jn]
   ·obtain⟨q,eq,hq⟩:=QN hok h2;obtain⟨b,hb,hbi⟩:=ZtI hF sm (spK w (k + 1)) (k:Int) (inn w k)
    have b1:∀ next,Zfz F ⟨w,List.replicate w.Zv.length ⟨0,false,0⟩⟩ ((k:Int),spK w k) next=bif((((sp w q).machine != (sp w k).machine) || ((sp w q).here != (sp w k).here)) || ((!(sp w k).here) && (!(bif((!(((sp w q).machine != (sp w k).machine) || ((sp w q).here != (sp w k).here))) && (!(sp w k).here)) then b else default)))) then some (⟨w,spK w (k + 1)⟩,false) else next (((k + 1:Nat):Int),spK w (k + 1)):=fun next=>by
     rw [b0,e1,Cq0,decide_eq_false h2,Cq0,Zr4 hk,hb,eq,hwh q hq];simp only [Bq0];have hgd:∀ c:Bool,gd c (some b) (default:Bool)=some (bif c then b else default):=fun c=>by cases c <;> rfl
     rw [hgd];simp only [Bq0];rw [jn]
    have eqn:(inn w k).toNat=q:=by omega
    by_cases ht:(sp w q).machine= (sp w k).machine∧(sp w q).here= (sp w k).here∧((sp w k).here=false ->Zjw w k (inn w k))
    ·refine .inr ⟨fun next=>?_,fun z=>z ⟨h1,fun _=>by rw [eqn];exact ht⟩⟩;rw [b1,ht.1,ht.2.1];simp only [Xl,Bool.or_self,Bool.not_false,Bool.true_and,Bool.false_or];cases hh:(sp w k).here with
     | true=>rfl
     | false=>
       rw [hbi.2 (ht.2.2 hh)];rfl
    ·refine .inl ⟨fun next=>?_,fun z=>ht (by have:=z.2 (by omega);rwa [eqn] at this)⟩;rw [b1,hl1]
     have:((((sp w q).machine != (sp w k).machine) || ((sp w q).here != (sp w k).here)) || ((!(sp w k).here) && (!(bif((!(((sp w q).machine != (sp w k).machine) || ((sp w q).here != (sp w k).here))) && (!(sp w k).here)) then b else default))))=true:=by
      rw [← Bool.not_eq_false];intro hf;rw [Bool.or_eq_false_iff] at hf;obtain⟨hf1,hf2⟩:=hf;rw [hf1] at hf2;rw [Bool.or_eq_false_iff,bne_eq_false_iff_eq,bne_eq_false_iff_eq] at hf1;refine ht ⟨hf1.1,hf1.2,fun hh=>?_⟩;rw [hh] at hf2;simp only [Bool.not_false,Bool.and_self,Cq1,Bool.true_and,Bool.not_eq_false'] at hf2;exact hbi.1 hf2
     rw [this];rfl
  ·refine .inl ⟨fun next=>?_,fun z=>h1 z.1⟩;have hl1:l1 k=spK w k:=if_neg h1;rw [b0,hl1,Ja,decide_eq_true (by omega)];rfl
 ·unfold Zfz;dsimp only;rw [ZT,Cq0,ZAO]
 ·refine⟨?_,fun q=>by cases q⟩;simp only [Bool.false_eq_true,false_iff];intro z;exact hc (z k hk)
 ·exact⟨⟨fun _ p hp=>Classical.byContradiction (hno p hp),fun _=>rfl⟩,fun _=>rfl⟩
def RtX (w:Zb) (p:Nat) (m a:Int):Prop:=0 <=a∧a <= (sp w p).age∧0 <=m∧m < (w.qQ.length:Int)∧(a= (sp w p).age ->m= (sp w p).machine)∧(a ≠ (sp w p).age ->a < (E w m.toNat p).age)
instance (w:Zb) (p:Nat) (m a:Int):Decidable (RtX w p m a):=by unfold RtX;infer_instance
theorem Zr3 {w:Zb} {p:Nat} (hp:p < w.Zv.length):ZQ (spL w) (p:Int)=some (sp w p):=by
 rw [YN default (by simp [spL];exact hp)];simp [spL,hp]
theorem Zdq {w:Zb} (s:WN w) {p:Nat} (hp:p < w.Zv.length) (m a:Int):Zmb ⟨w,spL w⟩ (p:Int) m a=some (decide (RtX w p m a)):=by
 unfold Zmb;rw [Zr3 hp];simp only [Bq0];unfold Zma;dsimp only;by_cases h1:0 <=a∧a <= (sp w p).age
 ·rw [decide_eq_false (show ¬ a < 0 by omega),decide_eq_false (show ¬ a > (sp w p).age by omega)];simp only [Bool.or_self,Bool.not_false,YI,Bq0,Bool.false_or];by_cases h2:0 <=m∧m < (w.qQ.length:Int)
  ·rw [decide_eq_true h2.1,decide_eq_true h2.2];simp only [Bool.and_self,Bool.not_true,Cq0];by_cases h3:a= (sp w p).age
   ·rw [Yc,decide_eq_true h3,Cq1,Yc];congr 1;by_cases h4:m= (sp w p).machine
    ·rw [decide_eq_true h4,decide_eq_true (show RtX w p m a from⟨h1.1,h1.2,h2.1,h2.2,fun _=>h4,fun q=>absurd h3 q⟩)]
    ·rw [decide_eq_false h4,decide_eq_false (fun q:RtX w p m a=>h4 (q.2.2.2.2.1 h3))]
   ·obtain⟨k,rfl⟩:∃ k:Nat,m= (k:Int):= ⟨m.toNat,by omega⟩
    rw [Yc,decide_eq_false h3,Cq0,s.row (by omega)];simp only [Bq0];rw [s.ent (by omega) hp];simp only [Bq0];congr 1;by_cases h4:(E w k p).age > a
    ·rw [decide_eq_true h4,decide_eq_true (show RtX w p (k:Int) a from⟨h1.1,h1.2,h2.1,h2.2,fun q=>absurd q h3,fun _=>h4⟩)]
    ·rw [decide_eq_false h4,decide_eq_false (fun q:RtX w p (k:Int) a=>h4 (q.2.2.2.2.2 h3))]
  ·have:(decide (m >=0) && decide (m < (w.qQ.length:Int)))=false:=by
    rw [← Bool.not_eq_true];intro z;simp only [Ba0,decide_eq_true_eq] at z;exact h2 z
   rw [this,decide_eq_false (fun q:RtX w p m a=>h2 ⟨q.2.2.1,q.2.2.2.1⟩)];rfl
 ·have:(decide (a < 0) || decide (a > (sp w p).age))=true:=by
   rw [← Bool.not_eq_false];intro z;simp only [Bool.or_eq_false_iff,decide_eq_false_iff_not] at z;exact h1 ⟨by omega,by omega⟩
  rw [this,decide_eq_false (fun q:RtX w p m a=>h1 ⟨q.1,q.2.1⟩)];rfl
end Go.Proofs.YtbmbbcaaimehkaaGreat
end
section
namespace Go.Proofs.YtbmbbcaaimehkaaGreat
open Go.Lf
def ZrS (w:Zb) (m p:Nat):Prop:=
 (E w m p= ⟨true,(m:Int),(E w m p).age⟩∧0 <= (E w m p).age∧(E w m p).age <=30)∨
 (E w m p ≠ ⟨true,(m:Int),(E w m p).age⟩∧(E w m p).here=false∧(E w m p).Z8 ≠ (m:Int)∧RtX w p (E w m p).Z8 (E w m p).age)
theorem ZmF {F:Nat} (hF:1000 <=F) {w:Zb} (s:WN w):∃ b,Zur F ⟨w,spL w⟩=some b∧(b=true↔∀ m,m < w.qQ.length ->∀ p,p < w.Zv.length ->ZrS w m p):=by
 have h5:=s.m2;have h8:=s.p2;unfold Zur;refine JU false (some true) (fun k=>(k:Int)) rfl (fun m=>¬ ∀ p,p < w.Zv.length ->ZrS w m p) (n:=w.qQ.length) (by omega) (fun m hm=>?_) (fun next=>?_) (fun k hk hc=>?_) (fun hno=>⟨true,rfl,fun _ m hm=>Classical.byContradiction (hno m hm),fun _=>rfl⟩)
 ·have b0:∀ next,ZiG F ⟨w,spL w⟩ (m:Int) next=loop F (Zfy ⟨w,spL w⟩ (m:Int) next (row w m)) 0:=fun next=>by
   unfold ZiG;rw [ZM hm,Cq1,s.row hm];rfl
  have step:∀ (next:Int ->Option Bool) (p:Nat),p < w.Zv.length ->∀ nx,Zfy ⟨w,spL w⟩ (m:Int) next (row w m) (p:Int) nx=open Classical in if ZrS w m p then nx ((p + 1:Nat):Int) else some false:=fun next p hp nx=>by
   unfold Zfy;rw [s.len hm,ZM hp,Cq1,s.ent hm hp];simp only [Bq0];have hj:Zfx (p:Int) nx ()=nx ((p + 1:Nat):Int):=by unfold Zfx;rw [Yz (by omega)]
   by_cases he:E w m p= ⟨true,(m:Int),(E w m p).age⟩
   ·rw [(ZgE _ _).2 he,Cq1];by_cases ha:0 <= (E w m p).age∧(E w m p).age <=30
    ·rw [if_pos (.inl ⟨he,ha⟩),decide_eq_false (by omega),decide_eq_false (by omega),Bool.or_self,Cq0,hj]
    ·have:(decide ((E w m p).age < 0) || decide ((E w m p).age > 30))=true:=by
      rw [← Bool.not_eq_false];intro z;simp only [Bool.or_eq_false_iff,decide_eq_false_iff_not] at z;exact ha ⟨by omega,by omega⟩
     rw [this,if_neg (by rintro(⟨_,q⟩ | ⟨q,_⟩);· exact ha q
                         ·exact q he)];rfl
   ·have e1:UF (E w m p) ⟨true,(m:Int),(E w m p).age⟩=false:=by rw [← Bool.not_eq_true,ZgE];exact he
    rw [e1,Cq0];by_cases h2:(E w m p).here=false∧(E w m p).Z8 ≠ (m:Int)
    ·have e2:((E w m p).here || ((E w m p).Z8== (m:Int)))=false:=by rw [h2.1,Yc,decide_eq_false h2.2];rfl
     rw [e2,Bool.not_false,YI,Zdq s hp];simp only [Bq0,Bool.false_or];by_cases h3:RtX w p (E w m p).Z8 (E w m p).age
     ·rw [decide_eq_true h3,if_pos (.inr ⟨he,h2.1,h2.2,h3⟩),Bool.not_true,Cq0,hj]
     ·rw [decide_eq_false h3,if_neg (by rintro(⟨q,_⟩ | ⟨_,_,_,q⟩);· exact he q
                                        ·exact h3 q)];rfl
    ·have e2:((E w m p).here || ((E w m p).Z8== (m:Int)))=true:=by
      rw [← Bool.not_eq_false];intro z;simp only [Bool.or_eq_false_iff,beq_eq_false_iff_ne] at z;exact h2 z
     rw [e2,if_neg (by rintro(⟨q,_⟩ | ⟨_,q1,q2,_⟩);· exact he q
                       ·exact h2 ⟨q1,q2⟩)];rfl
  by_cases hall:∀ p,p < w.Zv.length ->ZrS w m p
  ·refine .inr ⟨fun next=>?_,fun q=>q hall⟩;rw [b0];refine Yj (fun p=>(p:Int)) rfl (n:=w.Zv.length) (by omega) (fun p hp nx=>?_) (fun nx=>?_)
   ·rw [step next p hp nx,if_pos (hall p hp)]
   ·unfold Zfy;rw [s.len hm,ZT,Cq0,Yz (by omega)]
  ·refine .inl ⟨fun next=>?_,hall⟩;have hz:∃ p,p < w.Zv.length∧¬ ZrS w m p:=Classical.byContradiction fun q=>hall fun p hp=>Classical.byContradiction fun q2=>q ⟨p,hp,q2⟩
   obtain⟨p0,hp0⟩:=hz;obtain⟨p1,_,hp1,hlt⟩:=Qn (c:=fun p=>p < w.Zv.length∧¬ ZrS w m p) hp0;rw [b0];refine Yj (fun p=>(p:Int)) rfl (n:=p1) (by omega) (fun p hp nx=>?_) (fun nx=>?_)
   ·rw [step next p (by omega) nx,if_pos (Classical.byContradiction fun q=>hlt p hp ⟨by omega,q⟩)]
   ·rw [step next p1 hp1.1 nx,if_neg hp1.2]
 ·unfold ZiG;rw [ZT];rfl
 ·simp only [Bool.false_eq_true,false_iff];intro z;exact hc (z k hk)
def QW (w:Zb) (m:Int) (y:Zr):Prop:=0 <=y.place∧y.place < (w.Zv.length:Int)∧0 <=y.from_∧y.from_ < (w.qQ.length:Int)∧RtX w y.place.toNat m y.age∧1 <=y.hops∧y.hops <=Xa (1 + y.age)
theorem ZkE {w:Zb} (s:WN w) (m:Int) (y:Zr):∃ b,Zup ⟨w,spL w⟩ m y=some b∧(b=true↔QW w m y):=by
 unfold Zup Zq6 Zma;simp only [Bq0];by_cases h1:0 <=y.place∧y.place < (w.Zv.length:Int)
 ·obtain⟨p,hp⟩:∃ p:Nat,y.place= (p:Int):= ⟨y.place.toNat,by omega⟩
  have hpl:p < w.Zv.length:=by omega
  rw [hp,decide_eq_true (show(p:Int) >=0 by omega),decide_eq_true (show(p:Int) < (w.Zv.length:Int) by omega)];simp only [Bool.and_self,YI,Bq0,Bool.true_and];by_cases h2:0 <=y.from_∧y.from_ < (w.qQ.length:Int)
  ·rw [decide_eq_true h2.1,decide_eq_true h2.2];simp only [Bool.and_self,YI,Bq0,Bool.true_and];rw [Zdq s hpl];refine⟨_,rfl,?_⟩;simp only [Ba0,decide_eq_true_eq];unfold QW;rw [hp,Int.toNat_natCast]
   constructor
   ·rintro⟨⟨a,b⟩,c⟩;exact⟨by omega,by omega,h2.1,h2.2,a,b,c⟩
   ·rintro⟨_,_,_,_,a,b,c⟩;exact⟨⟨a,b⟩,c⟩
  ·have:(decide (y.from_ >=0) && decide (y.from_ < (w.qQ.length:Int)))=false:=by
    rw [← Bool.not_eq_true];intro z;simp only [Ba0,decide_eq_true_eq] at z;exact h2 z
   rw [this];refine⟨_,rfl,?_⟩;simp only [Bool.false_and,Bool.false_eq_true,false_iff];rintro⟨_,_,a,b,_⟩;exact h2 ⟨a,b⟩
 ·have:(decide (y.place >=0) && decide (y.place < (w.Zv.length:Int)))=false:=by
   rw [← Bool.not_eq_true];intro z;simp only [Ba0,decide_eq_true_eq] at z;exact h1 z
  rw [this];refine⟨_,rfl,?_⟩;simp only [Bool.false_and,Bool.false_eq_true,false_iff];rintro⟨a,b,_⟩;exact h1 ⟨a,b⟩
def Zz7 (w:Zb) (x:Ze):Prop:=0 <=x.Z8∧x.Z8 < (w.qQ.length:Int)∧(x.kind ≠ 2 ->x.qV= []∧x.Yh= [])∧
 (x.kind=1 ->QW w x.Z8 x.Yi∧x.place=0∧x.at_=0∧x.age=0)∧
 (x.kind=3 ->x.at_ ≠ x.Z8∧0 <=x.place∧x.place < (w.Zv.length:Int)∧RtX w x.place.toNat x.at_ x.age∧x.Yi=Zsq)∧
 (x.kind ≠ 1 ->x.kind ≠ 3 ->x.Yi=Zsq∧x.place=0∧x.at_=0∧x.age=0)
theorem Zok {w:Zb} (s:WN w) {x:Ze} (h9:x.qV.length <=900∧x.Yh.length <=900):∃ b,Zy0 ⟨w,spL w⟩ x=some b∧(b=true↔Zz7 w x):=by
 unfold Zy0 Zma;simp only [Bq0];refine QO (fun hc=>⟨false,rfl,?_⟩) (fun hc=>?_)
 ·simp only [Bool.false_eq_true,false_iff];rintro⟨a,b,_⟩;rw [decide_eq_true (show x.Z8 >=0 from a),decide_eq_true b] at hc;cases hc
 simp only [Bool.not_eq_false',Ba0,decide_eq_true_eq] at hc;refine QO (fun hc2=>⟨false,rfl,?_⟩) (fun hc2=>?_)
 ·simp only [Bool.false_eq_true,false_iff];rintro⟨_,_,a,_⟩;simp only [Ba0,bne_iff_ne,decide_eq_true_eq] at hc2;obtain⟨a1,a2⟩:=a hc2.1;rw [a1,a2] at hc2;exact absurd hc2.2 (by decide)
 have hk2:x.kind ≠ 2 ->x.qV= []∧x.Yh= []:=fun hk=>by
  rw [Ja,decide_eq_true hk,Bool.true_and,decide_eq_false_iff_not,Zby (by omega) (by omega)] at hc2;exact⟨List.length_eq_zero_iff.1 (by omega),List.length_eq_zero_iff.1 (by omega)⟩
 have hj:∀ a b c d e f g h,Zfw x (a,b,c,d,e,f,g,h)=some ((((JB (Zr.mk a b c d e) x.Yi) && (f==x.place)) && (g==x.at_)) && (h==x.age)):=fun _ _ _ _ _ _ _ _=>rfl
 refine QO (fun h1=>?_) (fun h1=>?_)
 ·have h1:x.kind=1:=by simpa using h1
  obtain⟨b,hb,hbi⟩:=ZkE s x.Z8 x.Yi;rw [hb];simp only [Bq0];refine QO (fun h2=>⟨false,rfl,?_⟩) (fun h2=>⟨_,hj _ _ _ _ _ _ _ _,?_⟩)
  ·simp only [Bool.false_eq_true,false_iff];rintro⟨_,_,_,a,_⟩;rw [hbi.2 (a h1).1] at h2;cases h2
  ·have h2:QW w x.Z8 x.Yi:=hbi.1 (by simpa using h2);simp only [Ba0,KM,beq_iff_eq]
   constructor
   ·rintro⟨⟨⟨_,a⟩,b⟩,c⟩;exact⟨hc.1,hc.2,hk2,fun _=>⟨h2,a.symm,b.symm,c.symm⟩,fun q=>by omega,fun q=>absurd h1 q⟩
   ·rintro⟨_,_,_,a,_⟩;obtain⟨_,a1,a2,a3⟩:=a h1;exact⟨⟨⟨trivial,a1.symm⟩,a2.symm⟩,a3.symm⟩
 have h1:x.kind ≠ 1:=by simpa using h1
 refine QO (fun h3=>?_) (fun h3=>?_)
 ·have h3:x.kind=3:=by simpa using h3
  unfold Zq6;dsimp only;by_cases hat:x.at_=x.Z8
  ·rw [hat,Yc,decide_eq_true rfl];refine⟨false,rfl,?_⟩;simp only [Bool.false_eq_true,false_iff];rintro⟨_,_,_,_,a,_⟩;exact(a h3).1 hat
  ·rw [Yc,decide_eq_false hat];simp only [Bool.not_false,YI,Bq0,Bool.false_or];by_cases hp:0 <=x.place∧x.place < (w.Zv.length:Int)
   ·rw [decide_eq_true (show x.place >=0 from hp.1),decide_eq_true hp.2];obtain⟨p,ep⟩:∃ p:Nat,x.place= (p:Int):= ⟨x.place.toNat,by omega⟩
    simp only [Bool.and_self,Bool.not_true,Bool.not_false,YI,Bool.false_or];rw [show Zmb ⟨w,spL w⟩ x.place x.at_ x.age=some (decide (RtX w x.place.toNat x.at_ x.age)) by rw [ep,Zdq s (by omega),Int.toNat_natCast]];simp only [Bq0];refine QO (fun h4=>⟨false,rfl,?_⟩) (fun h4=>⟨_,hj _ _ _ _ _ _ _ _,?_⟩)
    ·simp only [Bool.false_eq_true,false_iff];rintro⟨_,_,_,_,a,_⟩;rw [decide_eq_true (a h3).2.2.2.1] at h4;cases h4
    ·have h4:RtX w x.place.toNat x.at_ x.age:=by simpa using h4
     simp only [Ba0,KM,beq_iff_eq]
     constructor
     ·rintro⟨⟨⟨a,_⟩,_⟩,_⟩;exact⟨hc.1,hc.2,hk2,fun q=>absurd q h1,fun _=>⟨hat,hp.1,hp.2,h4,a.symm⟩,fun _ q=>absurd h3 q⟩
     ·rintro⟨_,_,_,_,a,_⟩;exact⟨⟨⟨(a h3).2.2.2.2.symm,trivial⟩,trivial⟩,trivial⟩
   ·have:(decide (x.place >=0) && decide (x.place < (w.Zv.length:Int)))=false:=by
     rw [← Bool.not_eq_true];intro z;simp only [Ba0,decide_eq_true_eq] at z;exact hp z
    rw [this];refine⟨false,rfl,?_⟩;simp only [Bool.false_eq_true,false_iff];rintro⟨_,_,_,_,a,_⟩;exact hp ⟨(a h3).2.1,(a h3).2.2.1⟩
 have h3:x.kind ≠ 3:=by simpa using h3
 refine⟨_,hj _ _ _ _ _ _ _ _,?_⟩;simp only [Ba0,KM,beq_iff_eq]
 constructor
 ·rintro⟨⟨⟨a,b⟩,c⟩,d⟩;exact⟨hc.1,hc.2,hk2,fun q=>absurd q h1,fun q=>absurd q h3,fun _ _=>⟨a.symm,b.symm,c.symm,d.symm⟩⟩
 ·rintro⟨_,_,_,_,_,a⟩;obtain⟨a1,a2,a3,a4⟩:=a h1 h3;exact⟨⟨⟨a1.symm,a2.symm⟩,a3.symm⟩,a4.symm⟩
def Q0 (l:List Ze):List Int:= (l.filter fun x=>x.kind==1).map fun x=>x.Yi.msg
def QA (l:List (List Zr)):List Int:=l.flatMap fun x=>x.map fun y=>y.msg
def msgs (w:Zb):List Int:=w.qK.flatten ++ QA w.qJ ++ Q0 w.qG
theorem ZcI {α:Type} {l:List (List α)} {k:Nat} (h:k < l.length):(l.take (k + 1)).flatten= (l.take k).flatten ++ l[k]:=by
 rw [List.take_add_one,List.getElem?_eq_getElem h,List.flatten_append];simp
theorem Za1 {l:List (List Zr)} {k:Nat} (h:k < l.length):QA (l.take (k + 1))=QA (l.take k) ++ l[k].map fun y=>y.msg:=by
 unfold QA;rw [List.take_add_one,List.getElem?_eq_getElem h,List.flatMap_append];simp
theorem Zgt {l:List Ze} {k:Nat} (h:k < l.length):Q0 (l.take (k + 1))=Q0 (l.take k) ++ if l[k].kind=1 then [l[k].Yi.msg] else []:=by
 unfold Q0;rw [List.take_add_one,List.getElem?_eq_getElem h,List.filter_append,List.map_append];congr 1;by_cases hk:l[k].kind=1
 ·rw [if_pos hk];simp [hk]
 ·rw [if_neg hk];simp [hk]
theorem Zb7 {α:Type} {l:List (List α)} {n:Nat} (h:∀ x ∈ l,x.length <=n):l.flatten.length <=n * l.length:=by
 induction l with
 | nil=>simp
 | cons x l ih=>
   have:=ih fun y hy=>h y (by simp [hy])
   have:=h x (by simp);rw [List.flatten_cons,List.length_append,List.length_cons,Nat.mul_succ];omega
theorem Zuc {l:List (List Zr)} {n:Nat} (h:∀ x ∈ l,x.length <=n):(QA l).length <=n * l.length:=by
 induction l with
 | nil=>simp [QA]
 | cons x l ih=>
   have:=ih fun y hy=>h y (by simp [hy])
   have:=h x (by simp);unfold QA at *;rw [List.flatMap_cons,List.length_append,List.length_map,List.length_cons,Nat.mul_succ];omega
theorem Zqq (l:List Ze):(Q0 l).length <=l.length:=by
 unfold Q0;rw [List.length_map];exact List.length_filter_le _ _
theorem ZrE {xs ys:List Int} (h:xs.length + ys.length <=1000000):app 8 xs ys=some (xs ++ ys):=ZmZ h (by decide)
structure BdM (w:Zb):Prop where
 b:w.qK.flatten.length <=160000
 h:(QA w.qJ).length <=160000
 m:(Q0 w.qG).length <=400
theorem BdM.of {w:Zb} (sm:WH 400 w):BdM w:=by
 have h1:=Zb7 (n:=400) fun x hx=>Nat.le_of_lt (sm.box x hx)
 have h2:=Zuc (n:=400) fun x hx=>Nat.le_of_lt (sm.hel x hx)
 have h3:=Zqq w.qG;have:=sm.qK;have:=sm.qJ;have:=sm.qG;exact⟨by omega,by omega,by omega⟩
theorem W9 {α:Type} (l:List (List α)) (k:Nat):(l.take k).flatten.length <=l.flatten.length:=by
 have:=congrArg (fun z=>z.flatten.length) (List.take_append_drop k l);simp only [List.flatten_append,List.length_append] at this;omega
theorem Wj (l:List (List Zr)) (k:Nat):(QA (l.take k)).length <= (QA l).length:=by
 have:=congrArg (fun z=>(QA z).length) (List.take_append_drop k l);simp only [QA,List.flatMap_append,List.length_append] at this ⊢;omega
theorem ZbA (l:List Ze) (k:Nat):(Q0 (l.take k)).length <= (Q0 l).length:=by
 have:=congrArg (fun z=>(Q0 z).length) (List.take_append_drop k l);simp only [Q0,List.filter_append,List.map_append,List.length_append] at this ⊢;omega
def Ub (l:List Int):List Int:=l.mergeSort fun x y=>decide (x <=y)
theorem Znz {l:List Int} (h:l.length <=1000000):Zq8 l=some (Ub l):=by
 unfold Zq8 Ub;rw [Nm0 h];rfl
theorem Zdl (l:List Int):(Ub l).Perm l:=List.mergeSort_perm _ _
theorem Zlh (l:List Int):(Ub l).Pairwise (· <=·):=by
 have:=List.pairwise_mergeSort (le:=fun x y:Int=>decide (x <=y)) (fun a b c h1 h2=>by simp at *;omega) (fun a b=>by simp;omega) l;exact this.imp fun h=>by simpa using h
theorem Zc0 {l l':List Int} (h:l.Perm l') (hs:l'.Pairwise (· <=·)):Ub l=l':=
 List.Perm.eq_of_pairwise (le:= (· <=·)) (fun a b _ _ h1 h2=>by omega) (Zlh l) hs ((Zdl l).trans h)
def Xr (n:Nat):List Int:= (List.range n).map Int.ofNat
theorem ZjL (n:Nat):(Xr n).Pairwise (· <=·):=by
 unfold Xr;rw [List.pairwise_map];exact List.pairwise_lt_range.imp fun{a b} h=>by show(a:Int) <= (b:Int);omega
theorem ZhF {n k:Nat} (h:k < n):(Xr n)[k]? =some (k:Int):=by simp [Xr,h]
theorem QM (n:Nat):(Xr n).length=n:=by simp [Xr]
theorem Zuy {l:List Int} (h:∀ k (hk:k < l.length),l[k]= (k:Int)):l=Xr l.length:=by
 apply List.ext_getElem?;intro k;by_cases hk:k < l.length
 ·rw [ZhF hk,List.getElem?_eq_getElem hk,h k hk]
 ·rw [List.getElem?_eq_none (by omega),List.getElem?_eq_none (by rw [QM];omega)]
def ZH6 (w:Zb):Prop:=0 <=w.said∧w.said <=40∧(msgs w).Perm (Xr w.said.toNat)
theorem ZjO {F:Nat} (hF:400000 <=F) {w:Zb} (sm:WH 400 w) (l:List Ym):∃ b,Zuq F ⟨w,l⟩=some b∧(b=true↔ZH6 w):=by
 obtain⟨B1,B2,B3⟩:=BdM.of sm;have W1:=sm.qK;have W2:=sm.qJ;have W3:=sm.qG;unfold Zuq;refine QO (fun hc=>⟨false,rfl,?_⟩) (fun hc=>?_)
 ·simp only [Bool.false_eq_true,false_iff];rintro⟨a,b,_⟩;simp only [Bool.or_eq_true,decide_eq_true_eq] at hc;omega
 simp only [Bool.or_eq_false_iff,decide_eq_false_iff_not] at hc
 have h4:∃ b,loop F (Za3 ⟨w,l⟩ (Ub (msgs w))) 0=some b∧(b=true↔ZH6 w):=by
  have hl:(Ub (msgs w)).length= (msgs w).length:= (Zdl _).length_eq;have hl2:(msgs w).length <=320400:=by unfold msgs;rw [List.length_append,List.length_append];omega
  refine JU false (some (((Ub (msgs w)).length:Int)==w.said)) (fun k=>(k:Int)) rfl (fun k=>∃ h:k < (Ub (msgs w)).length,(Ub (msgs w))[k] ≠ (k:Int)) (n:= (Ub (msgs w)).length) (by omega) (fun k hk=>?_) (fun next=>?_) (fun k hk hc=>?_) (fun hno=>⟨_,rfl,?_⟩)
  ·have b0:∀ next,Za3 ⟨w,l⟩ (Ub (msgs w)) (k:Int) next=bif((Ub (msgs w))[k] != (k:Int)) then some false else next (Xa ((k:Int) + 1)):=fun next=>by
    unfold Za3;rw [ZM hk,Cq1,XJ hk];rfl
   by_cases h:(Ub (msgs w))[k]= (k:Int)
   ·refine .inr ⟨fun next=>?_,fun⟨_,q⟩=>q h⟩;rw [b0,h,Xl,Cq0,Yz (by omega)]
   ·refine .inl ⟨fun next=>?_,hk,h⟩;rw [b0,Ja,decide_eq_true h];rfl
  ·unfold Za3;rw [ZT];rfl
  ·obtain⟨h,q⟩:=hc;simp only [Bool.false_eq_true,false_iff];rintro⟨_,_,hp⟩;have e:=Zc0 hp (ZjL _);have hk':k < w.said.toNat:=by rw [e,QM] at h;exact h
   have:(Ub (msgs w))[k]? =some (k:Int):=by rw [e];exact ZhF hk'
   rw [List.getElem?_eq_getElem h] at this;exact q (by simpa using this)
  ·have e:=Zuy fun k hk=>Classical.byContradiction fun q=>hno k hk ⟨hk,q⟩
   rw [beq_iff_eq]
   constructor
   ·intro h;refine⟨by omega,by omega,?_⟩;have h2:w.said.toNat= (Ub (msgs w)).length:=by omega
    rw [h2,← e];exact(Zdl _).symm
   ·rintro⟨_,_,hp⟩;have:=hp.length_eq;rw [QM] at this;omega
 have h3:loop F (ZiD F ⟨w,l⟩) (w.qK.flatten ++ QA w.qJ,0)=loop F (Za3 ⟨w,l⟩ (Ub (msgs w))) 0:=by
  refine Yj (fun k=>(w.qK.flatten ++ QA w.qJ ++ Q0 (w.qG.take k),(k:Int))) (by simp [Q0]) (n:=w.qG.length) (by omega) (fun k hk next=>?_) (fun next=>?_)
  ·have hm:=ZbA w.qG k;have hll:(w.qK.flatten ++ QA w.qJ ++ Q0 (w.qG.take k)).length <=320400:=by rw [List.length_append,List.length_append];omega
   rw [Zgt hk];unfold ZiD;dsimp only;rw [ZM hk,Cq1,XJ hk];simp only [Bq0];rw [Yc,ZaB];unfold ZiC;by_cases h1:w.qG[k].kind=1
   ·rw [if_pos h1,if_pos h1,ZrE (by rw [List.length_singleton];omega)];simp only [Bq0];rw [Yz (by omega),← List.append_assoc]
   ·rw [if_neg h1,if_neg h1,Yz (by omega),List.append_nil]
  ·unfold ZiD;dsimp only;rw [ZT,Cq0,List.take_of_length_le (Nat.le_refl _)];show(Zq8 (msgs w)).bind _=_;rw [Znz (by unfold msgs;rw [List.length_append,List.length_append];omega)];rfl
 have h1:loop F (ZiE F ⟨w,l⟩) (w.qK.flatten,0)=loop F (Za3 ⟨w,l⟩ (Ub (msgs w))) 0:=by
  refine Yj (fun k=>(w.qK.flatten ++ QA (w.qJ.take k),(k:Int))) (by simp [QA]) (n:=w.qJ.length) (by omega) (fun k hk next=>?_) (fun next=>?_)
  ·have hm:=Wj w.qJ k;have hm2:=Wj w.qJ (k + 1);have hrow:=sm.hel _ (List.getElem_mem hk);rw [Za1 hk] at hm2;rw [Za1 hk];rw [List.length_append,List.length_map] at hm2;unfold ZiE;dsimp only;rw [ZM hk,Cq1,XJ hk];simp only [Bq0];refine Yj (fun j=>(w.qK.flatten ++ QA (w.qJ.take k) ++ (w.qJ[k].take j).map (fun y=>y.msg),(j:Int))) (by simp) (n:=w.qJ[k].length) (by omega) (fun j hj nx=>?_) (fun nx=>?_)
   ·unfold Zmi;dsimp only;rw [ZM hj,Cq1,XJ hj];simp only [Bq0];rw [ZrE (by rw [List.length_append,List.length_append,List.length_map,List.length_take,List.length_singleton];omega)];simp only [Bq0];rw [Yz (by omega),List.take_add_one,List.getElem?_eq_getElem hj,List.map_append];simp
   ·unfold Zmi;dsimp only;rw [ZT,Cq0,List.take_of_length_le (Nat.le_refl _),Yz (by omega),List.append_assoc]
  ·unfold ZiE;dsimp only;rw [ZT,Cq0,List.take_of_length_le (Nat.le_refl _)];exact h3
 have h0:loop F (ZiF F ⟨w,l⟩) ([],0)=loop F (Za3 ⟨w,l⟩ (Ub (msgs w))) 0:=by
  refine Yj (fun k=>((w.qK.take k).flatten,(k:Int))) (by simp) (n:=w.qK.length) (by omega) (fun k hk next=>?_) (fun next=>?_)
  ·have hm:=W9 w.qK k;have hm2:=W9 w.qK (k + 1);rw [ZcI hk,List.length_append] at hm2;rw [ZcI hk];unfold ZiF;dsimp only;rw [ZM hk,Cq1,XJ hk];simp only [Bq0];rw [ZrE (by omega)];simp only [Bq0];rw [Yz (by omega)]
  ·unfold ZiF;dsimp only;rw [ZT,Cq0,List.take_of_length_le (Nat.le_refl _)];exact h1
 rw [h0];exact h4
def ZF (w:Zb) (m:Nat):List Zr:=w.qJ.getD m []
structure Wd (w:Zb):Prop where
 shr:ShR w
 loc:∀ p,p < w.Zv.length ->(YB w p).length=1
 tog:∀ p,p < w.Zv.length ->0 <=inn w p ->(sp w (inn w p).toNat).machine= (sp w p).machine∧(sp w (inn w p).toNat).here= (sp w p).here∧((sp w p).here=false ->Zjw w p (inn w p))
 ent:∀ m,m < w.qQ.length ->∀ p,p < w.Zv.length ->(E w m p).here=false ->RtX w p (E w m p).Z8 (E w m p).age
 hel:∀ m,m < w.qQ.length ->∀ x ∈ ZF w m,QW w m x∧sp w x.place.toNat= ⟨(m:Int),false,x.age⟩
 mai:∀ x ∈ w.qG,x.kind=1 ->QW w x.Z8 x.Yi
 ntd:∀ x ∈ w.qG,x.kind=3 ->RtX w x.place.toNat x.at_ x.age
 msg:(msgs w).Perm (Xr w.said.toNat)
theorem ZcF {w:Zb} {p k:Nat} {s:Ym}:s ∈ Xc w p k↔∃ m,m < k∧(E w m p).here=true∧s= ⟨(m:Int),true,(E w m p).age⟩:=by
 unfold Xc;rw [List.mem_filterMap]
 constructor
 ·rintro⟨m,h1,h2⟩;by_cases h:(E w m p).here=true
  ·rw [if_pos h] at h2;cases h2;exact⟨m,List.mem_range.1 h1,h,rfl⟩
  ·rw [if_neg h] at h2;cases h2
 ·rintro⟨m,h1,h2,rfl⟩;exact⟨m,List.mem_range.2 h1,if_pos h2⟩
theorem Zal {x:Ze} {p j:Nat} {s:Ym}:s ∈ Wv x p j↔∃ i,i < j∧x.qV.getD i 0= (p:Int)∧s= ⟨x.Z8,false,x.Yh.getD i 0⟩:=by
 unfold Wv;rw [List.mem_filterMap]
 constructor
 ·rintro⟨m,h1,h2⟩;by_cases h:x.qV.getD m 0= (p:Int)
  ·rw [if_pos h] at h2;cases h2;exact⟨m,List.mem_range.1 h1,h,rfl⟩
  ·rw [if_neg h] at h2;cases h2
 ·rintro⟨m,h1,h2,rfl⟩;exact⟨m,List.mem_range.2 h1,if_pos h2⟩
theorem Zvs {l:List Ze} {p:Nat} {s:Ym}:s ∈ XZ l p↔∃ x ∈ l,x.kind=2∧∃ i,i < x.qV.length∧x.qV.getD i 0= (p:Int)∧s= ⟨x.Z8,false,x.Yh.getD i 0⟩:=by
 unfold XZ;rw [List.mem_flatMap]
 constructor
 ·rintro⟨x,h1,h2⟩;unfold WI at h2;by_cases h:x.kind=2
  ·rw [if_pos h] at h2;exact⟨x,h1,h,Zal.1 h2⟩
  ·rw [if_neg h] at h2;cases h2
 ·rintro⟨x,h1,h2,h3⟩;exact⟨x,h1,by unfold WI;rw [if_pos h2];exact Zal.2 h3⟩
theorem ZEM {w:Zb} {p:Nat} (h:(YB w p).length=1):YB w p= [sp w p]:=by
 obtain⟨x,e⟩:=List.length_eq_one_iff.1 h;unfold sp WU;rw [e];rfl
theorem ZbB {w:Zb} {p:Nat} (h:(YB w p).length=1):(∃ m,m < w.qQ.length∧(E w m p).here=true∧sp w p= ⟨(m:Int),true,(E w m p).age⟩)∨(∃ x ∈ w.qG,x.kind=2∧∃ i,i < x.qV.length∧x.qV.getD i 0= (p:Int)∧sp w p= ⟨x.Z8,false,x.Yh.getD i 0⟩):=by
 have hm:sp w p ∈ YB w p:=by rw [ZEM h];simp
 unfold YB at hm;rcases List.mem_append.1 hm with q | q
 ·exact .inl (ZcF.1 q)
 ·exact .inr (Zvs.1 q)
structure WdP (w:Zb):Prop where
 KT:WN w
 inn:Inn w
 mov:∀ x ∈ w.qG,MvX w x
 tog:∀ p,p < w.Zv.length ->ZH4 w p
 ent:∀ m,m < w.qQ.length ->∀ p,p < w.Zv.length ->ZrS w m p
 msg:ZH6 w
 Xg:∀ x ∈ w.qG,Zz7 w x
 hel:∀ m,m < w.qQ.length ->∀ x ∈ ZF w m,QW w m x∧sp w x.place.toNat= ⟨(m:Int),false,x.age⟩
theorem ZAA {w:Zb}:WdP w↔Wd w:=by
 constructor
 ·intro h
  have ZP4:∀ p,p < w.Zv.length ->(sp w p).age <=30:=fun p hp=>by
   rcases ZbB (h.tog p hp).1 with⟨m,h1,h2,h3⟩ | ⟨x,h1,h2,i,h3,h4,h5⟩
   ·rw [h3];rcases h.ent m h1 p hp with⟨_,_,q⟩ | ⟨_,q,_⟩
    ·exact q
    ·rw [h2] at q;cases q
   ·rw [h5];rcases h.mov x h1 with q | q | ⟨_,_,_,q⟩
    ·omega
    ·omega
    ·exact(q i h3).2.2.2.2
  have ZPK:∀ x ∈ w.qG,Zjx w x:=fun x hx=>by
   have hl:=h.Xg x hx;obtain⟨a1,a2,a3,a4,a5,a6⟩:=hl;rcases h.mov x hx with q | q | ⟨q,q1,q2,q3⟩
   ·obtain⟨b1,b2⟩:=a3 (by omega);obtain⟨_,c1,c2,c3⟩:=a4 q;refine⟨a1,a2,.inl ⟨q,c1,c2,c3,b1,b2⟩,fun i hi=>?_,fun z=>by omega⟩;rw [b1] at hi;simp at hi
   ·obtain⟨b1,b2⟩:=a3 (by omega);obtain⟨c1,c2,c3,c4,c5⟩:=a5 q;refine⟨a1,a2,.inr (.inr ⟨q,c5,b1,b2⟩),fun i hi=>?_,fun _=>⟨c2,c3,c1⟩⟩;rw [b1] at hi;simp at hi
   ·obtain⟨c1,c2,c3,c4⟩:=a6 (by omega) (by omega);exact⟨a1,a2,.inr (.inl ⟨q,c2,c3,c4,c1,q1,q2.symm⟩),q3,fun z=>by omega⟩
  refine⟨⟨h.KT,h.inn,h.msg.1,h.msg.2.1,fun m hm p hp=>?_,ZPK⟩,fun p hp=>(h.tog p hp).1,fun p hp=>(h.tog p hp).2,fun m hm p hp hh=>?_,h.hel,fun x hx hk=>((h.Xg x hx).2.2.2.1 hk).1,fun x hx hk=>((h.Xg x hx).2.2.2.2.1 hk).2.2.2.1,h.msg.2.2⟩
  ·rcases h.ent m hm p hp with⟨e,q1,q2⟩ | ⟨e,q1,q2,q3⟩
   ·have e1:(E w m p).here=true:=by rw [e]
    have e2:(E w m p).Z8= (m:Int):=by rw [e]
    exact⟨q1,q2,by rw [e2];omega,by rw [e2];omega,fun _=>e2,fun _=>e1⟩
   ·have:=ZP4 p hp;refine⟨q3.1,by have:=q3.2.1;omega,q3.2.2.1,q3.2.2.2.1,fun z=>?_,fun z=>absurd z q2⟩;rw [q1] at z;cases z
  ·rcases h.ent m hm p hp with⟨e,q1,q2⟩ | ⟨e,q1,q2,q3⟩
   ·have e1:(E w m p).here=true:=by rw [e]
    rw [hh] at e1;cases e1
   ·exact q3
 ·intro h;refine⟨h.shr.KT,h.shr.inn,fun x hx=>?_,fun p hp=>⟨h.loc p hp,h.tog p hp⟩,fun m hm p hp=>?_,⟨h.shr.sd1,h.shr.sd2,h.msg⟩,fun x hx=>?_,h.hel⟩
  ·have hl:=h.shr.Xg x hx;rcases hl.Y7 with⟨q,_⟩ | ⟨q,_,_,_,_,q1,q2⟩ | ⟨q,_⟩
   ·exact .inl q
   ·exact .inr (.inr ⟨q,q1,q2.symm,hl.U4⟩)
   ·exact .inr (.inl q)
  ·obtain⟨a1,a2,a3,a4,a5⟩:=h.shr.ent m hm p hp;cases hh:(E w m p).here with
   | true=>
     have h2:=a5.1 hh;refine .inl ⟨?_,a1,a2⟩;have:E w m p= ⟨(E w m p).here,(E w m p).Z8,(E w m p).age⟩:=rfl;rw [hh,h2] at this;exact this
   | false=>
     have h2:(E w m p).Z8 ≠ (m:Int):=fun q=>by have:=a5.2 q;rw [hh] at this;cases this
     refine .inr ⟨fun q=>?_,hh,h2,h.ent m hm p hp hh⟩;have:=congrArg Zw.here q;rw [hh] at this;cases this
  ·have hl:=h.shr.Xg x hx;rcases hl.Y7 with⟨q,q1,q2,q3,q4,q5⟩ | ⟨q,q1,q2,q3,q4,q5,q6⟩ | ⟨q,q1,q2,q3⟩
   ·exact⟨hl.to1,hl.to2,fun _=>⟨q4,q5⟩,fun _=>⟨h.mai x hx q,q1,q2,q3⟩,fun z=>by omega,fun z=>absurd q z⟩
   ·exact⟨hl.to1,hl.to2,fun z=>absurd q z,fun z=>by omega,fun z=>by omega,fun _ _=>⟨q4,q1,q2,q3⟩⟩
   ·have:=hl.ntd q;exact⟨hl.to1,hl.to2,fun _=>⟨q2,q3⟩,fun z=>by omega,fun _=>⟨this.2.2,this.1,this.2.1,h.ntd x hx q,q1⟩,fun _ z=>absurd q z⟩
theorem Zjg {F:Nat} (hF:400000 <=F) (hM:F <=1000000) {w:Zb} (sm:WH 400 w):∃ e,Zo6 F w=some e∧((e=0∨e=2)∧(e=0↔Wd w)):=by
 have sm9:WH 900 w:=sm.mono (by omega);have W3:=sm.qG
 suffices h:∃ e,Zo6 F w=some e∧((e=0∨e=2)∧(e=0↔WdP w)) by
  obtain⟨e,h1,h2,h3⟩:=h;exact⟨e,h1,h2,h3.trans ZAA⟩
 have two:¬ WdP w ->((2:Int)=0∨(2:Int)=2)∧((2:Int)=0↔WdP w):=fun h=>⟨.inr rfl,fun q=>absurd q (by decide),fun q=>absurd q h⟩
 unfold Zo6;obtain⟨b1,e1,i1⟩:=Zqb (F:=F) (by omega) w;obtain⟨b2,e2,i2⟩:=Zqn (F:=F) (by omega) sm9;rw [e1];simp only [Bq0];cases b1 with
 | false=>
   simp only [Bool.not_false,Bool.not_true,Xo,Bq0,Bool.true_or,Cq1];exact⟨2,rfl,two fun h=>by have:=i1.2 ⟨h.KT,h.inn⟩;cases this⟩
 | true=>
   obtain⟨s,hi⟩:=i1.1 rfl;have h8:=s.p2;have h5:=s.m2;rw [e2];simp only [Bool.not_true,Bool.not_false,YI,Bq0,Bool.false_or];cases b2 with
   | false=>exact⟨2,rfl,two fun h=>by have:=i2.2 h.mov;cases this⟩
   | true=>
     have hmv:=i2.1 rfl;simp only [Bool.not_true,Cq0]
     have hmk:mkL (Ym.mk 0 false 0) 24 (w.Zv.length:Int) (w.Zv.length:Int)=some (List.replicate w.Zv.length ⟨0,false,0⟩):=by
      unfold mkL;rw [decide_eq_true (by omega),decide_eq_true (by omega),Nm0 (by rw [Int.toNat_natCast];omega),Int.toNat_natCast];rfl
     rw [hmk];simp only [Bq0];obtain⟨x,e3,i3,j3⟩:=ZjJ (F:=F) (by omega) hM s hi sm9 (MvX.mvd sm9 hmv);rw [e3];simp only [Bq0];cases hx:x.2 with
     | false=>
       simp only [Bool.not_false,Bool.not_true,Xo,Bq0,Bool.true_or,Cq1];exact⟨2,rfl,two fun h=>by have:=i3.2 h.tog;rw [hx] at this;cases this⟩
     | true=>
       have ZPD:=i3.1 hx;have hx1:=j3 hx;rw [hx1];obtain⟨b4,e4,i4⟩:=ZmF (F:=F) (by omega) s;obtain⟨b5,e5,i5⟩:=ZjO (F:=F) (by omega) sm (spL w);rw [e4];simp only [Bool.not_true,Bool.not_false,YI,Bq0,Bool.false_or];cases b4 with
       | false=>
         simp only [Bool.not_false,Bool.not_true,Xo,Bq0,Bool.true_or,Cq1];exact⟨2,rfl,two fun h=>by have:=i4.2 h.ent;cases this⟩
       | true=>
         have hent:=i4.1 rfl;rw [e5];simp only [Bool.not_true,Bool.not_false,YI,Bq0,Bool.false_or];cases b5 with
         | false=>exact⟨2,rfl,two fun h=>by have:=i5.2 h.msg;cases this⟩
         | true=>
           have ZPM:=i5.1 rfl;simp only [Bool.not_true,Cq0];refine JU 2 (loop F (ZfI F w x) 0) (fun k=>(k:Int)) rfl (fun k=>∃ h:k < w.qG.length,¬ Zz7 w w.qG[k]) (n:=w.qG.length) (by omega) (fun k hk=>?_) (fun next=>?_) (fun k hk hc=>?_) (fun hno=>?_)
           ·obtain⟨b,eb,ib⟩:=Zok s (x:=w.qG[k]) ⟨Nat.le_of_lt (sm9.Xg _ (List.getElem_mem hk)).1,Nat.le_of_lt (sm9.Xg _ (List.getElem_mem hk)).2⟩
            have b0:∀ next,Zi0 F w x (k:Int) next=bif(!b) then some 2 else next ((k + 1:Nat):Int):=fun next=>by
             unfold Zi0;rw [ZM hk,Cq1,XJ hk];simp only [Bq0];rw [hx1,eb];simp only [Bq0];rw [Yz (by omega)]
            by_cases hl:Zz7 w w.qG[k]
            ·refine .inr ⟨fun next=>?_,fun⟨_,q⟩=>q hl⟩;rw [b0,ib.2 hl];rfl
            ·refine .inl ⟨fun next=>?_,hk,hl⟩
             have:b=false:=by cases b;· rfl
                              ·exact absurd (ib.1 rfl) hl
             rw [b0,this];rfl
           ·unfold Zi0;rw [ZT];rfl
           ·obtain⟨h,q⟩:=hc;exact two fun z=>q (z.Xg _ (List.getElem_mem h))
           have hlet:∀ x ∈ w.qG,Zz7 w x:=fun y hy=>by
            obtain⟨k,hk,rfl⟩:=List.getElem_of_mem hy;exact Classical.byContradiction fun q=>hno k hk ⟨hk,q⟩
           have ZU2:w.qJ.length=w.qQ.length:=s.hd;refine JU 2 (some 0) (fun k=>(k:Int)) rfl (fun m=>¬ ∀ x ∈ ZF w m,QW w m x∧sp w x.place.toNat= ⟨(m:Int),false,x.age⟩) (n:=w.qJ.length) (by omega) (fun m hm=>?_) (fun next=>?_) (fun k hk hc=>?_) (fun hno=>⟨0,rfl,?_⟩)
           ·have hgm:ZQ w.qJ (m:Int)=some (ZF w m):=YN [] hm;have hlen:(ZF w m).length < 400:=sm.hel _ (YC hm)
            have b0:∀ next,ZfI F w x (m:Int) next=loop F (ZfH x (m:Int) next (ZF w m)) 0:=fun next=>by
             unfold ZfI;rw [ZM hm,Cq1,hgm];rfl
            have step:∀ (next:Int ->Option Int) (j:Nat) (hj:j < (ZF w m).length),∀ nx,ZfH x (m:Int) next (ZF w m) (j:Int) nx=open Classical in if QW w m (ZF w m)[j]∧sp w (ZF w m)[j].place.toNat= ⟨(m:Int),false,(ZF w m)[j].age⟩ then nx ((j + 1:Nat):Int) else some 2:=fun next j hj nx=>by
             obtain⟨b,eb,ib⟩:=ZkE s (m:Int) (ZF w m)[j];unfold ZfH;rw [ZM hj,Cq1,XJ hj];simp only [Bq0];rw [hx1,eb];simp only [Bq0];by_cases hml:QW w m (ZF w m)[j]
             ·rw [ib.2 hml];simp only [Bool.not_true,Bool.not_false,YI];obtain⟨p,hp⟩:∃ p:Nat,(ZF w m)[j].place= (p:Int):= ⟨(ZF w m)[j].place.toNat,by have:=hml.1;omega⟩
              have hpl:p < w.Zv.length:=by have:=hml.2.1;omega
              rw [hp,Zr3 hpl];simp only [Bq0,Int.toNat_natCast,Bool.false_or];by_cases hs:sp w p= ⟨(m:Int),false,(ZF w m)[j].age⟩
              ·rw [if_pos ⟨hml,hs⟩,(Zi9 _ _).2 hs,Bool.not_true,Cq0,Yz (by omega)]
              ·have:ZeB (sp w p) ⟨(m:Int),false,(ZF w m)[j].age⟩=false:=by rw [← Bool.not_eq_true,Zi9];exact hs
               rw [if_neg (fun q=>hs q.2),this];rfl
             ·have:b=false:=by cases b;· rfl
                               ·exact absurd (ib.1 rfl) hml
              rw [this,if_neg (fun q=>hml q.1)];rfl
            by_cases hall:∀ x ∈ ZF w m,QW w m x∧sp w x.place.toNat= ⟨(m:Int),false,x.age⟩
            ·refine .inr ⟨fun next=>?_,fun q=>q hall⟩;rw [b0];refine Yj (fun p=>(p:Int)) rfl (n:= (ZF w m).length) (by omega) (fun j hj nx=>?_) (fun nx=>?_)
             ·rw [step next j hj nx,if_pos (hall _ (List.getElem_mem hj))]
             ·unfold ZfH;rw [ZT,Cq0,Yz (by omega)]
            ·refine .inl ⟨fun next=>?_,hall⟩
             have hz:∃ j,∃ hj:j < (ZF w m).length,¬ (QW w m (ZF w m)[j]∧sp w (ZF w m)[j].place.toNat= ⟨(m:Int),false,(ZF w m)[j].age⟩):=Classical.byContradiction fun q=>hall fun y hy=>by
              obtain⟨j,hj,rfl⟩:=List.getElem_of_mem hy;exact Classical.byContradiction fun q2=>q ⟨j,hj,q2⟩
             obtain⟨j0,hj0⟩:=hz;obtain⟨j1,_,⟨hj1,hb1⟩,hlt⟩:=Qn (c:=fun j=>∃ hj:j < (ZF w m).length,¬ (QW w m (ZF w m)[j]∧sp w (ZF w m)[j].place.toNat= ⟨(m:Int),false,(ZF w m)[j].age⟩)) hj0;rw [b0];refine Yj (fun p=>(p:Int)) rfl (n:=j1) (by omega) (fun j hj nx=>?_) (fun nx=>?_)
             ·rw [step next j (by omega) nx,if_pos (Classical.byContradiction fun q=>hlt j hj ⟨by omega,q⟩)]
             ·rw [step next j1 hj1 nx,if_neg hb1]
           ·unfold ZfI;rw [ZT];rfl
           ·exact two fun z=>hc (z.hel k (by omega))
           ·exact⟨.inl rfl,fun _=>⟨s,hi,hmv,ZPD,hent,ZPM,hlet,fun m hm=>Classical.byContradiction (hno m (by omega))⟩,fun _=>rfl⟩
def spR (w:Zb) (p:Nat):XG:=UU (Qz w p)
theorem Zkw {w:Zb} (h:∀ x ∈ w.qG,x.kind=2∨x.qV= []) (p:Nat):toS (spR w p)=sp w p:=ZA5 h p
theorem Zfe {w:Zb} (s:WN w) (h2:∀ x ∈ w.qG,x.kind=2∨x.qV= []) {p:Nat} (hp:p < w.Zv.length) (m a:Int):Zmn w (p:Int) (spR w p) m a=some (decide (RtX w p m a)):=by
 have e1:(spR w p).age= (sp w p).age:=by rw [← Zkw h2];rfl
 have e2:(spR w p).at_= (sp w p).machine:=by rw [← Zkw h2];rfl
 unfold Zmn;rw [e1,e2];by_cases h1:0 <=a∧a <= (sp w p).age∧0 <=m∧m < (w.qQ.length:Int)
 ·obtain⟨a1,a2,a3,a4⟩:=h1;rw [decide_eq_false (show ¬ m < 0 by omega),decide_eq_false (show ¬ m >= (w.qQ.length:Int) by omega),decide_eq_false (show ¬ a < 0 by omega),decide_eq_false (show ¬ a > (sp w p).age by omega)];simp only [Bool.or_self,Cq0];by_cases h3:a= (sp w p).age
  ·rw [Yc,decide_eq_true h3,Cq1,Yc];congr 1;by_cases h4:m= (sp w p).machine
   ·rw [decide_eq_true h4.symm,decide_eq_true (show RtX w p m a from⟨a1,a2,a3,a4,fun _=>h4,fun q=>absurd h3 q⟩)]
   ·rw [decide_eq_false (fun q=>h4 q.symm),decide_eq_false (fun q:RtX w p m a=>h4 (q.2.2.2.2.1 h3))]
  ·obtain⟨k,rfl⟩:∃ k:Nat,m= (k:Int):= ⟨m.toNat,by omega⟩
   rw [Yc,decide_eq_false h3,Cq0,s.row (by omega)];simp only [Bq0];rw [s.ent (by omega) hp];simp only [Bq0];congr 1;by_cases h4:(E w k p).age > a
   ·rw [decide_eq_true h4,decide_eq_true (show RtX w p (k:Int) a from⟨a1,a2,a3,a4,fun q=>absurd q h3,fun _=>h4⟩)]
   ·rw [decide_eq_false h4,decide_eq_false (fun q:RtX w p (k:Int) a=>h4 (q.2.2.2.2.2 h3))]
 ·have:(decide (m < 0) || decide (m >= (w.qQ.length:Int)) || decide (a < 0) || decide (a > (sp w p).age))=true:=by
   rw [← Bool.not_eq_false];intro z;simp only [Bool.or_eq_false_iff,decide_eq_false_iff_not] at z;exact h1 ⟨by omega,by omega,by omega,by omega⟩
  rw [this,decide_eq_false (fun q:RtX w p m a=>h1 ⟨q.1,q.2.1,q.2.2.1,q.2.2.2.1⟩)];rfl
def ZaP (w:Zb):List XG:= (List.range w.Zv.length).map (spR w)
theorem ZbC {w:Zb} {p:Nat} (hp:p < w.Zv.length):ZQ (ZaP w) (p:Int)=some (spR w p):=by
 rw [YN default (by simp [ZaP];exact hp)];simp [ZaP,hp]
theorem ZaN {a:Int} (h1:0 <=a) (h2:a <=30):Xa (a + 1)=a + 1:=Zby (by omega) (by omega)
def UI (w:Zb) (m:Int) (y:Zr) (waits:Bool):Prop:=0 <=y.place∧y.place < (w.Zv.length:Int)∧0 <=y.from_∧y.from_ < (w.qQ.length:Int)∧0 <=y.age∧y.age <=30∧1 <=y.hops∧y.hops <=y.age + 1∧
 (waits=true ->sp w y.place.toNat= ⟨m,false,y.age⟩)∧(waits=false ->RtX w y.place.toNat m y.age)
theorem Zof {w:Zb} (s:WN w) (h2:∀ x ∈ w.qG,x.kind=2∨x.qV= []) (m:Int) (y:Zr) (wt:Bool):∃ b,Zo5 w (ZaP w) y m wt=some b∧(b=true↔UI w m y wt):=by
 unfold Zo5;refine QO (fun hc=>⟨false,rfl,?_⟩) (fun hc=>?_)
 ·simp only [Bool.false_eq_true,false_iff];rintro⟨a1,a2,a3,a4,a5,a6,a7,a8,_⟩;rw [ZaN a5 a6] at hc;simp only [Bool.or_eq_true,decide_eq_true_eq] at hc;omega
 ·simp only [Bool.or_eq_false_iff,decide_eq_false_iff_not] at hc;obtain⟨⟨⟨⟨⟨⟨⟨a1,a2⟩,a3⟩,a4⟩,a5⟩,a6⟩,a7⟩,a8⟩:=hc;rw [ZaN (by omega) (by omega)] at a8;obtain⟨p,hp⟩:∃ p:Nat,y.place= (p:Int):= ⟨y.place.toNat,by omega⟩
  have hpl:p < w.Zv.length:=by omega
  rw [hp,ZbC hpl];simp only [Bq0];have es:=Zkw h2 p;refine QO (fun hw=>⟨_,rfl,?_⟩) (fun hw=>?_)
  ·simp only [Ba0,Bool.not_eq_true',beq_iff_eq];unfold UI;rw [hp,Int.toNat_natCast,← es];unfold toS;rw [Ym.mk.injEq]
   constructor
   ·rintro⟨⟨b1,b2⟩,b3⟩;exact⟨by omega,by omega,by omega,by omega,by omega,by omega,by omega,by omega,fun _=>⟨b2,b1,b3⟩,fun q=>(by rw [hw] at q;cases q)⟩
   ·rintro⟨_,_,_,_,_,_,_,_,b,_⟩;obtain⟨b1,b2,b3⟩:=b hw;exact⟨⟨b2,b1⟩,b3⟩
  ·rw [Zfe s h2 hpl];refine⟨_,rfl,?_⟩;rw [decide_eq_true_eq];unfold UI;rw [hp,Int.toNat_natCast]
   constructor
   ·intro h;exact⟨by omega,by omega,by omega,by omega,by omega,by omega,by omega,by omega,fun q=>(by rw [hw] at q;cases q),fun _=>h⟩
   ·rintro⟨_,_,_,_,_,_,_,_,_,b⟩;exact b hw
theorem ZkF {w:Zb} {p:Nat} (h:(Qz w p).length=1):Qz w p= [spR w p]:=by
 obtain⟨x,e⟩:=List.length_eq_one_iff.1 h;unfold spR UU;rw [e];rfl
theorem Zkq {w:Zb} {p k:Nat} {r:XG}:r ∈ Kr w p k↔∃ j,j < k∧∃ s ∈ Wv (ZJ w j) p (ZJ w j).qV.length,r=Znk j s:=by
 unfold Kr;rw [List.mem_flatMap]
 constructor
 ·rintro⟨j,h1,h2⟩;obtain⟨s,h3,h4⟩:=List.mem_map.1 h2;exact⟨j,List.mem_range.1 h1,s,h3,h4.symm⟩
 ·rintro⟨j,h1,s,h2,h3⟩;exact⟨j,List.mem_range.2 h1,List.mem_map.2 ⟨s,h2,h3.symm⟩⟩
theorem Ze7 {w:Zb} {p:Nat} (h:(Qz w p).length=1):((spR w p).is=true∧(spR w p).letter=-1)∨((spR w p).is=false∧∃ k,k < w.qG.length∧(spR w p).letter= (k:Int)∧(p:Int) ∈ (ZJ w k).qV):=by
 have hm:spR w p ∈ Qz w p:=by rw [ZkF h];simp
 unfold Qz at hm;rcases List.mem_append.1 hm with q | q
 ·obtain⟨s,h1,h2⟩:=List.mem_map.1 q;rw [← h2];exact .inl ⟨rfl,rfl⟩
 ·obtain⟨k,h1,s,h2,h3⟩:=Zkq.1 q;obtain⟨i,h4,h5,_⟩:=Zal.1 h2;rw [h3];exact .inr ⟨rfl,k,h1,rfl,by rw [← h5];exact YC h4⟩
theorem Zd5 {w:Zb} {p:Nat} (h:(Qz w p).length=1) {k:Nat} (hk:k < w.qG.length) (hp:(p:Int) ∈ (ZJ w k).qV):(spR w p).letter= (k:Int):=by
 obtain⟨i,hi,e⟩:=List.getElem_of_mem hp;have e2:(ZJ w k).qV.getD i 0= (p:Int):=by rw [List.getD_eq_getElem?_getD,List.getElem?_eq_getElem hi];exact e
 have hm:Znk k ⟨(ZJ w k).Z8,false,(ZJ w k).Yh.getD i 0⟩ ∈ Qz w p:=by
  unfold Qz;exact List.mem_append_right _ (Zkq.2 ⟨k,hk,_,Zal.2 ⟨i,hi,e2,rfl⟩,rfl⟩)
 rw [ZkF h] at hm;rw [← List.mem_singleton.1 hm];rfl
theorem ZnE {w:Zb} (h2:∀ x ∈ w.qG,x.kind=2∨x.qV= []) {p q:Nat} (hp:(Qz w p).length=1) (hq:(Qz w q).length=1) (e:(spR w p).is= (spR w q).is):
 (spR w p).letter= (spR w q).letter↔((spR w p).is=false ->Zjw w p q):=by
 rcases Ze7 hp with⟨a1,a2⟩ | ⟨a1,k,hk,a2,a3⟩
 ·rcases Ze7 hq with⟨b1,b2⟩ | ⟨b1,j,hj,b2,b3⟩
  ·rw [a1,a2,b2];simp
  ·rw [a1,b1] at e;cases e
 ·rcases Ze7 hq with⟨b1,b2⟩ | ⟨b1,j,hj,b2,b3⟩
  ·rw [a1,b1] at e;cases e
  ·have kd:∀ i,i < w.qG.length ->∀ x:Int,x ∈ (ZJ w i).qV ->(ZJ w i).kind=2:=fun i hi x hx=>by
    rcases h2 (ZJ w i) (YC hi) with z | z
    ·exact z
    ·rw [z] at hx;cases hx
   constructor
   ·intro h _;rw [a2,b2] at h;have:k=j:=by omega
    subst this;exact⟨ZJ w k,YC hk,kd k hk _ a3,a3,b3⟩
   ·intro h;obtain⟨x,hx,_,h3,h4⟩:=h a1;obtain⟨i,hi,rfl⟩:=List.getElem_of_mem hx;have ei:w.qG[i]=ZJ w i:=by unfold ZJ;rw [List.getD_eq_getElem?_getD,List.getElem?_eq_getElem hi];rfl
    rw [ei] at h3 h4;rw [Zd5 hp hi h3,Zd5 hq hi h4]
theorem ZlJ {F:Nat} (hF:400000 <=F) {w:Zb} (sm:WH 400 w):Zy4 F w=some (msgs w):=by
 obtain⟨B1,B2,B3⟩:=BdM.of sm;have W1:=sm.qK;have W2:=sm.qJ;have W3:=sm.qG
 have h3:loop F (ZiQ w) (w.qK.flatten ++ QA w.qJ,0)=some (msgs w):=by
  refine Yj (fun k=>(w.qK.flatten ++ QA w.qJ ++ Q0 (w.qG.take k),(k:Int))) (by simp [Q0]) (n:=w.qG.length) (by omega) (fun k hk next=>?_) (fun next=>?_)
  ·have hm:=ZbA w.qG k;have hll:(w.qK.flatten ++ QA w.qJ ++ Q0 (w.qG.take k)).length <=320400:=by rw [List.length_append,List.length_append];omega
   rw [Zgt hk];unfold ZiQ;dsimp only;rw [ZM hk,Cq1,XJ hk];simp only [Bq0];rw [Yc,ZaB];unfold ZiP;by_cases h1:w.qG[k].kind=1
   ·rw [if_pos h1,if_pos h1,ZrE (by rw [List.length_singleton];omega)];simp only [Bq0];rw [Yz (by omega),← List.append_assoc]
   ·rw [if_neg h1,if_neg h1,Yz (by omega),List.append_nil]
  ·unfold ZiQ;dsimp only;rw [ZT,Cq0,List.take_of_length_le (Nat.le_refl _)];rfl
 have h1:loop F (ZiR F w) (w.qK.flatten,0)=some (msgs w):=by
  refine Yj (fun k=>(w.qK.flatten ++ QA (w.qJ.take k),(k:Int))) (by simp [QA]) (n:=w.qJ.length) (by omega) (fun k hk next=>?_) (fun next=>?_)
  ·have hm:=Wj w.qJ k;have hm2:=Wj w.qJ (k + 1);have hrow:=sm.hel _ (List.getElem_mem hk);rw [Za1 hk] at hm2;rw [Za1 hk];rw [List.length_append,List.length_map] at hm2;unfold ZiR;dsimp only;rw [ZM hk,Cq1,XJ hk];simp only [Bq0];refine Yj (fun j=>(w.qK.flatten ++ QA (w.qJ.take k) ++ (w.qJ[k].take j).map (fun y=>y.msg),(j:Int))) (by simp) (n:=w.qJ[k].length) (by omega) (fun j hj nx=>?_) (fun nx=>?_)
   ·unfold Zml;dsimp only;rw [ZM hj,Cq1,XJ hj];simp only [Bq0];rw [ZrE (by rw [List.length_append,List.length_append,List.length_map,List.length_take,List.length_singleton];omega)];simp only [Bq0];rw [Yz (by omega),List.take_add_one,List.getElem?_eq_getElem hj,List.map_append];simp
   ·unfold Zml;dsimp only;rw [ZT,Cq0,List.take_of_length_le (Nat.le_refl _),Yz (by omega),List.append_assoc]
  ·unfold ZiR;dsimp only;rw [ZT,Cq0,List.take_of_length_le (Nat.le_refl _)];exact h3
 unfold Zy4;refine Yj (fun k=>((w.qK.take k).flatten,(k:Int))) (by simp) (n:=w.qK.length) (by omega) (fun k hk next=>?_) (fun next=>?_)
 ·have hm:=W9 w.qK k;have hm2:=W9 w.qK (k + 1);rw [ZcI hk,List.length_append] at hm2;rw [ZcI hk];unfold Zmm;dsimp only;rw [ZM hk,Cq1,XJ hk];simp only [Bq0];rw [ZrE (by omega)];simp only [Bq0];rw [Yz (by omega)]
 ·unfold Zmm;dsimp only;rw [ZT,Cq0,List.take_of_length_le (Nat.le_refl _)];exact h1
def Zc1 (n:Nat) (l:List Int):List Bool:= (List.range n).map fun i:Nat=>decide (((i:Nat):Int) ∈ l)
theorem ZtF {n:Nat} {l:List Int} {x:Int} (h0:0 <=x) (h1:x < (n:Int)):ZQ (Zc1 n l) x=some (decide (x ∈ l)):=by
 obtain⟨k,rfl⟩:∃ k:Nat,x= (k:Int):= ⟨x.toNat,by omega⟩
 rw [YN default (by simp [Zc1];omega)];simp [Zc1,show k < n by omega]
theorem ZtE {n:Nat} {l:List Int} {x:Int} (h0:0 <=x) (h1:x < (n:Int)):Yr (Zc1 n l) x true=Zc1 n (l ++ [x]):=by
 obtain⟨k,rfl⟩:∃ k:Nat,x= (k:Int):= ⟨x.toNat,by omega⟩
 unfold Yr Zc1;rw [Int.toNat_natCast];apply List.ext_getElem?;intro i;rw [List.getElem?_set];by_cases hi:i < n
 ·by_cases e:k=i
  ·subst e;rw [if_pos rfl];simp [hi]
  ·rw [if_neg e];have:((i:Int)= (k:Int))↔False:= ⟨fun q=>e (by omega),False.elim⟩
   simp [hi,this]
 ·by_cases e:k=i
  ·subst e;omega
  ·rw [if_neg e];simp [hi]
theorem Zdu {α:Type} {l:List α}:l.Nodup↔∀ k (h:k < l.length),l[k] ∉ l.take k:=by
 constructor
 ·intro hn k hk hm;obtain⟨j,hj,e⟩:=List.getElem_of_mem hm;rw [List.length_take] at hj;rw [List.getElem_take] at e;have:= (List.getElem_inj hn).1 e;omega
 ·intro h;rw [List.nodup_iff_pairwise_ne] <;> skip
  rw [List.pairwise_iff_getElem];intro i j hi hj hij e;exact h j hj (by rw [← e];exact List.mem_take_iff_getElem.2 ⟨i,by omega,rfl⟩)
theorem ZhJ {l:List Int} {n:Nat}:l.Perm (Xr n)↔l.Nodup∧(∀ x ∈ l,0 <=x∧x < (n:Int))∧l.length=n:=by
 have hn:(Xr n).Nodup:=by
  unfold Xr;exact List.Pairwise.map _ (fun a b h q=>h (by have:((a:Nat):Int)= ((b:Nat):Int):=q;omega)) List.nodup_range
 constructor
 ·intro h;refine⟨h.nodup_iff.2 hn,fun x hx=>?_,by rw [h.length_eq,QM]⟩;have:=h.mem_iff.1 hx;unfold Xr at this;obtain⟨k,hk,rfl⟩:=List.mem_map.1 this;have:=List.mem_range.1 hk;exact⟨by show(0:Int) <= (k:Int);omega,by show(k:Int) < _;omega⟩
 ·rintro⟨h1,h2,h3⟩
  have hsub:l ⊆ Xr n:=fun x hx=>by
   obtain⟨a,b⟩:=h2 x hx;unfold Xr;exact List.mem_map.2 ⟨x.toNat,List.mem_range.2 (by omega),by show((x.toNat:Nat):Int)=x;omega⟩
  have hsub2:Xr n ⊆ l:=fun x hx=>by
   apply Classical.byContradiction;intro hx2
   have:= (List.nodup_cons.2 ⟨hx2,h1⟩).length_le_of_subset (l₂:=Xr n) (fun y hy=>by
    rcases List.mem_cons.1 hy with z | z
    ·rw [z];exact hx
    ·exact hsub z)
   rw [List.length_cons,QM] at this;omega
  exact(List.perm_ext_iff_of_nodup h1 hn).2 fun a=>⟨fun h=>hsub h,fun h=>hsub2 h⟩
theorem ZvO {F:Nat} (hF:400000 <=F) {w:Zb} (h0:0 <=w.said) {l:List Int} (hl:l.length <=330000):∃ b,loop F (ZdE w l) (0,List.replicate w.said.toNat false)=some b∧(b=true↔l.Perm (Xr w.said.toNat)):=by
 rw [ZhJ]
 refine JU false (some ((l.length:Int)==w.said)) (fun k=>((k:Int),Zc1 w.said.toNat (l.take k))) (by
  simp only [List.take_zero];congr 1;unfold Zc1;apply List.ext_getElem?;intro i;by_cases hi:i < w.said.toNat <;> simp [hi]) (fun k=>∃ h:k < l.length,¬ (0 <=l[k]∧l[k] < w.said∧l[k] ∉ l.take k)) (n:=l.length) (by omega) (fun k hk=>?_) (fun next=>?_) (fun k hk hc=>?_) (fun hno=>⟨_,rfl,?_⟩)
 ·by_cases hr:0 <=l[k]∧l[k] < w.said
  ·have hr2:l[k] < (w.said.toNat:Int):=by omega
   have b0:∀ next,ZdE w l ((k:Int),Zc1 w.said.toNat (l.take k)) next=bif decide (l[k] ∈ l.take k) then some false else next (((k + 1:Nat):Int),Zc1 w.said.toNat (l.take (k + 1))):=fun next=>by
    unfold ZdE;dsimp only;rw [ZM hk,Cq1,XJ hk];simp only [Bq0];rw [decide_eq_false (show ¬ l[k] < 0 by omega),decide_eq_false (show ¬ l[k] >=w.said by omega)];simp only [Bool.or_self,Bool.not_false,YI];rw [ZtF hr.1 hr2];simp only [Bq0,Bool.false_or];rw [ZtE hr.1 hr2,Yz (by omega),List.take_add_one,List.getElem?_eq_getElem hk];rfl
   by_cases hs:l[k] ∈ l.take k
   ·refine .inl ⟨fun next=>?_,hk,fun q=>q.2.2 hs⟩;rw [b0,decide_eq_true hs];rfl
   ·refine .inr ⟨fun next=>?_,fun⟨_,q⟩=>q ⟨hr.1,hr.2,hs⟩⟩;rw [b0,decide_eq_false hs];rfl
  ·refine .inl ⟨fun next=>?_,hk,fun q=>hr ⟨q.1,q.2.1⟩⟩;unfold ZdE;dsimp only;rw [ZM hk,Cq1,XJ hk];simp only [Bq0]
   have:(decide (l[k] < 0) || decide (l[k] >=w.said))=true:=by
    rw [← Bool.not_eq_false];intro z;simp only [Bool.or_eq_false_iff,decide_eq_false_iff_not] at z;exact hr ⟨by omega,by omega⟩
   rw [this];rfl
 ·unfold ZdE;dsimp only;rw [ZT];rfl
 ·obtain⟨h,q⟩:=hc;simp only [Bool.false_eq_true,false_iff];rintro⟨n1,n2,_⟩;have:=n2 _ (List.getElem_mem h);exact q ⟨this.1,by omega,Zdu.1 n1 k h⟩
 ·have hall:∀ k (h:k < l.length),0 <=l[k]∧l[k] < w.said∧l[k] ∉ l.take k:=fun k h=>Classical.byContradiction fun q=>hno k h ⟨h,q⟩
  rw [beq_iff_eq]
  constructor
  ·intro h;refine⟨Zdu.2 fun k hk=>(hall k hk).2.2,fun x hx=>?_,by omega⟩;obtain⟨k,hk,rfl⟩:=List.getElem_of_mem hx;have:=hall k hk;exact⟨this.1,by omega⟩
  ·rintro⟨_,_,h⟩;omega
noncomputable def ifc {α:Sort _} (c:Prop) (a b:α):α:=@ite α c (Classical.propDecidable c) a b
theorem Xm {α:Sort _} {c:Prop} (h:c) {a b:α}:ifc c a b=a:=by unfold ifc;exact if_pos h
theorem Xz {α:Sort _} {c:Prop} (h:¬ c) {a b:α}:ifc c a b=b:=by unfold ifc;exact if_neg h
theorem JS {β γ:Type} {body:γ ->(γ ->Option β) ->Option β} {r1 r2:Option β} {s0:γ} (S:Nat ->γ) (h0:S 0=s0) (c:Nat ->Prop) {n F:Nat} (hF:n < F)
 (hb:∀ k,k < n ->∀ next,body (S k) next=ifc (c k) (next (S (k + 1))) r1) (he:∀ next,body (S n) next=r2):loop F body s0=ifc (∀ k,k < n ->c k) r2 r1:=by
 by_cases hall:∀ k,k < n ->c k
 ·rw [Xm hall];exact Yj S h0 hF (fun k hk next=>by rw [hb k hk,Xm (hall k hk)]) he
 ·rw [Xz hall];have hz:∃ k,k < n∧¬ c k:=Classical.byContradiction fun q=>hall fun p hp=>Classical.byContradiction fun q2=>q ⟨p,hp,q2⟩
  obtain⟨k0,hk0⟩:=hz;obtain⟨m,_,hm,hlt⟩:=Qn (c:=fun k=>k < n∧¬ c k) hk0;exact Yj S h0 (n:=m) (by omega) (fun k hk next=>by rw [hb k (by omega),Xm (Classical.byContradiction fun q=>hlt k hk ⟨by omega,q⟩)]) (fun next=>by rw [hb m hm.1,Xz hm.2])
theorem ZwO {α:Type} {z:α} {c:Nat} {a:Int} (h0:0 <=a) (h:c * a.toNat <=100000):mkL z c a a=some (List.replicate a.toNat z):=by
 unfold mkL;have e:Nat.ble (c * a.toNat) 100000=true:=by rw [Nat.ble_eq];exact h
 rw [decide_eq_true h0,decide_eq_true (show a <=a by omega),e];rfl
theorem Zdt {c:Prop} {b:Bool} (h:b=true↔c) {β:Type} (x y:β):(bif !b then x else y)=ifc c y x:=by
 cases b with
 | true=>rw [Xm (h.1 rfl)];rfl
 | false=>rw [Xz (fun q=>by have:=h.2 q;cases this)];rfl
def ZpK (w:Zb) (p:Nat):Prop:=0 <=inn w p ->(spR w p).is= (spR w (inn w p).toNat).is∧(spR w p).at_= (spR w (inn w p).toNat).at_∧(spR w p).letter= (spR w (inn w p).toNat).letter
def Zu6 (w:Zb) (m p:Nat):Prop:= (E w m p).here=false ->RtX w p (E w m p).Z8 (E w m p).age
def ZpH (w:Zb) (x:Ze):Prop:= (x.kind=1 ->UI w x.Z8 x.Yi false)∧(x.kind=3 ->RtX w x.place.toNat x.at_ x.age)
section
variable {F:Nat} {w:Zb}
theorem Zv1 (hF:400000 <=F) (sm:WH 400 w) (h:ShR w):loop F (ZfK F w (ZaP w)) 0=ifc (∀ k,k < w.qG.length ->ZpH w (ZJ w k)) (some (decide ((msgs w).Perm (Xr w.said.toNat)))) (some false):=by
 have W3:=sm.qG;have s:=h.KT;refine JS (fun k=>(k:Int)) rfl (fun k=>ZpH w (ZJ w k)) (n:=w.qG.length) (by omega) (fun k hk next=>?_) (fun next=>?_)
 ·have hl:=h.Xg (ZJ w k) (YC hk);unfold ZfK;rw [ZM hk,Cq1,YN default hk];simp only [Bq0]
  change (gd ((ZJ w k).kind==1) (Zo5 w (ZaP w) (ZJ w k).Yi (ZJ w k).Z8 false) default).bind (fun Zng=>(gd ((!(((ZJ w k).kind==1) && (!Zng))) && ((ZJ w k).kind==3)) (ZQ (ZaP w) (ZJ w k).place) default).bind fun Znf=>(gd ((!(((ZJ w k).kind==1) && (!Zng))) && ((ZJ w k).kind==3)) (Zmn w (ZJ w k).place Znf (ZJ w k).at_ (ZJ w k).age) default).bind fun x159=>(bif((((ZJ w k).kind==1) && (!Zng)) || (((ZJ w k).kind==3) && (!x159))) then some false else next (Xa ((k:Int) + 1))))=_
  rw [Yz (by omega)];generalize ZJ w k=x at hl ⊢;by_cases k1:x.kind=1
  ·obtain⟨b,e,i⟩:=Zof s h.two x.Z8 x.Yi false;have k3:(x.kind==3)=false:=by rw [beq_eq_false_iff_ne];omega
   rw [show(x.kind==1)=true from beq_iff_eq.2 k1,k3,YI,e];simp only [Bq0,Bool.true_and,Bool.and_false,Xo,Bool.false_and,Bool.or_false];have hi:b=true↔ZpH w x:=i.trans ⟨fun q=>⟨fun _=>q,fun q2=>by omega⟩,fun q=>q.1 k1⟩;exact Zdt hi _ _
  ·rw [show(x.kind==1)=false from beq_eq_false_iff_ne.2 k1,Xo];simp only [Bq0,Bool.false_and,Bool.not_false,Bool.true_and,Bool.false_or];by_cases k3:x.kind=3
   ·obtain⟨n1,n2,n3⟩:=hl.ntd k3;obtain⟨p,hp⟩:∃ p:Nat,x.place= (p:Int):= ⟨x.place.toNat,by omega⟩
    have hpl:p < w.Zv.length:=by omega
    rw [show(x.kind==3)=true from beq_iff_eq.2 k3,YI,hp,ZbC hpl];simp only [Bq0,YI];rw [Zfe s h.two hpl];simp only [Bq0,Bool.true_and]
    have hi:decide (RtX w p x.at_ x.age)=true↔ZpH w x:=by
     rw [decide_eq_true_eq];unfold ZpH;rw [hp,Int.toNat_natCast];exact⟨fun q=>⟨fun q2=>absurd q2 k1,fun _=>q⟩,fun q=>q.2 k3⟩
    exact Zdt hi _ _
   ·rw [show(x.kind==3)=false from beq_eq_false_iff_ne.2 k3,Xo];simp only [Bq0,Xo,Bool.false_and,Cq0];rw [Xm (show ZpH w x from⟨fun q=>absurd q k1,fun q=>absurd q k3⟩)]
 ·unfold ZfK;rw [ZT,Cq0,ZlJ hF sm];simp only [Bq0];have h1:=h.sd1;have h2:=h.sd2;rw [ZwO h1 (by omega)];simp only [Bq0]
  have hm:(msgs w).length <=320400:=by
   obtain⟨B1,B2,B3⟩:=BdM.of sm;unfold msgs;rw [List.length_append,List.length_append];omega
  obtain⟨b,e,i⟩:=ZvO hF h.sd1 (l:=msgs w) (by omega);rw [e];congr 1;by_cases hq:(msgs w).Perm (Xr w.said.toNat)
  ·rw [decide_eq_true hq];exact i.2 hq
  ·rw [decide_eq_false hq,← Bool.not_eq_true,i];exact hq
theorem Zv2 (hF:400000 <=F) (sm:WH 400 w) (h:ShR w):loop F (ZfL F w) (ZaP w,0)=ifc (∀ m,m < w.qJ.length ->∀ k,k < (ZF w m).length ->UI w (m:Int) ((ZF w m).getD k default) true) (loop F (ZfK F w (ZaP w)) 0) (some false):=by
 have W2:=sm.qJ;have s:=h.KT;refine JS (fun m=>(ZaP w,(m:Int))) rfl (fun m=>∀ k,k < (ZF w m).length ->UI w (m:Int) ((ZF w m).getD k default) true) (n:=w.qJ.length) (by omega) (fun m hm next=>?_) (fun next=>?_)
 ·have hrow:=sm.hel (ZF w m) (YC hm);unfold ZfL;dsimp only;rw [ZM hm,Cq1,YN [] hm];simp only [Bq0]
  change loop F (Zi2 w (m:Int) next (ZF w m)) (ZaP w,0)=_
  refine JS (fun j=>(ZaP w,(j:Int))) rfl (fun k=>UI w (m:Int) ((ZF w m).getD k default) true) (n:= (ZF w m).length) (by omega) (fun j hj nx=>?_) (fun nx=>?_)
  ·unfold Zi2;dsimp only;rw [ZM hj,Cq1,YN default hj];simp only [Bq0];obtain⟨b,e,i⟩:=Zof s h.two (m:Int) ((ZF w m).getD j default) true;rw [e];simp only [Bq0];rw [Yz (by omega)];exact Zdt i _ _
  ·unfold Zi2;dsimp only;rw [ZT,Cq0,Yz (by omega)]
 ·unfold ZfL;dsimp only;rw [ZT,Cq0]
theorem ZAV (hF:400000 <=F) (h:ShR w):loop F (ZfM F w (ZaP w)) 0=ifc (∀ m,m < w.qQ.length ->∀ p,p < w.Zv.length ->Zu6 w m p) (loop F (ZfL F w) (ZaP w,0)) (some false):=by
 have s:=h.KT;have h5:=s.m2;have h8:=s.p2;refine JS (fun m=>(m:Int)) rfl (fun m=>∀ p,p < w.Zv.length ->Zu6 w m p) (n:=w.qQ.length) (by omega) (fun m hm next=>?_) (fun next=>?_)
 ·unfold ZfM;rw [ZM hm,Cq1,s.row hm];simp only [Bq0];refine JS (fun p=>(p:Int)) rfl (fun p=>Zu6 w m p) (n:=w.Zv.length) (by omega) (fun p hp nx=>?_) (fun nx=>?_)
  ·unfold Zmw;rw [s.len hm,ZM hp,Cq1,s.ent hm hp];simp only [Bq0];rw [Yz (by omega)];cases hh:(E w m p).here with
   | true=>
     simp only [Bool.not_true,Xo,Bq0,Bool.false_and,Cq0];rw [Xm (show Zu6 w m p from fun q=>by rw [hh] at q;cases q)]
   | false=>
     simp only [Bool.not_false,YI,Bool.true_and];rw [ZbC hp];simp only [Bq0];rw [Zfe s h.two hp];simp only [Bq0];exact Zdt (show decide (RtX w p (E w m p).Z8 (E w m p).age)=true↔Zu6 w m p from by rw [decide_eq_true_eq];exact⟨fun q _=>q,fun q=>q hh⟩) _ _
  ·unfold Zmw;rw [s.len hm,ZT,Cq0,Yz (by omega)]
 ·unfold ZfM;rw [ZT,Cq0]
theorem ZAU (hF:400000 <=F) (h:ShR w):loop F (ZfN F w (ZaP w)) 0=ifc (∀ p,p < w.Zv.length ->ZpK w p) (loop F (ZfM F w (ZaP w)) 0) (some false):=by
 have s:=h.KT;have h5:=s.m2;have h8:=s.p2;refine JS (fun p=>(p:Int)) rfl (fun p=>ZpK w p) (n:=w.Zv.length) (by omega) (fun p hp next=>?_) (fun next=>?_)
 ·unfold ZfN;rw [ZM hp,Cq1,Xt hp];simp only [Bq0];rw [Yz (by omega)];by_cases hi:0 <=inn w p
  ·obtain⟨q,hq⟩:∃ q:Nat,inn w p= (q:Int):= ⟨(inn w p).toNat,by omega⟩
   have hr:= (h.inn.rng p hp).2;have hql:q < w.Zv.length:=by omega
   rw [hq,decide_eq_true (show(q:Int) >=0 by omega),YI,ZbC hp];simp only [Bq0,YI];rw [ZbC hql];simp only [Bq0,Bool.true_and]
   have t0:ZpK w p↔((spR w p).is= (spR w q).is∧(spR w p).at_= (spR w q).at_∧(spR w p).letter= (spR w q).letter):=by
    unfold ZpK;rw [hq,Int.toNat_natCast];exact⟨fun z=>z (by omega),fun z _=>z⟩
   by_cases a1:(spR w p).is= (spR w q).is
   ·rw [a1,Xl];simp only [Bool.not_false,YI,Bq0,Bool.false_or];by_cases a2:(spR w p).at_= (spR w q).at_
    ·rw [a2,Xl];simp only [Bool.not_false,YI,Bq0,Bool.false_or];rw [Ja,ZaB];by_cases a3:(spR w p).letter= (spR w q).letter
     ·rw [if_neg (fun z=>z a3),Xm (t0.2 ⟨a1,a2,a3⟩)]
     ·rw [if_pos a3,Xz (fun z=>a3 (t0.1 z).2.2)]
    ·rw [Ja,decide_eq_true a2];simp only [Bool.not_true,Xo,Bq0,Bool.true_or,Cq1];rw [Xz (fun z=>a2 (t0.1 z).2.1)]
   ·have:((spR w p).is != (spR w q).is)=true:=bne_iff_ne.2 a1;rw [this];simp only [Bool.not_true,Xo,Bq0,Bool.true_or,Cq1];rw [Xz (fun z=>a1 (t0.1 z).1)]
  ·rw [decide_eq_false (show ¬ inn w p >=0 by omega)];simp only [Xo,Bq0,Bool.false_and,Cq0];rw [Xm (show ZpK w p from fun q=>absurd q hi)]
 ·unfold ZfN;rw [ZT,Cq0]
def Zlg (w:Zb) (k:Nat):List XG:= (List.range k).map (spR w) ++ List.replicate (w.Zv.length - k) ⟨0,0,0,false⟩
theorem ZvE {w:Zb} {k:Nat} (h:k < w.Zv.length):Yr (Zlg w k) (k:Int) (spR w k)=Zlg w (k + 1):=by
 unfold Yr Zlg;rw [Int.toNat_natCast,show w.Zv.length - k= (w.Zv.length - (k + 1)) + 1 by omega,List.replicate_succ,List.set_append_right _ _ (by simp),List.range_succ,List.map_append];simp
theorem ZvF {w:Zb} {k:Nat} (h:k <=w.Zv.length):(Zlg w k).length=w.Zv.length:=by simp [Zlg];omega
theorem ZtK (hF:400000 <=F) (sm:WH 400 w) (h:ShR w):loop F (Zi3 F w) (0,List.replicate w.Zv.length ⟨0,0,0,false⟩)=ifc (∀ p,p < w.Zv.length ->(Qz w p).length=1) (loop F (ZfN F w (ZaP w)) 0) (some false):=by
 have s:=h.KT;have h5:=s.m2;have h8:=s.p2;have W:=sm.qG;refine JS (fun p=>((p:Int),Zlg w p)) (by simp [Zlg]) (fun p=>(Qz w p).length=1) (n:=w.Zv.length) (by omega) (fun p hp next=>?_) (fun next=>?_)
 ·unfold Zi3;dsimp only;rw [ZM hp,Cq1,ZoZ (by omega) s (fun x hx=>⟨(h.Xg x hx).Y7.len,by have:= (sm.Xg x hx).1;omega⟩) (by omega) hp];simp only [Bq0];rw [YN default (by rw [ZvF (by omega)];exact hp)];simp only [Bq0];rw [Yz (by omega),show UU (Qz w p)=spR w p from rfl,ZvE hp];exact Zdt decide_eq_true_iff _ _
 ·unfold Zi3;dsimp only;rw [ZT,Cq0,show Zlg w w.Zv.length=ZaP w from by simp [Zlg,ZaP]]
end
theorem UI.ZJk {w:Zb} (hag:∀ p,p < w.Zv.length ->(sp w p).age <=30) {m:Int} {y:Zr}:UI w m y false↔QW w m y:=by
 unfold UI QW
 constructor
 ·rintro⟨a1,a2,a3,a4,a5,a6,a7,a8,_,b⟩;exact⟨a1,a2,a3,a4,b rfl,a7,by rw [Int.add_comm,ZaN a5 a6];exact a8⟩
 ·rintro⟨a1,a2,a3,a4,b,a7,a8⟩;have h1:=b.1;have h2:=b.2.1;have h3:=hag y.place.toNat (by omega);rw [Int.add_comm,ZaN (by omega) (by omega)] at a8;exact⟨a1,a2,a3,a4,by omega,by omega,a7,a8,fun q=>(by cases q),fun _=>b⟩
theorem UI.ZJl {w:Zb} (hag:∀ p,p < w.Zv.length ->(sp w p).age <=30) {m:Nat} (hm:m < w.qQ.length) {y:Zr}:UI w (m:Int) y true↔QW w (m:Int) y∧sp w y.place.toNat= ⟨(m:Int),false,y.age⟩:=by
 constructor
 ·rintro⟨a1,a2,a3,a4,a5,a6,a7,a8,b,_⟩;have e:=b rfl;refine⟨⟨a1,a2,a3,a4,⟨a5,by rw [e];exact Int.le_refl _,by omega,by omega,fun _=>by rw [e],fun q=>?_⟩,a7,by rw [Int.add_comm,ZaN a5 a6];exact a8⟩,e⟩;rw [e] at q;exact absurd rfl q
 ·rintro⟨⟨a1,a2,a3,a4,b,a7,a8⟩,e⟩;have h1:=b.1;have h2:=b.2.1;have h3:=hag y.place.toNat (by omega);rw [Int.add_comm,ZaN (by omega) (by omega)] at a8;exact⟨a1,a2,a3,a4,by omega,by omega,a7,a8,fun _=>e,fun q=>(by cases q)⟩
theorem Ze6 {w:Zb} (h:ShR w) {p:Nat} (hp:p < w.Zv.length) (hl:(YB w p).length=1):(sp w p).age <=30:=by
 rcases ZbB hl with⟨m,h1,h2,h3⟩ | ⟨x,h1,h2,i,h3,h4,h5⟩
 ·rw [h3];exact(h.ent m h1 p hp).2.1
 ·rw [h5];exact((h.Xg x h1).U4 i h3).2.2.2.2
theorem ZpJ {w:Zb} (h:ShR w) (hl:∀ p,p < w.Zv.length ->(Qz w p).length=1) {p:Nat} (hp:p < w.Zv.length):ZpK w p↔(0 <=inn w p ->(sp w (inn w p).toNat).machine= (sp w p).machine∧(sp w (inn w p).toNat).here= (sp w p).here∧((sp w p).here=false ->Zjw w p (inn w p))):=by
 unfold ZpK;by_cases hi:0 <=inn w p
 ·obtain⟨q,hq⟩:∃ q:Nat,inn w p= (q:Int):= ⟨(inn w p).toNat,by omega⟩
  have hr:= (h.inn.rng p hp).2;have hql:q < w.Zv.length:=by omega
  rw [hq,Int.toNat_natCast,← Zkw h.two p,← Zkw h.two q];unfold toS;have same:=fun e=>ZnE h.two (hl p hp) (hl q hql) e
  constructor
  ·intro z _;obtain⟨a,b,c⟩:=z (by omega);exact⟨b.symm,a.symm,(same a).1 c⟩
  ·intro z _;obtain⟨a,b,c⟩:=z (by omega);exact⟨b.symm,a.symm,(same b.symm).2 c⟩
 ·exact⟨fun _ q=>absurd q hi,fun _ q=>absurd q hi⟩
theorem ZhV {w:Zb} {P:Ze ->Prop}:(∀ k,k < w.qG.length ->P (ZJ w k))↔∀ x ∈ w.qG,P x:=by
 constructor
 ·intro h x hx;obtain⟨i,hi,rfl⟩:=List.getElem_of_mem hx;have:=h i hi;unfold ZJ at this
  rwa [List.getD_eq_getElem?_getD,List.getElem?_eq_getElem hi] at this
 ·intro h k hk;exact h _ (YC hk)
theorem Wy {α:Type} {l:List α} {d:α} {P:α ->Prop}:(∀ k,k < l.length ->P (l.getD k d))↔∀ x ∈ l,P x:=by
 constructor
 ·intro h x hx;obtain⟨i,hi,rfl⟩:=List.getElem_of_mem hx;have:=h i hi
  rwa [List.getD_eq_getElem?_getD,List.getElem?_eq_getElem hi] at this
 ·intro h k hk;exact h _ (YC hk)
theorem Zkm {F:Nat} (hF:400000 <=F) {w:Zb} (sm:WH 400 w):∃ b,Zo7 F w=some b∧(b=true↔Wd w):=by
 have sm9:WH 900 w:=sm.mono (by omega);obtain⟨b,e,i⟩:=ZtC (F:=F) (by omega) sm9;unfold Zo7;rw [e];simp only [Bq0];rw [Zdt i];by_cases h:ShR w
 ·rw [Xm h];have hz:=h.KT.p2;rw [ZwO (by omega) (by rw [Int.toNat_natCast];omega),Int.toNat_natCast];simp only [Bq0];rw [ZtK hF sm h,ZAU hF h,ZAV hF h,Zv2 hF sm h,Zv1 hF sm h];by_cases h1:∀ p,p < w.Zv.length ->(Qz w p).length=1
  ·have h1P:∀ p,p < w.Zv.length ->(YB w p).length=1:=fun p hp=>by rw [len_eq h.two];exact h1 p hp
   have hag:∀ p,p < w.Zv.length ->(sp w p).age <=30:=fun p hp=>Ze6 h hp (h1P p hp)
   rw [Xm h1];by_cases h2:∀ p,p < w.Zv.length ->ZpK w p
   ·rw [Xm h2];by_cases h3:∀ m,m < w.qQ.length ->∀ p,p < w.Zv.length ->Zu6 w m p
    ·rw [Xm h3];have hhd:=h.KT.hd;by_cases h4:∀ m,m < w.qJ.length ->∀ k,k < (ZF w m).length ->UI w (m:Int) ((ZF w m).getD k default) true
     ·rw [Xm h4];by_cases h5:∀ k,k < w.qG.length ->ZpH w (ZJ w k)
      ·rw [Xm h5];refine⟨_,rfl,?_⟩;rw [decide_eq_true_eq];have h5':= (ZhV (P:=ZpH w)).1 h5
       constructor
       ·intro h6;exact⟨h,h1P,fun p hp=>(ZpJ h h1 hp).1 (h2 p hp),h3,fun m hm x hx=>(UI.ZJl hag hm).1 ((Wy (P:=fun x=>UI w (m:Int) x true)).1 (h4 m (by omega)) x hx),fun x hx hk=>(UI.ZJk hag).1 ((h5' x hx).1 hk),fun x hx hk=>(h5' x hx).2 hk,h6⟩
       ·intro h6;exact h6.msg
      ·rw [Xz h5];refine⟨_,rfl,?_⟩;simp only [Bool.false_eq_true,false_iff];intro z;exact h5 (ZhV.2 fun x hx=>⟨fun q=>(UI.ZJk hag).2 (z.mai x hx q),fun q=>z.ntd x hx q⟩)
     ·rw [Xz h4];refine⟨_,rfl,?_⟩;simp only [Bool.false_eq_true,false_iff];intro z;exact h4 fun m hm=>(Wy (P:=fun x=>UI w (m:Int) x true)).2 fun x hx=>(UI.ZJl hag (by omega)).2 (z.hel m (by omega) x hx)
    ·rw [Xz h3];refine⟨_,rfl,?_⟩;simp only [Bool.false_eq_true,false_iff];intro z;exact h3 z.ent
   ·rw [Xz h2];refine⟨_,rfl,?_⟩;simp only [Bool.false_eq_true,false_iff];intro z;exact h2 fun p hp=>(ZpJ h h1 hp).2 (z.tog p hp)
  ·rw [Xz h1];refine⟨_,rfl,?_⟩;simp only [Bool.false_eq_true,false_iff];intro z;exact h1 fun p hp=>by rw [← len_eq h.two];exact z.loc p hp
 ·rw [Xz h];refine⟨_,rfl,?_⟩;simp only [Bool.false_eq_true,false_iff];intro z;exact h z.shr
end Go.Proofs.YtbmbbcaaimehkaaGreat
end
section
namespace Go.Proofs.YtbmbbcaaimehkaaGreat
open Go.Lf
theorem ZvM {F:Nat} (hF:400000 <=F) (w:Zb):∃ b,Zze F w=some b∧(b=true ->WH 201 w):=by
 unfold Zze;refine QO (fun _=>⟨false,rfl,fun q=>by cases q⟩) (fun hc=>?_);simp only [Bool.or_eq_false_iff,decide_eq_false_iff_not] at hc;obtain⟨⟨⟨⟨c1,c2⟩,c3⟩,c4⟩,c5⟩:=hc
 have e3:loop F (ZfO w) 0=ifc (∀ k,k < w.qG.length ->(ZJ w k).qV.length <=20∧(ZJ w k).Yh.length <=20) (some true) (some false):=by
  refine JS (fun k=>(k:Int)) rfl (fun k=>(ZJ w k).qV.length <=20∧(ZJ w k).Yh.length <=20) (n:=w.qG.length) (by omega) (fun k hk next=>?_) (fun next=>?_)
  ·unfold ZfO;rw [ZM hk,Cq1,YN default hk];simp only [Bq0];rw [Yz (by omega),show w.qG.getD k default=ZJ w k from rfl];by_cases h:(ZJ w k).qV.length <=20∧(ZJ w k).Yh.length <=20
   ·rw [Xm h,decide_eq_false (by omega),decide_eq_false (by omega)];rfl
   ·rw [Xz h]
    have:(decide (((ZJ w k).qV.length:Int) > 20) || decide (((ZJ w k).Yh.length:Int) > 20))=true:=by
     rw [← Bool.not_eq_false];intro z;simp only [Bool.or_eq_false_iff,decide_eq_false_iff_not] at z;exact h ⟨by omega,by omega⟩
    rw [this];rfl
  ·unfold ZfO;rw [ZT];rfl
 have e2:loop F (ZfP F w) 0=ifc (∀ k,k < w.qJ.length ->(w.qJ.getD k []).length <=100) (loop F (ZfO w) 0) (some false):=by
  refine JS (fun k=>(k:Int)) rfl (fun k=>(w.qJ.getD k []).length <=100) (n:=w.qJ.length) (by omega) (fun k hk next=>?_) (fun next=>?_)
  ·unfold ZfP;rw [ZM hk,Cq1,YN [] hk];simp only [Bq0];rw [Yz (by omega)];by_cases h:(w.qJ.getD k []).length <=100
   ·rw [Xm h,decide_eq_false (by omega)];rfl
   ·rw [Xz h,decide_eq_true (by omega)];rfl
  ·unfold ZfP;rw [ZT];rfl
 have e1:loop F (ZfQ F w) 0=ifc (∀ k,k < w.qQ.length ->(w.qQ.getD k []).length <=20) (loop F (ZfP F w) 0) (some false):=by
  refine JS (fun k=>(k:Int)) rfl (fun k=>(w.qQ.getD k []).length <=20) (n:=w.qQ.length) (by omega) (fun k hk next=>?_) (fun next=>?_)
  ·unfold ZfQ;rw [ZM hk,Cq1,YN [] hk];simp only [Bq0];rw [Yz (by omega)];by_cases h:(w.qQ.getD k []).length <=20
   ·rw [Xm h,decide_eq_false (by omega)];rfl
   ·rw [Xz h,decide_eq_true (by omega)];rfl
  ·unfold ZfQ;rw [ZT];rfl
 have e0:loop F (Zi4 F w) 0=ifc (∀ k,k < w.qK.length ->(w.qK.getD k []).length <=100) (loop F (ZfQ F w) 0) (some false):=by
  refine JS (fun k=>(k:Int)) rfl (fun k=>(w.qK.getD k []).length <=100) (n:=w.qK.length) (by omega) (fun k hk next=>?_) (fun next=>?_)
  ·unfold Zi4;rw [ZM hk,Cq1,YN [] hk];simp only [Bq0];rw [Yz (by omega)];by_cases h:(w.qK.getD k []).length <=100
   ·rw [Xm h,decide_eq_false (by omega)];rfl
   ·rw [Xz h,decide_eq_true (by omega)];rfl
  ·unfold Zi4;rw [ZT];rfl
 rw [e0];by_cases h0:∀ k,k < w.qK.length ->(w.qK.getD k []).length <=100
 ·rw [Xm h0,e1];by_cases h1:∀ k,k < w.qQ.length ->(w.qQ.getD k []).length <=20
  ·rw [Xm h1,e2];by_cases h2:∀ k,k < w.qJ.length ->(w.qJ.getD k []).length <=100
   ·rw [Xm h2,e3];by_cases h3:∀ k,k < w.qG.length ->(ZJ w k).qV.length <=20∧(ZJ w k).Yh.length <=20
    ·rw [Xm h3];refine⟨true,rfl,fun _=>⟨by omega,by omega,by omega,by omega,by omega,fun l hl=>?_,fun l hl=>?_,fun l hl=>?_,fun l hl=>?_⟩⟩
     ·have:= (Wy (P:=fun l:List Int=>l.length <=100)).1 h0 l hl;omega
     ·have:= (Wy (P:=fun l:List Zw=>l.length <=20)).1 h1 l hl;omega
     ·have:= (Wy (P:=fun l:List Zr=>l.length <=100)).1 h2 l hl;omega
     ·have:= (ZhV (P:=fun x=>x.qV.length <=20∧x.Yh.length <=20)).1 h3 l hl;omega
    ·rw [Xz h3];exact⟨false,rfl,fun q=>by cases q⟩
   ·rw [Xz h2];exact⟨false,rfl,fun q=>by cases q⟩
  ·rw [Xz h1];exact⟨false,rfl,fun q=>by cases q⟩
 ·rw [Xz h0];exact⟨false,rfl,fun q=>by cases q⟩
def nx (w:Zb) (p m:Nat):Nat:= (E w m p).Z8.toNat
def tr (w:Zb) (p m:Nat):Nat ->Nat
 | 0=>m
 | i + 1=>nx w p (tr w p m i)
section
variable {F:Nat} {w:Zb}
theorem Wd.mvd (h:Wd w) (sm:WH 900 w):Mvd 900 w.qG:=fun x hx hk=>by
 have h1:= (h.shr.Xg x hx).Y7.len;have h2:=sm.Xg x hx
 first
  | exact⟨h1,by omega⟩
  | exact⟨by omega,h1⟩
theorem Zak (hF:1000 <=F) (hM:F <=1000000) (h:Wd w) (sm:WH 900 w) {p:Nat} (hp:p < w.Zv.length):ZdB F w (p:Int)=some (sp w p,1):=by
 rw [Zhq hF hM h.shr.KT (h.mvd sm) sm.qG hp,h.loc p hp];rfl
theorem ZCm (hF:1000 <=F) (h:Wd w) (sm:WH 900 w) {p:Nat} (hp:p < w.Zv.length):Zre F w (p:Int)=some (spR w p,true):=by
 rw [ZoZ hF h.shr.KT (fun x hx=>⟨(h.shr.Xg x hx).Y7.len,by have:= (sm.Xg x hx).1;omega⟩) sm.qG hp,← len_eq h.shr.two,h.loc p hp];rfl
end
end Go.Proofs.YtbmbbcaaimehkaaGreat
end
section
namespace Go.Proofs.YtbmbbcaaimehkaaGreat
open Go.Lf
section
variable {F:Nat} {w:Zb}
theorem ZJj (p n:Int):Zuw p n=some (decide (0 <=p∧p < n)):=by
 unfold Zuw;congr 1;by_cases a:0 <=p
 ·by_cases b:p < n
  ·rw [decide_eq_true a,decide_eq_true b,decide_eq_true (show 0 <=p∧p < n from⟨a,b⟩)];rfl
  ·rw [decide_eq_true a,decide_eq_false b,decide_eq_false (fun q:0 <=p∧p < n=>b q.2)];rfl
 ·rw [decide_eq_false a,decide_eq_false (fun q:0 <=p∧p < n=>a q.1)];rfl
theorem Zzp (hF:400000 <=F) (hM:F <=1000000) (sm:WH 400 w) (h:¬ Wd w):Zo6 F w=some 2:=by
 obtain⟨e,h1,h2,h3⟩:=Zjg hF hM sm;rw [h1];rcases h2 with q | q
 ·exact absurd (h3.1 q) h
 ·rw [q]
theorem Zpp (hF:400000 <=F) (hM:F <=1000000) (sm:WH 400 w) (h:Wd w):Zo6 F w=some 0:=by
 obtain⟨e,h1,h2,h3⟩:=Zjg hF hM sm;rw [h1,h3.2 h]
theorem Zvq (hF:400000 <=F) (sm:WH 400 w) (h:Wd w):Zo7 F w=some true:=by
 obtain⟨b,h1,h2⟩:=Zkm hF sm;rw [h1,h2.2 h]
theorem Kj (hF:400000 <=F) (sm:WH 400 w) (h:Wd w) {p:Nat} (hp:p < w.Zv.length):Zj4 F w (p:Int)=some ((sp w p).machine,(sp w p).here,(sp w p).age):=by
 unfold Zj4;rw [ZCm (by omega) h (sm.mono (by omega)) hp,← Zkw h.shr.two];rfl
end
end Go.Proofs.YtbmbbcaaimehkaaGreat
end
section
namespace Go.Proofs.YtbmbbcaaimehkaaGreat
open Go.Lf
theorem app0 {α:Type} {b:Nat} {l:List α} (h:l.length <=900000) (hb:b <=1000):app b [] l=some l:=by
 rw [ZmZ (by simp;omega) hb];rfl
theorem ZfY {α β:Type} {F b:Nat} {l:List (List α)} {g:List α ->Option (List α)} {body:List (List α)×Int ->(List (List α)×Int ->Option β) ->Option β} {r:Option β} {s:List (List α)×Int} (hs:s= ([],0)) (hF:l.length < F) (hl:l.length <=900)
 (hb:∀ k (h:k < l.length) next,body (l.take k,(k:Int)) next=next (l.take (k + 1),((k + 1:Nat):Int))) (he:∀ next,body (l,(l.length:Int)) next=r):loop F body s=r:=by
 subst hs;exact Yj (fun k=>(l.take k,(k:Int))) (by simp) hF hb (fun next=>by rw [List.take_of_length_le (Nat.le_refl _)];exact he next)
theorem Zd4 {α:Type} {l:List α} {k b:Nat} (h:k < l.length) (hl:l.length <=900) (hb:b <=1000):app b (l.take k) [l[k]]=some (l.take (k + 1)):=by
 rw [app1 (by rw [List.length_take];omega) hb,List.take_add_one,List.getElem?_eq_getElem h];rfl
theorem ZuE {F:Nat} (hF:1000 <=F) {l:List (List Int)} (hl:l.length < 900) (hr:∀ x ∈ l,x.length < 900):ZyY F l=some l:=by
 unfold ZyY;refine ZfY (b:=8) (g:=fun _=>none) (l:=l) rfl (by omega) (by omega) (fun k h next=>?_) (fun next=>?_)
 ·have:=hr _ (List.getElem_mem h);unfold Zmf;dsimp only;rw [ZM h,Cq1,XJ h];simp only [Bq0];unfold Zmh;rw [app0 (by omega) (by omega)];simp only [Bq0];rw [Zd4 h (by omega) (by omega)];simp only [Bq0];rw [Yz (by omega)]
 ·unfold Zmf;dsimp only;rw [ZT];rfl
theorem ZmJ {F:Nat} (hF:1000 <=F) {l:List (List Zw)} (hl:l.length < 900) (hr:∀ x ∈ l,x.length < 900):ZyX F l=some l:=by
 unfold ZyX;refine ZfY (b:=8) (g:=fun _=>none) (l:=l) rfl (by omega) (by omega) (fun k h next=>?_) (fun next=>?_)
 ·have:=hr _ (List.getElem_mem h);unfold Zme;dsimp only;rw [ZM h,Cq1,XJ h];simp only [Bq0];unfold Zs0;rw [app0 (by omega) (by omega)];simp only [Bq0];rw [Zd4 h (by omega) (by omega)];simp only [Bq0];rw [Yz (by omega)]
 ·unfold Zme;dsimp only;rw [ZT];rfl
theorem Zrq {F:Nat} (hF:1000 <=F) {l:List (List Zr)} (hl:l.length < 900) (hr:∀ x ∈ l,x.length < 900):ZyW F l=some l:=by
 unfold ZyW;refine ZfY (b:=8) (g:=fun _=>none) (l:=l) rfl (by omega) (by omega) (fun k h next=>?_) (fun next=>?_)
 ·have:=hr _ (List.getElem_mem h);unfold Zmd;dsimp only;rw [ZM h,Cq1,XJ h];simp only [Bq0];unfold ZsZ;rw [app0 (by omega) (by omega)];simp only [Bq0];rw [Zd4 h (by omega) (by omega)];simp only [Bq0];rw [Yz (by omega)]
 ·unfold Zmd;dsimp only;rw [ZT];rfl
theorem ZuD {F:Nat} (hF:1000 <=F) {w:Zb} (sm:WH 900 w):Zy9 F w=some w:=by
 have h1:=sm.Zv;have h2:=sm.qG;unfold Zy9 Zmh;rw [app0 (by omega) (by omega)];simp only [Bq0];rw [ZuE hF sm.qK sm.box,ZmJ hF sm.qQ sm.row,Zrq hF sm.qJ sm.hel];simp only [Bq0];refine Yj (fun k=>((k:Int),w.qG.take k)) (by simp) (n:=w.qG.length) (by omega) (fun k h next=>?_) (fun next=>?_)
 ·have:=sm.Xg _ (List.getElem_mem h);unfold Zmq;dsimp only;rw [ZM h,Cq1,XJ h];simp only [Bq0];unfold Zmh;rw [app0 (by omega) (by omega),app0 (by omega) (by omega)];simp only [Bq0];rw [show Ze.mk w.qG[k].kind w.qG[k].Z8 w.qG[k].Yi w.qG[k].qV w.qG[k].Yh w.qG[k].place w.qG[k].at_ w.qG[k].age=w.qG[k] from rfl,Zd4 h (by omega) (by omega)];simp only [Bq0];rw [Yz (by omega)]
 ·unfold Zmq;dsimp only;rw [ZT,Cq0,List.take_of_length_le (Nat.le_refl _)]
def Wt (p:Int) (n:Nat):Prop:=0 <=p∧p < (n:Int)
instance (p:Int) (n:Nat):Decidable (Wt p n):=by unfold Wt;infer_instance
def Ask (w:Zb) (s:ZH):Prop:=
 (s.act=1∧Wt s.a w.qQ.length∧Wt s.b w.Zv.length)∨(s.act=2∧Wt s.a w.Zv.length∧Wt s.b w.qQ.length)∨(s.act=3∧Wt s.a w.Zv.length∧Wt s.b w.Zv.length)∨(s.act=4∧Wt s.a w.Zv.length)∨(s.act=5∧Wt s.a w.qG.length)
instance (w:Zb) (s:ZH):Decidable (Ask w s):=by unfold Ask;infer_instance
theorem ZBa (p:Int) (n:Nat):(decide (p >=0) && decide (p < (n:Int)))=decide (Wt p n):=by
 by_cases h:Wt p n
 ·rw [decide_eq_true h,decide_eq_true h.1,decide_eq_true h.2];rfl
 ·rw [decide_eq_false h,← Bool.not_eq_true];intro z;simp only [Ba0,decide_eq_true_eq] at z;exact h ⟨z.1,z.2⟩
theorem Zpx (w:Zb) (s:ZH):Zuu w s=some (decide (Ask w s)):=by
 have e:∀ k:Int,(s.act==k)=decide (s.act=k):=fun k=>Yc _ _
 unfold Zuu Zmv ZiY;simp only [ZBa];by_cases h1:s.act=1
 ·rw [e,decide_eq_true h1,Cq1];by_cases a:Wt s.a w.qQ.length
  ·by_cases b:Wt s.b w.Zv.length
   ·simp [Ask,h1,a,b]
   ·simp [Ask,h1,a,b]
  ·simp [Ask,h1,a]
 rw [e 1,decide_eq_false h1,Cq0];by_cases h2:s.act=2
 ·rw [e,decide_eq_true h2,Cq1];by_cases a:Wt s.a w.Zv.length
  ·by_cases b:Wt s.b w.qQ.length
   ·simp [Ask,h2,a,b]
   ·simp [Ask,h2,a,b]
  ·simp [Ask,h2,a]
 rw [e 2,decide_eq_false h2,Cq0];by_cases h3:s.act=3
 ·rw [e,decide_eq_true h3,Cq1];by_cases a:Wt s.a w.Zv.length
  ·by_cases b:Wt s.b w.Zv.length
   ·simp [Ask,h3,a,b]
   ·simp [Ask,h3,a,b]
  ·by_cases b:Wt s.b w.Zv.length
   ·simp [Ask,h3,a,b]
   ·simp [Ask,h3,a,b]
 rw [e 3,decide_eq_false h3,Cq0];by_cases h4:s.act=4
 ·rw [e,decide_eq_true h4,Cq1];by_cases a:Wt s.a w.Zv.length
  ·simp [Ask,h4,a]
  ·simp [Ask,h4,a]
 rw [e 4,decide_eq_false h4,Cq0];by_cases h5:s.act=5
 ·rw [e,decide_eq_true h5,Cq1];by_cases a:Wt s.a w.qG.length
  ·simp [Ask,h5,a]
  ·simp [Ask,h5,a]
 rw [e 5,decide_eq_false h5,Cq0];simp [Ask,h1,h2,h3,h4,h5]
end Go.Proofs.YtbmbbcaaimehkaaGreat
end
