/- WeighDoes returns true, whatever the number of machines, the world and the deed. No condition. Part 13 of the proof. -/
import Derived.Test.YtbmbbcaaimehkaaGreatDa12
set_option linter.all false
set_option maxHeartbeats 2000000
section
noncomputable section
namespace Go.Proofs.YtbmbbcaaimehkaaGreat
open Go.YR Go.Lf
theorem ZsH {h:H} {r:Bool} (hL:ZEt=some r):Pure XX 14 #[] h (.bool r):=by
 cases hL;intro wm;have e:ev (cfg XW fun _=>false) 1 (.call 14 #[] wm h)=some (.fin (.ret (.bool true)) h):=rfl;exact Zf0 (X:=XW) mixed 1 _ _ e
end Go.Proofs.YtbmbbcaaimehkaaGreat
end
end
section
namespace Go.Proofs.YtbmbbcaaimehkaaGreat
open Go.Lf
def ZBh (F:Nat) (p0:Yb) (p1:ZH):Option Yb:=
 (bif(p1.act==1) then(Zqg (Yb.mk (Zb.mk p0.Za.Zx p0.Za.qK p0.Za.qQ p0.Za.qJ p0.Za.qG (Y2 (p0.Za.said + 1))) p0.qX) p1.a (Zr.mk p0.Za.said p1.b p1.a 0 0) true).bind fun x4=>some x4 else(bif(p1.act==2) then(ZA0 F p0 p1.a p1.b).bind fun x25=>some x25 else(bif(p1.act==3) then(ZK p0.Za.Zx p1.a).bind fun x46=>some (Yb.mk (Zb.mk (Yl p0.Za.Zx p1.a p1.b) p0.Za.qK p0.Za.qQ p0.Za.qJ p0.Za.qG p0.Za.said) p0.qX) else(bif(p1.act==4) then(ZK p0.Za.Zx p1.a).bind fun x51=>some (Yb.mk (Zb.mk (Yl p0.Za.Zx p1.a (-1)) p0.Za.qK p0.Za.qQ p0.Za.qJ p0.Za.qG p0.Za.said) p0.qX) else(bif(p1.act==5) then(ZA9 F p0 p1.a).bind fun x56=>some x56 else some p0)))))
def Zgi (p1:Zg):Int×Int×Int×Int×Int×Int×Int×Int ->Option Bool:=fun(v11,v12,v13,v14,v15,v16,v17,v18)=>
 some ((((Xt (Zr.mk v11 v12 v13 v14 v15) p1.ZV) && (v16==p1.place)) && (v17==p1.at_)) && (v18==p1.age))
def ZA6 (p0:ZY) (p1:Zg):Option Bool:=
 (Znt p0 p1.ZX).bind fun x3=>(bif(!x3) then some false else(bif((p1.kind !=2) && (decide ((Y2 ((p1.qV.length:Int) + (p1.Yc.length:Int))) > 0))) then some false else(bif(p1.kind==1) then(Zv8 p0 p1.ZX p1.ZV).bind fun x20=>(bif(!x20) then some false else(Zgi p1) (p1.ZV.msg,p1.ZV.place,p1.ZV.from_,p1.ZV.age,p1.ZV.hops,0,0,0)) else(bif(p1.kind==3) then(gd (!(p1.at_==p1.ZX)) (Zsv p0 p1.place) default).bind fun x28=>(gd (!((p1.at_==p1.ZX) || (!x28))) (Znu p0 p1.place p1.at_ p1.age) default).bind fun x29=>(bif(((p1.at_==p1.ZX) || (!x28)) || (!x29)) then some false else(Zgi p1) (0,0,0,0,0,p1.place,p1.at_,p1.age)) else(Zgi p1) (0,0,0,0,0,0,0,0)))))
end Go.Proofs.YtbmbbcaaimehkaaGreat
end
section
set_option maxRecDepth 20000
noncomputable section
namespace Go.Proofs.YtbmbbcaaimehkaaGreat
open Go.YR Go.Lf
theorem ZKn {F wm h} {p0:Yb} {p1:ZH} {Zi Zh XA Zm Zl Qu Yr Zk Zj Qt Yw Zo Zn Qs Yq Zq Zp Qr Z7 Z6 Qq YO} {r} (Z0:wm <=h.size) (hO:Yd (wm:=wm) [bx wm YO (cG Zi XA Zh Zm Qu Zl Zk Qt Zj Zo Qs Zn Zq Qr Zp p0.Za.said Z7 Qq Z6),ow wm (Zt .i64) Zi XA Zh p0.Za.Zx,YG wm (ZP (Zt .i64)) Zm Qu Zl Yr p0.Za.qK,YG wm (ZP Zc) Zk Qt Zj Yw p0.Za.qQ,YG wm (ZP Ze) Zo Qs Zn Yq p0.Za.qJ,ow wm Zd Zq Qr Zp p0.Za.qG,ow wm Zy Z7 Qq Z6 p0.qX] h) (hL:ZBh F p0 p1=some r):
 WR XX 50 #[.pointer (some ⟨YO,0,none⟩),.agg [.int .i64 p1.act,.int .i64 p1.a,.int .i64 p1.b].toArray] wm h (CP (fun(v:Value) (Gb:List (Ast wm))=>∃ QT Jz QM QS Jy QL JF QR Jw QK JE QO Jv QJ JD QN Ju QI JB Jt JA,v= .tuple [].toArray∧Gb= [bx wm YO (cG QT Jz QM QS Jy QL QR Jw QK QO Jv QJ QN Ju QI r.Za.said JB Jt JA),ow wm (Zt .i64) QT Jz QM r.Za.Zx,YG wm (ZP (Zt .i64)) QS Jy QL JF r.Za.qK,YG wm (ZP Zc) QR Jw QK JE r.Za.qQ,YG wm (ZP Ze) QO Jv QJ JD r.Za.qJ,ow wm Zd QN Ju QI r.Za.qG,ow wm Zy JB Jt JA r.qX]) [bx wm YO (cG Zi XA Zh Zm Qu Zl Zk Qt Zj Zo Qs Zn Zq Qr Zp p0.Za.said Z7 Qq Z6),ow wm (Zt .i64) Zi XA Zh p0.Za.Zx,YG wm (ZP (Zt .i64)) Zm Qu Zl Yr p0.Za.qK,YG wm (ZP Zc) Zk Qt Zj Yw p0.Za.qQ,YG wm (ZP Ze) Zo Qs Zn Yq p0.Za.qJ,ow wm Zd Zq Qr Zp p0.Za.qG,ow wm Zy Z7 Qq Z6 p0.qX] h):=by
 refine bg Tryz.ntmps50 Z0 hO ?_;intro T hT hS;unfold ZBh at hL;obtain rfl:=hS.on k1;obtain rfl:=hS.YP k2;obtain rfl:=hS.YP k3;obtain rfl:=hS.YP k4;obtain rfl:=hS.on k5;obtain rfl:=hS.on k6;refine r3 ?_;rintro _ h2 ⟨b1,eb1,rfl,hS⟩;refine r15 ?_;refine cn hL ?_ ?_
 ·intro hc hL;refine r16 ?_;refine r6 ?_;rintro h3 hS;refine JC ?_;refine WO.w gN rfl (YS ZBI (Zu lk (Zu lk (Zu lk ZT))) rfl (cs':= [.int .i64 p0.Za.said,.int .i64 p1.b,.int .i64 p1.a,.int .i64 0,.int .i64 0]) rfl) ?_;obtain⟨x4,hx4,hL⟩:=qZ hL;refine WO.cl gN rfl (Y9.fn ZF2 (Zf lk (Zf lk (Zf lk (Zf lk Zz))))) hS (.c k0 (.c k1 (.c k1 (.c k1 (.c k1 (.c k1 (.c k1 .n))))))) (fun g' hz hf hO=>ZA1 (p0:= (Yb.mk (Zb.mk p0.Za.Zx p0.Za.qK p0.Za.qQ p0.Za.qJ p0.Za.qG (Y2 (p0.Za.said + 1))) p0.qX)) (p2:= (Zr.mk p0.Za.said p1.b p1.a 0 0)) (by rw [hz];exact hS.hw) hO hx4) ?_;rintro _ h23 _ ⟨a5,n6,c7,a8,n9,c10,ZSA,a11,n12,c13,ZFA,a14,n15,c16,ZFy,a17,n18,c19,a20,n21,c22,rfl,rfl⟩ hS;obtain rfl:=hS.on k1;obtain rfl:=hS.YP k2;obtain rfl:=hS.YP k3;obtain rfl:=hS.YP k4;obtain rfl:=hS.on k5;obtain rfl:=hS.on k6;refine r2 ?_;refine Yk.YU ?_;have hr:=Oi0 hL;subst hr;exact Yk.gen (vs:= []) rfl ZE rfl ⟨_,⟨a5,x4.Za.Zx.length,c7,a8,x4.Za.qK.length,c10,ZSA,a11,x4.Za.qQ.length,c13,ZFA,a14,x4.Za.qJ.length,c16,ZFy,a17,x4.Za.qG.length,c19,a20,x4.qX.length,c22,rfl,rfl⟩,hT ▸ hS.only sl⟩
 ·intro hc hL;refine r6 ?_;refine cn hL ?_ ?_
  ·intro hc hL;refine r6 ?_;obtain⟨x25,hx25,hL⟩:=qZ hL;refine WO.cl gN rfl (Y9.fn ZN1 (Zf lk (Zf lk (Zf lk Zz)))) hS (.c k1 (.c k1 (.c k1 (.c k1 (.c k1 (.c k1 (.c k1 .n))))))) (fun g' hz hf hO=>ZJZ (by rw [hz];exact hS.hw) hO hx25) ?_;rintro _ h44 _ ⟨a26,n27,c28,a29,n30,c31,ZMj,a32,n33,c34,ZMh,a35,n36,c37,ZMf,a38,n39,c40,a41,n42,c43,rfl,rfl⟩ hS;obtain rfl:=hS.on k1;obtain rfl:=hS.YP k2;obtain rfl:=hS.YP k3;obtain rfl:=hS.YP k4;obtain rfl:=hS.on k5;obtain rfl:=hS.on k6;refine r2 ?_;refine Yk.YU ?_;have hr:=Oi0 hL;subst hr;exact Yk.gen (vs:= []) rfl ZE rfl ⟨_,⟨a26,x25.Za.Zx.length,c28,a29,x25.Za.qK.length,c31,ZMj,a32,x25.Za.qQ.length,c34,ZMh,a35,x25.Za.qJ.length,c37,ZMf,a38,x25.Za.qG.length,c40,a41,x25.qX.length,c43,rfl,rfl⟩,hT ▸ hS.only sl⟩
  ·intro hc hL;refine r6 ?_;refine cn hL ?_ ?_
   ·intro hc hL;refine WC.YD mixed Kq0 ?_;refine r9 ?_;obtain⟨x46,ZrY,hL⟩:=qZ hL;obtain⟨b47,o48,_,ZzV,ZAo,ZOY⟩:=Src.at_ (hS.Xj k2) ZrY;refine r1 ?_;refine WX.hu gN (KP (e:= (Zt .i64)) p1.b () hS k2 XE (YF fh rfl) (YF (ZC rfl fh) rfl) ZzV ZrY ZAo (j:=0) rfl (vs:= [.int .i64 p1.b]) rfl rfl rfl rfl rfl (cs':= [.int .i64 p1.b]) rfl rfl trivial) ?_ rfl rfl [] Kq0 Yg.e;rintro h49 ⟨hS,Z2X⟩;refine r2 ?_;refine Yk.YU ?_;have hr:=Oi0 hL;subst hr;exact Yk.gen (vs:= []) rfl ZE rfl ⟨_,⟨Zi,p0.Za.Zx.length,Zh,Zm,p0.Za.qK.length,Zl,Yr,Zk,p0.Za.qQ.length,Zj,Yw,Zo,p0.Za.qJ.length,Zn,Yq,Zq,p0.Za.qG.length,Zp,Z7,p0.qX.length,Z6,rfl,rfl⟩,hT ▸ hS.only sl⟩
   ·intro hc hL;refine r6 ?_;refine cn hL ?_ ?_
    ·intro hc hL;refine WC.YD mixed Kq0 ?_;refine r7 ?_;obtain⟨x51,ZM8,hL⟩:=qZ hL;obtain⟨b52,o53,_,ZOC,ZPB,ZYZ⟩:=Src.at_ (hS.Xj k2) ZM8;refine r1 ?_;refine WX.hu gN (KP (e:= (Zt .i64)) (-1) () hS k2 XE (YF fh rfl) (evC rfl) ZOC ZM8 ZPB (j:=0) rfl (vs:= [.int .i64 (-1)]) rfl rfl rfl rfl rfl (cs':= [.int .i64 (-1)]) rfl rfl trivial) ?_ rfl rfl [] Kq0 Yg.e;rintro h54 ⟨hS,Z2W⟩;refine r2 ?_;refine Yk.YU ?_;have hr:=Oi0 hL;subst hr;exact Yk.gen (vs:= []) rfl ZE rfl ⟨_,⟨Zi,p0.Za.Zx.length,Zh,Zm,p0.Za.qK.length,Zl,Yr,Zk,p0.Za.qQ.length,Zj,Yw,Zo,p0.Za.qJ.length,Zn,Yq,Zq,p0.Za.qG.length,Zp,Z7,p0.qX.length,Z6,rfl,rfl⟩,hT ▸ hS.only sl⟩
    ·intro hc hL;refine r6 ?_;refine cn hL ?_ ?_
     ·intro hc hL;refine r4 ?_;obtain⟨x56,ZTj,hL⟩:=qZ hL;refine WO.cl gN rfl (Y9.fn ZOb (Zf lk (Zf lk Zz))) hS (.c k1 (.c k1 (.c k1 (.c k1 (.c k1 (.c k1 (.c k1 .n))))))) (fun g' hz hf hO=>ZKd (by rw [hz];exact hS.hw) hO ZTj) ?_;rintro _ h75 _ ⟨a57,n58,c59,a60,n61,c62,ZMe,a63,n64,c65,ZMd,a66,n67,c68,ZMc,a69,n70,c71,a72,n73,c74,rfl,rfl⟩ hS;obtain rfl:=hS.on k1;obtain rfl:=hS.YP k2;obtain rfl:=hS.YP k3;obtain rfl:=hS.YP k4;obtain rfl:=hS.on k5;obtain rfl:=hS.on k6;refine r2 ?_;refine Yk.YU ?_;have hr:=Oi0 hL;subst hr;exact Yk.gen (vs:= []) rfl ZE rfl ⟨_,⟨a57,x56.Za.Zx.length,c59,a60,x56.Za.qK.length,c62,ZMe,a63,x56.Za.qQ.length,c65,ZMd,a66,x56.Za.qJ.length,c68,ZMc,a69,x56.Za.qG.length,c71,a72,x56.qX.length,c74,rfl,rfl⟩,hT ▸ hS.only sl⟩
     ·intro hc hL;refine r2 ?_;refine Yk.YU ?_;have hr:=Oi0 hL;subst hr;exact Yk.gen (vs:= []) rfl ZE rfl ⟨_,⟨Zi,p0.Za.Zx.length,Zh,Zm,p0.Za.qK.length,Zl,Yr,Zk,p0.Za.qQ.length,Zj,Yw,Zo,p0.Za.qJ.length,Zn,Yq,Zq,p0.Za.qG.length,Zp,Z7,p0.qX.length,Z6,rfl,rfl⟩,hT ▸ hS.only sl⟩
theorem ZJ4 {wm h} {p0:ZY} {p1:Zg} {Zi Zh Zm Zl Zk Zj Zo Zn Zq Zp Z7 Z6 YO Ke XK XJ KR KQ} {r} (Z0:wm <=h.size) (X4:At h YO Ke [.slice Zi p0.Za.Zx.length Zh,.slice Zm p0.Za.qK.length Zl,.slice Zk p0.Za.qQ.length Zj,.slice Zo p0.Za.qJ.length Zn,.slice Zq p0.Za.qG.length Zp,.int .i64 p0.Za.said,.slice Z7 p0.Xc.length Z6]) (X3:Stb wm h YO) (ZB:Sl (Zt .i64) wm h Zi Zh p0.Za.Zx) (ZM:Sl (ZN (Zt .i64)) wm h Zm Zl p0.Za.qK) (ZF:Sl (ZN Zc) wm h Zk Zj p0.Za.qQ) (ZL:Sl (ZN Ze) wm h Zo Zn p0.Za.qJ) (ZI:Sl Zd wm h Zq Zp p0.Za.qG) (Xw:Sl XI wm h Z7 Z6 p0.Xc) (JY:Sl (Zt .i64) wm h XK XJ p1.qV) (Zm1:Sl (Zt .i64) wm h KR KQ p1.Yc) (hL:ZA6 p0 p1=some r):
 WR XX 73 #[.pointer (some ⟨YO,Ke,none⟩),.agg [.int .i64 p1.kind,.int .i64 p1.ZX,.int .i64 p1.ZV.msg,.int .i64 p1.ZV.place,.int .i64 p1.ZV.from_,.int .i64 p1.ZV.age,.int .i64 p1.ZV.hops,.slice XK p1.qV.length XJ,.slice KR p1.Yc.length KQ,.int .i64 p1.place,.int .i64 p1.at_,.int .i64 p1.age].toArray] wm h (CP (fun(v:Value) (Gb:List (Ast wm))=>v= .bool r∧Gb= []) [] h):=by
 refine bg Tryz.ntmps73 Z0 Yd.nil ?_;intro T hT hS;unfold ZA6 at hL;refine r3 ?_;rintro _ h2 ⟨b1,eb1,rfl,hS⟩;refine r9 ?_;obtain⟨x3,hx3,hL⟩:=qZ hL;refine WO.cp gN rfl (Y9.fn ZzG (Zf lk (Zf lk Zz))) (Zsw (At.fz hS.fz X3 X4) (Stb.up hS.hw (Stb.fz hS.fz X4 X3)) (hS.Y1 ZB) (hS.Y1 ZM) (hS.Y1 ZF) (hS.Y1 ZL) (hS.Y1 ZI) (hS.Y1 Xw) hx3) ?_;refine r3 ?_;refine cn hL ?_ ?_
 ·intro hc hL;refine r7 ?_;exact rt hL hT hS
 ·intro hc hL;refine r8 ?_;refine WO.w gN rfl (YS Zfu (Zu lk (Zu lk ZT)) rfl (cs':= [.int .i64 p1.kind,.int .i64 p1.ZX,.int .i64 0,.int .i64 0,.int .i64 0,.int .i64 0,.int .i64 0,.slice none 0 0,.slice none 0 0,.int .i64 0,.int .i64 0,.int .i64 0]) rfl) ?_;refine r1 ?_;rintro _ h5 ⟨b4,eb4,rfl,hS⟩;refine r1 ?_;rintro h6 hS;refine r16 ?_;refine r4 ?_;refine cn hL ?_ ?_
  ·intro hc hL;refine r7 ?_;exact rt hL hT hS
  ·intro hc hL;refine r2 ?_;refine WC.Zae (r:=r) (fun(p:Int×Int×Int×Int×Int×Int×Int×Int) s=>match p with | (v11,v12,v13,v14,v15,v16,v17,v18)=>∃ fr8 h7,s= ⟨fr8,[],h7,none⟩∧Sp wm T h [bx wm b1 (cL p1 XK XJ KR KQ),bx wm b4 [.int .i64 p1.kind,.int .i64 p1.ZX,.int .i64 v11,.int .i64 v12,.int .i64 v13,.int .i64 v14,.int .i64 v15,.slice none 0 0,.slice none 0 0,.int .i64 v16,.int .i64 v17,.int .i64 v18]] h7∧fr8.at 3= .pointer (some ⟨b1,0,none⟩)∧fr8.at 5= .pointer (some ⟨b4,0,none⟩)) (Zgi p1) ?_ ?_
   ·clear hL hS;rintro⟨v11,v12,v13,v14,v15,v16,v17,v18⟩ s hL ⟨fr8,h7,rfl,hS,e9,e10⟩;dsimp only [Zgi] at hL;refine r6 ?_;refine WO.w gN rfl (Qe (YF (YC rfl fh) rfl) (YF fh rfl) (ZqX (xs:= [.int .i64 v11,.int .i64 v12,.int .i64 v13,.int .i64 v14,.int .i64 v15]) (ys:= [.int .i64 p1.ZV.msg,.int .i64 p1.ZV.place,.int .i64 p1.ZV.from_,.int .i64 p1.ZV.age,.int .i64 p1.ZV.hops]) (ZuQ (Zr.mk v11 v12 v13 v14 v15) p1.ZV) rfl rfl)) ?_;refine r16 ?_;refine r9 ?_;exact rt hL hT hS
   ·skip;refine r13 ?_;refine cn hL ?_ ?_
    ·intro hc hL;refine r6 ?_;rintro h19 hS;refine r9 ?_;obtain⟨x20,ZTq,hL⟩:=qZ hL;refine WO.cp gN rfl (Y9.fn ZF5 (Zf lk (Zf lk (Zf lk Zz)))) (WR.X9 rfl (ZA5 (Nat.le_refl _) (At.fz hS.fz X3 X4) (Stb.up hS.hw (Stb.fz hS.fz X4 X3)) (hS.Y1 ZB) (hS.Y1 ZM) (hS.Y1 ZF) (hS.Y1 ZL) (hS.Y1 ZI) (hS.Y1 Xw) ZTq)) ?_;refine r3 ?_;refine cn hL ?_ ?_
     ·intro hc hL;refine r7 ?_;refine YT.ret ?_;exact rt hL hT hS
     ·intro hc hL;refine r2 ?_;exact YT.YU _ hL ⟨_,_,rfl,hS.only sl,Yv⟩
    ·intro hc hL;refine r6 ?_;refine cn hL ?_ ?_
     ·intro hc hL;refine r1 ?_;refine WC.YD mixed Kq0 ?_;refine r3 ?_;refine WX.wr (fun x=>x=b1) hS gN rfl (fun _ _ hR=>Y4 WT (YF fh rfl) (At.eqv (hR b1 rfl) (hS.KC k1)) (j:=10) rfl (v:= .int .i64 p1.at_) rfl) ?_ rfl rfl;rintro h21 e22 hS;refine r1 ?_;refine WX.wr (fun x=>x=b1) hS gN rfl (fun _ _ hR=>Y4 WT (YF fh rfl) (At.eqv (hR b1 rfl) (hS.KC k1)) (j:=11) rfl (v:= .int .i64 p1.age) rfl) ?_ rfl rfl;rintro h23 e24 hS;refine r1 ?_;refine WX.hu gN (Ug hS k0 XE lk lk (vs:= [.int .i64 p1.place]) rfl rfl rfl rfl (cs':= [.int .i64 p1.kind,.int .i64 p1.ZX,.int .i64 0,.int .i64 0,.int .i64 0,.int .i64 0,.int .i64 0,.slice none 0 0,.slice none 0 0,.int .i64 p1.place,.int .i64 0,.int .i64 0]) rfl) ?_ rfl rfl [3,5] Kq0 (.c (.s .z) (hS.dj (.c k0 (.c k0 .n))) (.c .z (hS.dj (.c k0 (.c k0 .n))) Yg.e));rintro h25 hS;refine WX.w gN rfl (Qd ZuE lk) ?_ Kq0;refine WX.hu gN (Ug hS k0 XE lk lk (vs:= [.int .i64 p1.at_]) rfl rfl rfl rfl (cs':= [.int .i64 p1.kind,.int .i64 p1.ZX,.int .i64 0,.int .i64 0,.int .i64 0,.int .i64 0,.int .i64 0,.slice none 0 0,.slice none 0 0,.int .i64 p1.place,.int .i64 p1.at_,.int .i64 0]) rfl) ?_ rfl Kq0 [5] Kq0 (.c .z (hS.dj (.c k0 (.c k0 .n))) Yg.e);rintro h26 hS;refine WX.w gN rfl (Qd ZuD lk) ?_ Kq0;refine WX.hu gN (Ug hS k0 XE lk lk (vs:= [.int .i64 p1.age]) rfl rfl rfl rfl (cs':= [.int .i64 p1.kind,.int .i64 p1.ZX,.int .i64 0,.int .i64 0,.int .i64 0,.int .i64 0,.int .i64 0,.slice none 0 0,.slice none 0 0,.int .i64 p1.place,.int .i64 p1.at_,.int .i64 p1.age]) rfl) ?_ rfl Kq0 [] Kq0 Yg.e;rintro h27 hS;refine r13 ?_;obtain⟨x28,hx28,hL⟩:=Yi hL;refine WO.gcp (Zw.no rfl rfl rfl (YC rfl (ZC rfl fh))) rfl (fun hg=>(Y9.fn ZF0 (Zf (YQ (YC rfl fh) rfl hg) (Zf (YQ fh rfl hg) Zz)))) (fun hg=>ZAX (At.fz hS.fz X3 X4) (Stb.up hS.hw (Stb.fz hS.fz X4 X3)) (hS.Y1 ZB) (hS.Y1 ZM) (hS.Y1 ZF) (hS.Y1 ZL) (hS.Y1 ZI) (hS.Y1 Xw) (hx28 hg)) ?_;refine r10 ?_;obtain⟨x29,hx29,hL⟩:=Yi hL;refine WO.gcp (Zw.no rfl rfl rfl (Y5 rfl (YC rfl (ZC rfl fh)))) rfl (fun hg=>(Y9.fn ZzH (Zf (YQ (Y5 rfl (YC rfl fh)) rfl hg) (Zf (YQ (Y5 rfl fh) rfl hg) (Zf (YQ (YC rfl fh) rfl hg) (Zf (YQ fh rfl hg) Zz)))))) (fun hg=>Zsy (At.fz hS.fz X3 X4) (Stb.up hS.hw (Stb.fz hS.fz X4 X3)) (hS.Y1 ZB) (hS.Y1 ZM) (hS.Y1 ZF) (hS.Y1 ZL) (hS.Y1 ZI) (hS.Y1 Xw) (hx29 hg)) ?_;refine r4 ?_;refine cn hL ?_ ?_
      ·intro hc hL;refine r7 ?_;refine YT.ret ?_;exact rt hL hT hS
      ·intro hc hL;refine r2 ?_;exact YT.YU _ hL ⟨_,_,rfl,hS.only sl,Yv⟩
     ·intro hc hL;refine r2 ?_;exact YT.YU _ hL ⟨_,_,rfl,hS.only sl,Yv⟩
end Go.Proofs.YtbmbbcaaimehkaaGreat
end
end
section
namespace Go.Proofs.YtbmbbcaaimehkaaGreat
open Go.Lf
def Zgy (Ye:(ZY×Bool)) (v59:Int) (Zd6:(Int ->Option Int)) (x62:(List Zr)):Int ->(Int ->Option Int) ->Option Int:=fun v76 Zyh=>
 (bif decide (v76 < (x62.length:Int)) then(ZK x62 v76).bind fun x79=>(Zv8 Ye.1 v59 x79).bind fun x85=>(gd (!(!x85)) (ZK Ye.1.Xc x79.place) default).bind fun x86=>(bif((!x85) || (!(Zfo x86 (Yy.mk v59 false x79.age)))) then some 2 else Zyh (Y2 (v76 + 1))) else Zd6 (Y2 (v59 + 1)))
def Zgz (F:Nat) (p0:Zb) (Ye:(ZY×Bool)):Int ->(Int ->Option Int) ->Option Int:=fun v59 Zd6=>
 (bif decide (v59 < (p0.qJ.length:Int)) then(ZK p0.qJ v59).bind fun x62=>loop F (Zgy Ye v59 Zd6 x62) 0 else some 0)
def Zj3 (F:Nat) (p0:Zb) (Ye:(ZY×Bool)):Int ->(Int ->Option Int) ->Option Int:=fun v40 Zyn=>
 (bif decide (v40 < (p0.qG.length:Int)) then(ZK p0.qG v40).bind fun x43=>(ZA6 Ye.1 x43).bind fun x53=>(bif(!x53) then some 2 else Zyn (Y2 (v40 + 1))) else loop F (Zgz F p0 Ye) 0)
def Zqk (F:Nat) (p0:Zb):Option Int:=
 (ZA8 F p0).bind fun x3=>(gd (!(!x3)) (Zwb F p0) default).bind fun x4=>(bif((!x3) || (!x4)) then some 2 else(mkL (Yy.mk 0 false 0) 24 (p0.Zx.length:Int) (p0.Zx.length:Int)).bind fun z5=>(ZA7 F (ZY.mk p0 z5)).bind fun Ye=>(gd (!(!Ye.2)) (Zwa F Ye.1) default).bind fun x32=>(gd (!((!Ye.2) || (!x32))) (Zv9 F Ye.1) default).bind fun x33=>(bif(((!Ye.2) || (!x32)) || (!x33)) then some 2 else loop F (Zj3 F p0 Ye) 0))
end Go.Proofs.YtbmbbcaaimehkaaGreat
end
section
set_option maxRecDepth 20000
noncomputable section
namespace Go.Proofs.YtbmbbcaaimehkaaGreat
open Go.YR Go.Lf
theorem ZKt {F wm h} {p0:Zb} {Zi Zh Zm Zl Zk Zj Zo Zn Zq Zp} {r} (Z0:wm <=h.size) (ZB:Sl (Zt .i64) wm h Zi Zh p0.Zx) (ZM:Sl (ZN (Zt .i64)) wm h Zm Zl p0.qK) (ZF:Sl (ZN Zc) wm h Zk Zj p0.qQ) (ZL:Sl (ZN Ze) wm h Zo Zn p0.qJ) (ZI:Sl Zd wm h Zq Zp p0.qG) (hL:Zqk F p0=some r):
 WR XX 36 #[.agg [.slice Zi p0.Zx.length Zh,.slice Zm p0.qK.length Zl,.slice Zk p0.qQ.length Zj,.slice Zo p0.qJ.length Zn,.slice Zq p0.qG.length Zp,.int .i64 p0.said].toArray] wm h (CP (fun(v:Value) (Gb:List (Ast wm))=>v= .int .i64 r∧Gb= []) [] h):=by
 refine bg Tryz.ntmps36 Z0 Yd.nil ?_;intro T hT hS;unfold Zqk at hL;refine r3 ?_;rintro _ h2 ⟨b1,eb1,rfl,hS⟩;refine r7 ?_;obtain⟨x3,hx3,hL⟩:=qZ hL;refine WO.cp gN rfl (Y9.fn ZOa (Zf lk Zz)) (WR.X9 rfl (ZKc (Nat.le_refl _) (hS.Y1 ZB) (hS.Y1 ZM) (hS.Y1 ZF) (hS.Y1 ZL) (hS.Y1 ZI) hx3)) ?_;refine r3 ?_;obtain⟨x4,hx4,hL⟩:=Yi hL;refine WO.gcp (Zw.no rfl rfl rfl (ZC rfl fh)) rfl (fun hg=>(Y9.fn ZN9 (Zf (YQ fh rfl hg) Zz))) (fun hg=>ZKb (hS.Y1 ZB) (hS.Y1 ZM) (hS.Y1 ZF) (hS.Y1 ZL) (hS.Y1 ZI) (hx4 hg)) ?_;refine r4 ?_;refine cn hL ?_ ?_
 ·intro hc hL;refine r7 ?_;exact rt hL hT hS
 ·intro hc hL;refine r3 ?_;refine WC.YD mixed Kq0 ?_;refine r4 ?_;obtain⟨z5,hz5,hL⟩:=qZ hL;refine WX.hn gN rfl (ZxG (e:=XI) (x0:= (Yy.mk 0 false 0)) () hS Zrx Zal (ZEO) Zme rfl rfl (YF fh rfl) (YF fh rfl) rfl trivial hz5) ?_ rfl;rintro _ h7 ⟨b6,c8,eb6,rfl,hS⟩;refine WX.w gN rfl (YS ZK4 (Zu lk (Zu lk ZT)) rfl (cs':= (cG Zi p0.Zx.length Zh Zm p0.qK.length Zl Zk p0.qQ.length Zj Zo p0.qJ.length Zn Zq p0.qG.length Zp p0.said (some ⟨b6,0,none⟩) z5.length c8)) rfl) ?_ rfl;refine WX.hn gN rfl (ZFs hS lk (vs:= (cG Zi p0.Zx.length Zh Zm p0.qK.length Zl Zk p0.qQ.length Zj Zo p0.qJ.length Zn Zq p0.qG.length Zp p0.said (some ⟨b6,0,none⟩) z5.length c8)) rfl) ?_ rfl;rintro _ h10 ⟨b9,eb9,rfl,hS⟩;refine r7 ?_;obtain⟨Ye,Zd8,hL⟩:=qZ hL;refine WO.cl gN rfl (Y9.fn ZN8 (Zf lk Zz)) hS (.c k0 (.c k0 .n)) (fun g' hz hf hO=>ZJ9 (p0:= (ZY.mk p0 z5)) (by rw [hz];exact hS.hw) ((hS.sl ZB).mono hf) ((hS.sl ZM).mono hf) ((hS.sl ZF).mono hf) ((hS.sl ZL).mono hf) ((hS.sl ZI).mono hf) hO Zd8) ?_;rintro _ h30 _ ⟨a12,c14,a15,c17,a18,c20,a21,c23,a24,c26,a27,n28,c29,rfl,rfl⟩ hS;obtain rfl:=hS.on k6;refine r3 ?_;obtain⟨x32,hx32,hL⟩:=Yi hL;refine WO.gcp (Zw.no rfl rfl rfl (ZC rfl fh)) rfl (fun hg=>(Y9.fn ZN7 (Zf (YQ fh rfl hg) Zz))) (fun hg=>ZJ8 (hS.KC k0) (.inl (hS.lt k0)) (hS.ZaT k1) (hS.ZaT k2) (hS.ZaT k3) (hS.ZaT k4) (hS.ZaT k5) (hS.ord k6) (hx32 hg)) ?_;refine r4 ?_;obtain⟨x33,ZyS,hL⟩:=Yi hL;refine WO.gcp (Zw.no rfl rfl rfl (ZC rfl fh)) rfl (fun hg=>(Y9.fn ZN6 (Zf (YQ fh rfl hg) Zz))) (fun hg=>ZJ6 (hS.KC k0) (.inl (hS.lt k0)) (hS.ZaT k1) (hS.ZaT k2) (hS.ZaT k3) (hS.ZaT k4) (hS.ZaT k5) (hS.ord k6) (ZyS hg)) ?_;refine r4 ?_;refine cn hL ?_ ?_
  ·intro hc hL;refine r7 ?_;exact rt hL hT hS
  ·intro hc hL;refine WG ?_;refine WC.loop (WL.lift hL (fun v40 s=>∃ Zsq h34,s= ⟨Zsq,[],h34,none⟩∧Sp wm T h [bx wm b1 (cW p0 Zi Zh Zm Zl Zk Zj Zo Zn Zq Zp),bx wm b9 (cG a12 Ye.1.Za.Zx.length c14 a15 Ye.1.Za.qK.length c17 a18 Ye.1.Za.qQ.length c20 a21 Ye.1.Za.qJ.length c23 a24 Ye.1.Za.qG.length c26 Ye.1.Za.said a27 Ye.1.Xc.length c29),YA wm (ZN (Zt .i64)) (a12,c14) Ye.1.Za.Zx,YA wm (ZN (ZN (Zt .i64))) (a15,c17) Ye.1.Za.qK,YA wm (ZN (ZN Zc)) (a18,c20) Ye.1.Za.qQ,YA wm (ZN (ZN Ze)) (a21,c23) Ye.1.Za.qJ,YA wm (ZN Zd) (a24,c26) Ye.1.Za.qG,ow wm XI a27 Ye.1.Xc.length c29 Ye.1.Xc] h34∧Zsq.at 1= .pointer (some ⟨b1,0,none⟩)∧Zsq.at 3= .pointer (some ⟨b9,0,none⟩)∧Zsq.at 39= .slice Zq p0.qG.length Zp∧Zsq.at 40= .int .i64 (p0.qG.length:Int)∧Zsq.at 41= .int .i64 v40) ⟨_,_,rfl,hS.only sl,Yv⟩ ?_);clear hL hS;rintro Zyn v40 s ZDF hL ⟨Zsq,h34,rfl,hS,e36,e37,e38,e39,e41⟩;dsimp only [Zj3] at hL;refine r6 ?_;refine cn hL ?_ ?_
   ·intro hc hL;refine r6 ?_;obtain⟨x43,ZpK,hL⟩:=qZ hL;obtain⟨b44,o45,⟨⟨a46,c47⟩,⟨a48,c49⟩⟩,Zuo,Zp3,ZAh,ZlW⟩:=Sl.at_ ZI ZpK;refine r1 ?_;have ZFU:Sl (Zt .i64) wm h a46 c47 x43.qV:=ZlW.1;have ZpR:Sl (Zt .i64) wm h a48 c49 x43.Yc:=ZlW.2;refine WO.w gN rfl (YK WS Xf (YF fh rfl) (At.fz hS.fz ZAh Zp3) (j:=0) rfl rfl (ws:= (cL x43 a46 c47 a48 c49)) rfl) ?_;refine r1 ?_;rintro _ h51 ⟨b50,Z4B,rfl,hS⟩;refine r1 ?_;rintro h52 hS;refine r6 ?_;obtain⟨x53,ZTk,hL⟩:=qZ hL;refine WO.cp gN rfl (Y9.fn ZN5 (Zf lk (Zf lk Zz))) (WR.X9 rfl (ZJ4 (Nat.le_refl _) (hS.KC k2) (.inl (hS.lt k2)) (hS.ZaT k3) (hS.ZaT k4) (hS.ZaT k5) (hS.ZaT k6) (hS.ZaT k7) (hS.ord k8) (hS.Y1 ZFU) (hS.Y1 ZpR) ZTk)) ?_;refine r3 ?_;refine cn hL ?_ ?_
    ·intro hc hL;refine JC ?_;exact rt hL hT hS
    ·intro hc hL;refine r7 ?_;exact Ya.YU (ZDF _ _ hL ⟨_,_,rfl,hS.only sl,Yv⟩)
   ·intro hc hL;refine r15 ?_;refine WC.loop (WL.lift hL (fun v59 s=>∃ ZdE h54,s= ⟨ZdE,[],h54,none⟩∧Sp wm T h [bx wm b9 (cG a12 Ye.1.Za.Zx.length c14 a15 Ye.1.Za.qK.length c17 a18 Ye.1.Za.qQ.length c20 a21 Ye.1.Za.qJ.length c23 a24 Ye.1.Za.qG.length c26 Ye.1.Za.said a27 Ye.1.Xc.length c29),YA wm (ZN (Zt .i64)) (a12,c14) Ye.1.Za.Zx,YA wm (ZN (ZN (Zt .i64))) (a15,c17) Ye.1.Za.qK,YA wm (ZN (ZN Zc)) (a18,c20) Ye.1.Za.qQ,YA wm (ZN (ZN Ze)) (a21,c23) Ye.1.Za.qJ,YA wm (ZN Zd) (a24,c26) Ye.1.Za.qG,ow wm XI a27 Ye.1.Xc.length c29 Ye.1.Xc] h54∧ZdE.at 3= .pointer (some ⟨b9,0,none⟩)∧ZdE.at 51= .slice Zo p0.qJ.length Zn∧ZdE.at 52= .int .i64 (p0.qJ.length:Int)∧ZdE.at 53= .int .i64 v59) ⟨_,_,rfl,hS.only sl,Yv⟩ ?_);clear hL hS;rintro Zd6 v59 s Zm8 hL ⟨ZdE,h54,rfl,hS,e56,e57,e58,e60⟩;dsimp only [Zgz] at hL;refine r6 ?_;refine cn hL ?_ ?_
    ·intro hc hL;refine r7 ?_;obtain⟨x62,ZyL,hL⟩:=qZ hL;obtain⟨b63,o64,⟨a65,c66⟩,ZOz,ZPx,ZPg,Zz9⟩:=Sl.at_ ZL ZyL;refine r1 ?_;have Zzc:Sl Ze wm h a65 c66 x62:=Zz9;refine r13 ?_;refine WC.loop (WL.lift hL (fun v76 s=>∃ Zk7 h67,s= ⟨Zk7,[],h67,none⟩∧Sp wm T h [bx wm b9 (cG a12 Ye.1.Za.Zx.length c14 a15 Ye.1.Za.qK.length c17 a18 Ye.1.Za.qQ.length c20 a21 Ye.1.Za.qJ.length c23 a24 Ye.1.Za.qG.length c26 Ye.1.Za.said a27 Ye.1.Xc.length c29),YA wm (ZN (Zt .i64)) (a12,c14) Ye.1.Za.Zx,YA wm (ZN (ZN (Zt .i64))) (a15,c17) Ye.1.Za.qK,YA wm (ZN (ZN Zc)) (a18,c20) Ye.1.Za.qQ,YA wm (ZN (ZN Ze)) (a21,c23) Ye.1.Za.qJ,YA wm (ZN Zd) (a24,c26) Ye.1.Za.qG,ow wm XI a27 Ye.1.Xc.length c29 Ye.1.Xc] h67∧Zk7.at 3= .pointer (some ⟨b9,0,none⟩)∧Zk7.at 6= .int .i64 v59∧Zk7.at 51= .slice Zo p0.qJ.length Zn∧Zk7.at 52= .int .i64 (p0.qJ.length:Int)∧Zk7.at 53= .int .i64 v59∧Zk7.at 58= .slice a65 x62.length c66∧Zk7.at 59= .int .i64 (x62.length:Int)∧Zk7.at 60= .int .i64 v76) ⟨_,_,rfl,hS.only sl,Yv⟩ ?_);clear hL hS;rintro Zyh v76 s ZDv hL ⟨Zk7,h67,rfl,hS,e69,e70,e71,e72,e73,e74,e75,e77⟩;dsimp only [Zgy] at hL;refine r6 ?_;refine cn hL ?_ ?_
     ·intro hc hL;refine r6 ?_;obtain⟨x79,ZTd,hL⟩:=qZ hL;obtain⟨b80,o81,_,ZYy,ZPs,ZPa,ZYS⟩:=Sl.at_ Zzc ZTd;refine r1 ?_;refine WO.w gN rfl (YK Zfz Js (YF fh rfl) (At.fz hS.fz ZPa ZPs) (j:=0) rfl rfl (ws:= (cM x79)) rfl) ?_;refine r1 ?_;rintro _ h83 ⟨b82,ZVP,rfl,hS⟩;refine r1 ?_;rintro h84 hS;refine r3 ?_;refine WC.YD mixed Kq0 ?_;refine r3 ?_;obtain⟨x85,ZH2,hL⟩:=qZ hL;refine WX.cp gN rfl (Y9.fn ZF5 (Zf lk (Zf lk (Zf lk Zz)))) (WR.X9 rfl (ZA5 (Nat.le_refl _) (hS.KC k1) (.inl (hS.lt k1)) (hS.ZaT k2) (hS.ZaT k3) (hS.ZaT k4) (hS.ZaT k5) (hS.ZaT k6) (hS.ord k7) ZH2)) ?_ rfl rfl;refine r8 ?_;obtain⟨x86,ZM5,hL⟩:=Yi hL;obtain⟨b87,o88,_,hQ⟩:=Src.atG (fun hg=>(hS.Xj k7)) ZM5;have ZOv:=fun hg=>(hQ hg).1
      have ZPr:=fun hg=>(hQ hg).2.1
      have ZYQ:=fun hg=>(hQ hg).2.2
      refine WX.gv (Zw.no rfl rfl rfl (Y5 rfl (YC rfl fh))) rfl (fun hg=>(Yn Zrx Zal (YQ (YC rfl fh) rfl hg) (YQ fh rfl hg) rfl (ZOv hg) (ZM5 hg))) ?_ rfl;refine WX.gv (Zw.no rfl rfl rfl (Y5 rfl (YC rfl (ZC rfl fh)))) rfl (fun hg=>(YK Zow Zal (YQ fh rfl hg) (ZPr hg) (j:=0) rfl rfl (ws:= [.int .i64 x86.machine,.bool x86.here,.int .i64 x86.age]) rfl)) ?_ rfl;refine r3 ?_;refine WX.gv (Zw.no rfl rfl rfl (Xa rfl (YC rfl (ZC rfl fh)))) rfl (fun hg=>(YS Zs0 (Zu (YQ (YC rfl fh) rfl hg) (Zu lk (Zu (YQ fh rfl hg) ZT))) rfl (cs':= [.int .i64 v59,.bool false,.int .i64 x79.age]) rfl)) ?_ rfl;refine WX.gv (Zw.no rfl rfl rfl (Xa rfl (Y5 rfl fh))) rfl (fun hg=>(Qe (YQ (Y5 rfl fh) rfl hg) (YQ fh rfl hg) (Za4 (xs:= [.int .i64 x86.machine,.bool x86.here,.int .i64 x86.age]) (ys:= [.int .i64 v59,.bool false,.int .i64 x79.age]) (ZKH x86 (Yy.mk v59 false x79.age)) rfl rfl))) ?_ rfl;refine r3 ?_;refine cn hL ?_ ?_
      ·intro hc hL;refine r15 ?_;exact rt hL hT hS
      ·intro hc hL;refine r7 ?_;exact Ya.YU (ZDv _ _ hL ⟨_,_,rfl,hS.only sl,Yv⟩)
     ·intro hc hL;refine r10 ?_;exact Ya.YU (Zm8 _ _ hL ⟨_,_,rfl,hS.only sl,Yv⟩)
    ·intro hc hL;refine JC ?_;exact rt hL hT hS
end Go.Proofs.YtbmbbcaaimehkaaGreat
end
end
section
namespace Go.Proofs.YtbmbbcaaimehkaaGreat
open Go.Lf
def ZsF (F:Nat) (p0:Zb) (p1:ZH):Option (Zb×(List Zv)×Int):=
 (Zqk F p0).bind fun x7=>(gd (!(x7 !=0)) (Zwd p0 p1) default).bind fun x8=>(bif((x7 !=0) || (!x8)) then some ((Zb.mk [] [] [] [] [] 0),[],2) else(Zwc F p0 p1).bind fun x10=>(bif(x10 !=0) then some ((Zb.mk [] [] [] [] [] 0),[],x10) else(ZBi F p0).bind fun x12=>(ZBh F (Yb.mk x12 []) p1).bind fun x32=>some (x32.Za,x32.qX,0)))
end Go.Proofs.YtbmbbcaaimehkaaGreat
end
section
set_option maxRecDepth 20000
noncomputable section
namespace Go.Proofs.YtbmbbcaaimehkaaGreat
open Go.YR Go.Lf
theorem ZKB {F wm h} {p0:Zb} {p1:ZH} {Zi Zh Zm Zl Zk Zj Zo Zn Zq Zp} {r} (Z0:wm <=h.size) (ZB:Sl (Zt .i64) wm h Zi Zh p0.Zx) (ZM:Sl (ZN (Zt .i64)) wm h Zm Zl p0.qK) (ZF:Sl (ZN Zc) wm h Zk Zj p0.qQ) (ZL:Sl (ZN Ze) wm h Zo Zn p0.qJ) (ZI:Sl Zd wm h Zq Zp p0.qG) (hL:ZsF F p0 p1=some r):
 WR XX 20 #[.agg [.slice Zi p0.Zx.length Zh,.slice Zm p0.qK.length Zl,.slice Zk p0.qQ.length Zj,.slice Zo p0.qJ.length Zn,.slice Zq p0.qG.length Zp,.int .i64 p0.said].toArray,.agg [.int .i64 p1.act,.int .i64 p1.a,.int .i64 p1.b].toArray] wm h (CP (fun(v:Value) (Gb:List (Ast wm))=>∃ Xq Xo Xp Zcq Zcf Zcm Zbn Zcp Zce Zcl Zbm Zco Zcd Zck Zbl Zcn Zcc Zcj Zpl Zpe Zpi,v= .tuple [.agg [.slice Xq Xo Xp,.slice Zcq Zcf Zcm,.slice Zcp Zce Zcl,.slice Zco Zcd Zck,.slice Zcn Zcc Zcj,.int .i64 r.1.said].toArray,.slice Zpl Zpe Zpi,.int .i64 r.2.2].toArray∧Gb= [ow wm (Zt .i64) Xq Xo Xp r.1.Zx,YG wm (ZP (Zt .i64)) Zcq Zcf Zcm Zbn r.1.qK,YG wm (ZP Zc) Zcp Zce Zcl Zbm r.1.qQ,YG wm (ZP Ze) Zco Zcd Zck Zbl r.1.qJ,ow wm Zd Zcn Zcc Zcj r.1.qG,ow wm Zy Zpl Zpe Zpi r.2.1]) [] h):=by
 refine bg Tryz.ntmps20 Z0 Yd.nil ?_;intro T hT hS;unfold ZsF at hL;refine r3 ?_;rintro _ h2 ⟨b1,eb1,rfl,hS⟩;refine r1 ?_;rintro _ h4 ⟨b3,eb3,rfl,hS⟩;refine r1 ?_;rintro _ h6 ⟨b5,eb5,rfl,hS⟩;refine r8 ?_;obtain⟨x7,hx7,hL⟩:=qZ hL;refine WO.cp gN rfl (Y9.fn ZOm (Zf lk Zz)) (WR.X9 rfl (ZKt (Nat.le_refl _) (hS.Y1 ZB) (hS.Y1 ZM) (hS.Y1 ZF) (hS.Y1 ZL) (hS.Y1 ZI) hx7)) ?_;refine r4 ?_;obtain⟨x8,hx8,hL⟩:=Yi hL;refine WO.gcp (Zw.no rfl rfl rfl (YC rfl fh)) rfl (fun hg=>(Y9.fn ZOl (Zf (YQ (ZC rfl fh) rfl hg) (Zf (YQ fh rfl hg) Zz)))) (fun hg=>ZKs (hS.Y1 ZB) (hS.Y1 ZM) (hS.Y1 ZF) (hS.Y1 ZL) (hS.Y1 ZI) (hx8 hg)) ?_;refine r4 ?_;refine cn hL ?_ ?_
 ·intro hc hL;refine r2 ?_;refine WO.w gN rfl (YS Zkr ZT rfl (cs':= (cV none 0 0 none 0 0 none 0 0 none 0 0 none 0 0 0)) rfl) ?_;refine r1 ?_;rintro h9 hS;refine r6 ?_;have hS:=hS.nil (e:= (Zt .i64));have hS:=hS.ZbR (e:= (ZP (Zt .i64))) (ps:=fun _=>(ZP (Zt .i64)).dflt);have hS:=hS.ZbR (e:= (ZP Zc)) (ps:=fun _=>(ZP Zc).dflt);have hS:=hS.ZbR (e:= (ZP Ze)) (ps:=fun _=>(ZP Ze).dflt);have hS:=hS.nil (e:=Zd);have hS:=hS.nil (e:=Zy);have hr:=Oi0 hL;subst hr;exact Yk.gen (vs:= [.agg [.slice none 0 0,.slice none 0 0,.slice none 0 0,.slice none 0 0,.slice none 0 0,.int .i64 0].toArray,.slice none 0 0,.int .i64 2]) rfl (Y6 (Xa rfl (Y5 rfl (YC rfl fh))) (Ji ZfA KN (hS.KC k6) (j:=0) rfl rfl (ws:= (cV none 0 0 none 0 0 none 0 0 none 0 0 none 0 0 0)) rfl) (ZU lk (ZU lk ZE))) rfl ⟨_,⟨none,0,0,none,0,0,(fun _=>(ZP (Zt .i64)).dflt),none,0,0,(fun _=>(ZP Zc).dflt),none,0,0,(fun _=>(ZP Ze).dflt),none,0,0,none,0,0,rfl,rfl⟩,hT ▸ hS.only sl⟩
 ·intro hc hL;refine r7 ?_;obtain⟨x10,Zy6,hL⟩:=qZ hL;refine WO.cp gN rfl (Y9.fn ZOk (Zf lk (Zf lk Zz))) (ZKq (hS.Y1 ZB) (hS.Y1 ZM) (hS.Y1 ZF) (hS.Y1 ZL) (hS.Y1 ZI) Zy6) ?_;refine r9 ?_;refine cn hL ?_ ?_
  ·intro hc hL;refine r2 ?_;refine WO.w gN rfl (YS Zkr ZT rfl (cs':= (cV none 0 0 none 0 0 none 0 0 none 0 0 none 0 0 0)) rfl) ?_;refine r2 ?_;rintro h11 hS;refine r6 ?_;have hS:=hS.nil (e:= (Zt .i64));have hS:=hS.ZbR (e:= (ZP (Zt .i64))) (ps:=fun _=>(ZP (Zt .i64)).dflt);have hS:=hS.ZbR (e:= (ZP Zc)) (ps:=fun _=>(ZP Zc).dflt);have hS:=hS.ZbR (e:= (ZP Ze)) (ps:=fun _=>(ZP Ze).dflt);have hS:=hS.nil (e:=Zd);have hS:=hS.nil (e:=Zy);have hr:=Oi0 hL;subst hr;exact Yk.gen (vs:= [.agg [.slice none 0 0,.slice none 0 0,.slice none 0 0,.slice none 0 0,.slice none 0 0,.int .i64 0].toArray,.slice none 0 0,.int .i64 x10]) rfl (Y6 (Xa rfl (Xa rfl (Y5 rfl (ZC rfl fh)))) (Ji ZfA KN (hS.KC k6) (j:=0) rfl rfl (ws:= (cV none 0 0 none 0 0 none 0 0 none 0 0 none 0 0 0)) rfl) (ZU lk (ZU lk ZE))) rfl ⟨_,⟨none,0,0,none,0,0,(fun _=>(ZP (Zt .i64)).dflt),none,0,0,(fun _=>(ZP Zc).dflt),none,0,0,(fun _=>(ZP Ze).dflt),none,0,0,none,0,0,rfl,rfl⟩,hT ▸ hS.only sl⟩
  ·intro hc hL;refine r5 ?_;obtain⟨x12,Zr0,hL⟩:=qZ hL;refine WO.cl gN rfl (Y9.fn ZOj (Zf lk Zz)) hS .n (fun g' hz hf hO=>ZKo (by rw [hz];exact hS.hw) ((hS.sl ZB).mono hf) ((hS.sl ZM).mono hf) ((hS.sl ZF).mono hf) ((hS.sl ZL).mono hf) ((hS.sl ZI).mono hf) Zr0) ?_;rintro _ h28 _ ⟨a13,n14,c15,a16,n17,c18,ZXP,a19,n20,c21,ZFx,a22,n23,c24,ZFw,a25,n26,c27,rfl,rfl⟩ hS;obtain rfl:=hS.on k0;obtain rfl:=hS.YP k1;obtain rfl:=hS.YP k2;obtain rfl:=hS.YP k3;obtain rfl:=hS.on k4;refine WO.w gN rfl (YS ZK5 (Zu lk ZT) rfl (cs':= (cG a13 x12.Zx.length c15 a16 x12.qK.length c18 a19 x12.qQ.length c21 a22 x12.qJ.length c24 a25 x12.qG.length c27 x12.said none 0 0)) rfl) ?_;refine r1 ?_;rintro _ h31 ⟨b30,Z4J,rfl,hS⟩;refine r7 ?_;obtain⟨x32,hx32,hL⟩:=qZ hL;have hS:=hS.nil (e:=Zy);refine WO.cl gN rfl (Y9.fn ZOi (Zf lk (Zf lk Zz))) hS (.c k1 (.c k1 (.c k1 (.c k1 (.c k1 (.c k1 (.c k0 .n))))))) (fun g' hz hf hO=>ZKn (p0:= (Yb.mk x12 [])) (by rw [hz];exact hS.hw) hO hx32) ?_;rintro _ h51 _ ⟨a33,n34,c35,a36,n37,c38,ZxU,a39,n40,c41,ZFu,a42,n43,c44,ZFt,a45,n46,c47,a48,n49,c50,rfl,rfl⟩ hS;obtain rfl:=hS.on k1;obtain rfl:=hS.YP k2;obtain rfl:=hS.YP k3;obtain rfl:=hS.YP k4;obtain rfl:=hS.on k5;obtain rfl:=hS.on k6;refine r3 ?_;refine WC.YD mixed Kq0 ?_;refine r7 ?_;refine WX.wr (fun x=>x=b30) hS gN rfl (fun _ _ hR=>Y4 ZGP (YF fh rfl) (At.eqv (hR b30 rfl) (hS.KC k0)) (j:=6) rfl (v:= .slice a48 x32.qX.length c50) rfl) ?_ rfl rfl;rintro h53 e54 hS;refine WX.hu gN (Ug hS k7 KN lk lk (vs:= (cW x32.Za a33 c35 a36 c38 a39 c41 a42 c44 a45 c47)) rfl rfl rfl rfl (cs':= (cW x32.Za a33 c35 a36 c38 a39 c41 a42 c44 a45 c47)) rfl) ?_ rfl rfl [7] Kq0 (.c .z (hS.dj (.c k7 (.c k0 .n))) Yg.e);rintro h55 hS;refine WX.w gN rfl (Zdz lk) ?_ Kq0;refine WX.w gN rfl (Zdz lk) ?_ Kq0;refine r3 ?_;have hr:=Oi0 hL;subst hr;exact Yk.gen (vs:= [.agg [.slice a33 x32.Za.Zx.length c35,.slice a36 x32.Za.qK.length c38,.slice a39 x32.Za.qQ.length c41,.slice a42 x32.Za.qJ.length c44,.slice a45 x32.Za.qG.length c47,.int .i64 x32.Za.said].toArray,.slice a48 x32.qX.length c50,.int .i64 0]) rfl (Y6 (Xa rfl (Xa rfl (Xa rfl (Xa rfl (YC rfl (ZC rfl fh)))))) (Ji ZfA KN (hS.KC k0) (j:=0) rfl rfl (ws:= (cW x32.Za a33 c35 a36 c38 a39 c41 a42 c44 a45 c47)) rfl) (ZU lk (ZU lk ZE))) rfl ⟨_,⟨a33,x32.Za.Zx.length,c35,a36,x32.Za.qK.length,c38,ZxU,a39,x32.Za.qQ.length,c41,ZFu,a42,x32.Za.qJ.length,c44,ZFt,a45,x32.Za.qG.length,c47,a48,x32.qX.length,c50,rfl,rfl⟩,hT ▸ hS.only sl⟩
end Go.Proofs.YtbmbbcaaimehkaaGreat
end
end
section
namespace Go.Proofs.YtbmbbcaaimehkaaGreat
open Go.Lf
def f4L (F:Nat) (p0:Zb) (p1:ZH):Option Bool:=
 (ZBm F p0).bind fun x5=>(bif(!x5) then(ZEt).bind fun x6=>some x6 else(ZsF F p0 p1).bind fun x7=>(ZnY F p0).bind fun x31=>(gd (!(!x31)) (Zwf p0 p1) default).bind fun x32=>(bif((!x31) || (!x32)) then(gd (x7.2.2==2) (Zwg F x7.1) default).bind fun x33=>(gd (((x7.2.2==2) && x33) && ((x7.2.1.length:Int)==0)) (ZEt) default).bind fun x34=>some ((((x7.2.2==2) && x33) && ((x7.2.1.length:Int)==0)) && x34) else(ZBk F p0 p1).bind fun x35=>(gd (x7.2.2==x35.2.2) (ZsG F x7.1 x35.1) default).bind fun x59=>(gd ((x7.2.2==x35.2.2) && x59) (Zwe F x7.2.1 x35.2.1) default).bind fun x60=>(gd ((((x7.2.2==x35.2.2) && x59) && x60) && (!(x7.2.2 !=0))) (ZnY F x35.1) default).bind fun x61=>(gd ((((x7.2.2==x35.2.2) && x59) && x60) && ((x7.2.2 !=0) || x61)) (ZEt) default).bind fun x62=>some (((((x7.2.2==x35.2.2) && x59) && x60) && ((x7.2.2 !=0) || x61)) && x62)))
end Go.Proofs.YtbmbbcaaimehkaaGreat
end
section
set_option maxRecDepth 20000
noncomputable section
namespace Go.Proofs.YtbmbbcaaimehkaaGreat
open Go.YR Go.Lf
theorem ZP5 {F wm h} {p0:Zb} {p1:ZH} {Zi Zh Zm Zl Zk Zj Zo Zn Zq Zp} {r} (Z0:wm <=h.size) (ZB:Sl (Zt .i64) wm h Zi Zh p0.Zx) (ZM:Sl (ZN (Zt .i64)) wm h Zm Zl p0.qK) (ZF:Sl (ZN Zc) wm h Zk Zj p0.qQ) (ZL:Sl (ZN Ze) wm h Zo Zn p0.qJ) (ZI:Sl Zd wm h Zq Zp p0.qG) (hL:f4L F p0 p1=some r):
 WR XX 4 #[.agg [.slice Zi p0.Zx.length Zh,.slice Zm p0.qK.length Zl,.slice Zk p0.qQ.length Zj,.slice Zo p0.qJ.length Zn,.slice Zq p0.qG.length Zp,.int .i64 p0.said].toArray,.agg [.int .i64 p1.act,.int .i64 p1.a,.int .i64 p1.b].toArray] wm h (CP (fun(v:Value) (Gb:List (Ast wm))=>v= .bool r∧Gb= []) [] h):=by
 refine bg Tryz.ntmps4 Z0 Yd.nil ?_;intro T hT hS;unfold f4L at hL;refine r3 ?_;rintro _ h2 ⟨b1,eb1,rfl,hS⟩;refine r1 ?_;rintro _ h4 ⟨b3,eb3,rfl,hS⟩;refine r7 ?_;obtain⟨x5,hx5,hL⟩:=qZ hL;refine WO.cp gN rfl (Y9.fn ZOr (Zf lk Zz)) (WR.X9 rfl (ZKC (Nat.le_refl _) (hS.Y1 ZB) (hS.Y1 ZM) (hS.Y1 ZF) (hS.Y1 ZL) (hS.Y1 ZI) hx5)) ?_;refine r3 ?_;refine cn hL ?_ ?_
 ·intro hc hL;refine r2 ?_;obtain⟨x6,hx6,hL⟩:=qZ hL;refine WO.cp gN rfl (Y9.fn ZzN Zz) (ZsH hx6) ?_;refine r5 ?_;exact rt hL hT hS
 ·intro hc hL;refine r6 ?_;obtain⟨x7,hx7,hL⟩:=qZ hL;refine WO.cl gN rfl (Y9.fn ZOq (Zf lk (Zf lk Zz))) hS .n (fun g' hz hf hO=>ZKB (by rw [hz];exact hS.hw) ((hS.sl ZB).mono hf) ((hS.sl ZM).mono hf) ((hS.sl ZF).mono hf) ((hS.sl ZL).mono hf) ((hS.sl ZI).mono hf) hx7) ?_;rintro _ h26 _ ⟨a8,n9,c10,a11,n12,c13,ZFA,a14,n15,c16,ZFy,a17,n18,c19,ZXO,a20,n21,c22,a23,n24,c25,rfl,rfl⟩ hS;obtain rfl:=hS.on k0;obtain rfl:=hS.YP k1;obtain rfl:=hS.YP k2;obtain rfl:=hS.YP k3;obtain rfl:=hS.on k4;obtain rfl:=hS.on k5;refine r5 ?_;rintro _ h29 ⟨b28,Z4K,rfl,hS⟩;refine r1 ?_;rintro h30 hS;refine r8 ?_;obtain⟨x31,hx31,hL⟩:=qZ hL;refine WO.cp gN rfl (Y9.fn ZF7 (Zf lk Zz)) (ZBl (hS.Y1 ZB) (hS.Y1 ZM) (hS.Y1 ZF) (hS.Y1 ZL) (hS.Y1 ZI) hx31) ?_;refine r4 ?_;obtain⟨x32,hx32,hL⟩:=Yi hL;refine WO.gcp (Zw.no rfl rfl rfl (YC rfl fh)) rfl (fun hg=>(Y9.fn ZOp (Zf (YQ (ZC rfl fh) rfl hg) (Zf (YQ fh rfl hg) Zz)))) (fun hg=>ZKz (hS.Y1 ZB) (hS.Y1 ZM) (hS.Y1 ZF) (hS.Y1 ZL) (hS.Y1 ZI) (hx32 hg)) ?_;refine r4 ?_;refine cn hL ?_ ?_
  ·intro hc hL;refine r6 ?_;obtain⟨x33,ZyS,hL⟩:=Yi hL;refine WO.gcp (Zw.yes rfl rfl rfl (ZC rfl fh)) rfl (fun hg=>(Y9.fn ZOs (Zf (YQ fh rfl hg) Zz))) (fun hg=>ZKF (hS.ord k1) (hS.nrd k2 Jj) (hS.nrd k3 Jj) (hS.nrd k4 Jj) (hS.ord k5) (ZyS hg)) ?_;refine r7 ?_;obtain⟨x34,hx34,hL⟩:=Yi hL;refine WO.gcp (Zw.yes rfl rfl rfl fh) rfl (fun hg=>(Y9.fn ZzN Zz)) (fun hg=>ZsH (hx34 hg)) ?_;refine r6 ?_;exact rt hL hT hS
  ·intro hc hL;refine r6 ?_;obtain⟨x35,ZTo,hL⟩:=qZ hL;refine WO.cl gN rfl (Y9.fn ZOo (Zf lk (Zf lk Zz))) hS .n (fun g' hz hf hO=>ZKx (by rw [hz];exact hS.hw) ((hS.sl ZB).mono hf) ((hS.sl ZM).mono hf) ((hS.sl ZF).mono hf) ((hS.sl ZL).mono hf) ((hS.sl ZI).mono hf) ZTo) ?_;rintro _ h54 _ ⟨a36,n37,c38,a39,n40,c41,ZFu,a42,n43,c44,ZFt,a45,n46,c47,ZXN,a48,n49,c50,a51,n52,c53,rfl,rfl⟩ hS;simp only [List.cons_append,List.nil_append] at hS;obtain rfl:=hS.on k0;obtain rfl:=hS.YP k1;obtain rfl:=hS.YP k2;obtain rfl:=hS.YP k3;obtain rfl:=hS.on k4;obtain rfl:=hS.on k5;refine r5 ?_;rintro _ h57 ⟨b56,ZVT,rfl,hS⟩;refine r1 ?_;rintro h58 hS;refine WG ?_;obtain⟨x59,ZyM,hL⟩:=Yi hL;refine WO.gcp (Zw.yes rfl rfl rfl (YC rfl fh)) rfl (fun hg=>(Y9.fn ZF8 (Zf (YQ (ZC rfl fh) rfl hg) (Zf (YQ fh rfl hg) Zz)))) (fun hg=>ZBn (hS.ord k8) (hS.nrd k9 Jj) (hS.nrd k10 Jj) (hS.nrd k11 Jj) (hS.ord k12) (hS.ord k1) (hS.nrd k2 Jj) (hS.nrd k3 Jj) (hS.nrd k4 Jj) (hS.ord k5) (ZyM hg)) ?_;refine r4 ?_;obtain⟨x60,ZTi,hL⟩:=Yi hL;refine WO.gcp (Zw.yes rfl rfl rfl (YC rfl fh)) rfl (fun hg=>(Y9.fn ZOn (Zf (YQ (ZC rfl fh) rfl hg) (Zf (YQ fh rfl hg) Zz)))) (fun hg=>ZKw (hS.ord k13) (hS.ord k6) (ZTi hg)) ?_;refine r6 ?_;obtain⟨x61,ZhL,hL⟩:=Yi hL;refine WO.gcp (Zw.no2 rfl rfl rfl (ZC rfl fh)) rfl (fun hg=>(Y9.fn ZF7 (Zf (YQ fh rfl hg) Zz))) (fun hg=>ZBl (hS.ord k1) (hS.nrd k2 Jj) (hS.nrd k3 Jj) (hS.nrd k4 Jj) (hS.ord k5) (ZhL hg)) ?_;refine WO.gv (Zw.yes rfl rfl rfl (Y5 rfl (ZC rfl fh))) rfl (fun hg=>(Zl8 (YQ (YC rfl fh) rfl hg) lk (Zfm fh hg))) ?_;refine r2 ?_;obtain⟨x62,ZyL,hL⟩:=Yi hL;refine WO.gcp (Zw.yes rfl rfl rfl fh) rfl (fun hg=>(Y9.fn ZzN Zz)) (fun hg=>ZsH (ZyL hg)) ?_;refine r5 ?_;exact rt hL hT hS
theorem ZP6 {F h} {p0:Zb} {p1:ZH} {Zi Zh Zm Zl Zk Zj Zo Zn Zq Zp} {r} (ZB:Sl (Zt .i64) h.size h Zi Zh p0.Zx) (ZM:Sl (ZN (Zt .i64)) h.size h Zm Zl p0.qK) (ZF:Sl (ZN Zc) h.size h Zk Zj p0.qQ) (ZL:Sl (ZN Ze) h.size h Zo Zn p0.qJ) (ZI:Sl Zd h.size h Zq Zp p0.qG) (hL:f4L F p0 p1=some r):Pure XX 4 #[.agg [.slice Zi p0.Zx.length Zh,.slice Zm p0.qK.length Zl,.slice Zk p0.qQ.length Zj,.slice Zo p0.qJ.length Zn,.slice Zq p0.qG.length Zp,.int .i64 p0.said].toArray,.agg [.int .i64 p1.act,.int .i64 p1.a,.int .i64 p1.b].toArray] h (.bool r):=
 WR.X9 rfl (ZP5 (Nat.le_refl _) ZB ZM ZF ZL ZI hL)
end Go.Proofs.YtbmbbcaaimehkaaGreat
end
end
section
namespace Go.Proofs.YtbmbbcaaimehkaaGreat
open Go.Lf
end Go.Proofs.YtbmbbcaaimehkaaGreat
end
section
set_option maxRecDepth 20000
noncomputable section
namespace Go.Proofs.YtbmbbcaaimehkaaGreat
open Go.YR Go.Lf
end Go.Proofs.YtbmbbcaaimehkaaGreat
end
end
section
end
section
namespace Go.Lf
theorem Zxb {k:Nat} (h:k < 4611686018427387904):Y2 ((k:Int) + 1)= ((k + 1:Nat):Int):=by
 rw [WV (by omega) (by omega)];rfl
theorem Zxc {k:Nat} (h:k < 4611686018427387904) (h0:0 < k):Y2 ((k:Int) - 1)= ((k - 1:Nat):Int):=by
 rw [WV (by omega) (by omega)];omega
theorem Zkw {α:Type} {Jq:Nat} {xs ys:List α} (h:xs.length + ys.length <=1000000) (hb:Jq <=1000):app Jq xs ys=some (xs ++ ys):=
 Zs7 (Nat.le_trans (Nat.mul_le_mul (show 2 * (xs.length + ys.length) + 1000 <=2001000 by omega) hb) (by decide))
def iter {α β σ:Type} (g:Nat ->α ->σ ->(σ ->Option β) ->Option β) (d:σ ->Option β):Nat ->List α ->σ ->Option β
 | _,[],s=>d s
 | i,x::l,s=>g i x s (fun s'=>iter g d (i + 1) l s')
end Go.Lf
end
section
namespace Go.Proofs.YtbmbbcaaimehkaaGreat
open Go.Lf
section
variable {β γ:Type}
theorem QU {body:γ ->(γ ->Option β) ->Option β} {r:Option β} (S:Nat ->γ) {n F:Nat} (hF:n < F) (hb:∀ k,k < n ->∀ next,body (S k) next=next (S (k + 1))) (he:∀ next,body (S n) next=r):loop F body (S 0)=r:=by
 have:∀ j F,j <=n ->n - j < F ->loop F body (S j)=r:=by
  intro j F hj hF;obtain⟨d,hd⟩:∃ d,d=n - j:= ⟨_,rfl⟩
  induction d generalizing j F with
  | zero=>
    have:j=n:=by omega
    subst this;cases F with
    | zero=>omega
    | succ F=>rw [Zdm];exact he _
  | succ d ih=>
    cases F with
    | zero=>omega
    | succ F=>rw [Zdm,hb j (by omega)];exact ih (j + 1) F (by omega) (by omega) (by omega)
 exact this 0 F (Nat.zero_le _) (by omega)
theorem Zpz {body:γ ->(γ ->Option β) ->Option β} {r1 r2:Option β} (S:Nat ->γ) (c:Nat ->Bool) {n F:Nat} (hF:n < F) (hb:∀ k,k < n ->∀ next,body (S k) next=bif c k then r1 else next (S (k + 1))) (he:∀ next,body (S n) next=r2):loop F body (S 0)=bif(List.range n).any c then r1 else r2:=by
 cases h:(List.range n).any c with
 | false=>
   rw [List.any_eq_false] at h;refine QU S hF (fun k hk next=>?_) he;have:=h k (List.mem_range.2 hk);rw [hb k hk,Bool.eq_false_iff.2 this];rfl
 | true=>
   have hex:∃ k,k < n∧c k=true:=by
    obtain⟨k,h1,h2⟩:=List.any_eq_true.1 h;exact⟨k,List.mem_range.1 h1,h2⟩
   have hm:∃ m,(m < n∧c m=true)∧∀ k,k < m ->c k=false:=by
    obtain⟨k,hk⟩:=hex
    induction k using Nat.strongRecOn with
    | _ k ih=>
      by_cases hz:∃ j,j < k∧c j=true
      ·obtain⟨j,h1,h2⟩:=hz;exact ih j h1 ⟨by omega,h2⟩
      ·exact⟨k,hk,fun j hj=>Bool.eq_false_iff.2 fun q=>hz ⟨j,hj,q⟩⟩
   obtain⟨m,⟨h1,h2⟩,h3⟩:=hm;refine QU S (n:=m) (by omega) (fun k hk next=>?_) (fun next=>?_)
   ·rw [hb k (by omega),h3 k hk];rfl
   ·rw [hb m h1,h2];rfl
end
theorem YB {k:Nat} (h:k < 4611686018427387904):Y2 ((k:Int) + 1)= ((k + 1:Nat):Int):=Zxb h
theorem ZJ {k n:Nat} (h:k < n):decide ((k:Int) < (n:Int))=true:=decide_eq_true (by omega)
theorem ZR (n:Nat):decide ((n:Int) < (n:Int))=false:=decide_eq_false (by omega)
theorem YW {α:Type} {l:List α} {k:Nat} (h:k < l.length):ZK l (k:Int)=some l[k]:=by rw [Zjm,List.getElem?_eq_getElem h]
theorem app1 {α:Type} {b:Nat} {l:List α} {x:α} (h:l.length <=900000) (hb:b <=1000):app b l [x]=some (l ++ [x]):=Zkw (by simp;omega) hb
theorem XZ {α:Type} [BEq α] [LawfulBEq α] (a:α):(a !=a)=false:=by simp
end Go.Proofs.YtbmbbcaaimehkaaGreat
end
section
namespace Go.Proofs.YtbmbbcaaimehkaaGreat
open Go.Lf
structure UQ (n:Nat) (w:Zb):Prop where
 Zx:w.Zx.length < n
 qK:w.qK.length < n
 qQ:w.qQ.length < n
 qJ:w.qJ.length < n
 qG:w.qG.length < n
 box:∀ l ∈ w.qK,l.length < n
 row:∀ l ∈ w.qQ,l.length < n
 hel:∀ l ∈ w.qJ,l.length < n
 Xm:∀ x ∈ w.qG,x.qV.length < n∧x.Yc.length < n
theorem UQ.mono {n m:Nat} {w:Zb} (h:UQ n w) (hm:n <=m):UQ m w:=
 ⟨Nat.lt_of_lt_of_le h.Zx hm,Nat.lt_of_lt_of_le h.qK hm,Nat.lt_of_lt_of_le h.qQ hm,Nat.lt_of_lt_of_le h.qJ hm,Nat.lt_of_lt_of_le h.qG hm,fun l q=>Nat.lt_of_lt_of_le (h.box l q) hm,fun l q=>Nat.lt_of_lt_of_le (h.row l q) hm,fun l q=>Nat.lt_of_lt_of_le (h.hel l q) hm,fun x q=>⟨Nat.lt_of_lt_of_le (h.Xm x q).1 hm,Nat.lt_of_lt_of_le (h.Xm x q).2 hm⟩⟩
theorem Zdo {F:Nat} {a:List Int} (hF:a.length < F) (hM:F <=1000000):ZnV F a a=some true:=by
 unfold ZnV;rw [XZ,Cq0];refine QU (fun k=>(k:Int)) hF (fun k hk next=>?_) (fun next=>?_)
 ·unfold ZnU;rw [ZJ hk,Cq1,YW hk];simp only [Bq0,XZ,Cq0];rw [YB (by omega)]
 ·unfold ZnU;rw [ZR];rfl
theorem Zoa (x:ZA):Qx x x=true:=by simp [Qx]
theorem Zhw (x:Zr):Xt x x=true:=by simp [Xt]
theorem Zn9 (x:Zv):Kv x x=true:=by simp [Kv]
theorem Zhu {F:Nat} {a:List Zv} (hF:a.length < F) (hM:F <=1000000):Zwe F a a=some true:=by
 unfold Zwe;rw [XZ,Cq0];refine QU (fun k=>(k:Int)) hF (fun k hk next=>?_) (fun next=>?_)
 ·unfold ZnW;rw [ZJ hk,Cq1,YW hk];simp only [Bq0,Zn9,Bool.not_true,Cq0];rw [YB (by omega)]
 ·unfold ZnW;rw [ZR];rfl
theorem ZfZ {n F:Nat} {w:Zb} (h:UQ n w) (hF:n <=F) (hM:F <=1000000):ZsG F w w=some true:=by
 have h5:loop F (Zj8 F w w) 0=some true:=by
  refine QU (fun k=>(k:Int)) (n:=w.qG.length) (Nat.lt_of_lt_of_le h.qG hF) (fun k hk next=>?_) (fun next=>?_)
  ·unfold Zj8;have hx:=h.Xm _ (List.getElem_mem hk);rw [ZJ hk,Cq1,YW hk];simp only [Bq0,XZ,Zhw,Bool.not_true,Bool.or_false,Bool.not_false,Yu,Zdo (Nat.lt_of_lt_of_le hx.1 hF) hM,Zdo (Nat.lt_of_lt_of_le hx.2 hF) hM,Cq0];rw [YB (by have:=h.qG;omega)]
  ·unfold Zj8;rw [ZR];rfl
 have h3:loop F (Zj9 F w w) 0=some true:=by
  refine QU (fun k=>(k:Int)) (n:=w.qJ.length) (Nat.lt_of_lt_of_le h.qJ hF) (fun k hk next=>?_) (fun next=>?_)
  ·unfold Zj9;have hx:=h.hel _ (List.getElem_mem hk);rw [ZJ hk,Cq1,YW hk];simp only [Bq0,XZ,Cq0];refine QU (fun j=>(j:Int)) (n:=w.qJ[k].length) (Nat.lt_of_lt_of_le hx hF) (fun j hj next=>?_) (fun next=>?_)
   ·unfold ZnZ;rw [ZJ hj,Cq1,YW hk];simp only [Bq0,YW hj,Zhw,Bool.not_true,Cq0];rw [YB (by omega)]
   ·unfold ZnZ;rw [ZR,Cq0,YB (by have:=h.qJ;omega)]
  ·unfold Zj9;rw [ZR];exact h5
 have h1:loop F (Zka F w w) 0=some true:=by
  refine QU (fun k=>(k:Int)) (n:=w.qQ.length) (Nat.lt_of_lt_of_le h.qQ hF) (fun k hk next=>?_) (fun next=>?_)
  ·unfold Zka;have hx:=h.row _ (List.getElem_mem hk);rw [ZJ hk,Cq1,YW hk];simp only [Bq0,XZ,Cq0];refine QU (fun j=>(j:Int)) (n:=w.qQ[k].length) (Nat.lt_of_lt_of_le hx hF) (fun j hj next=>?_) (fun next=>?_)
   ·unfold Zn0;rw [ZJ hj,Cq1,YW hk];simp only [Bq0,YW hj,Zoa,Bool.not_true,Cq0];rw [YB (by omega)]
   ·unfold Zn0;rw [ZR,Cq0,YB (by have:=h.qQ;omega)]
  ·unfold Zka;rw [ZR];exact h3
 unfold ZsG;rw [Zdo (Nat.lt_of_lt_of_le h.Zx hF) hM];simp only [Bq0,Bool.not_true,XZ,Bool.or_false,Cq0];refine QU (fun k=>(k:Int)) (n:=w.qK.length) (Nat.lt_of_lt_of_le h.qK hF) (fun k hk next=>?_) (fun next=>?_)
 ·unfold Zn1;have hx:=h.box _ (List.getElem_mem hk);rw [ZJ hk,Cq1,YW hk];simp only [Bq0,Zdo (Nat.lt_of_lt_of_le hx hF) hM,Bool.not_true,Cq0];rw [YB (by have:=h.qK;omega)]
 ·unfold Zn1;rw [ZR];exact h1
abbrev ZgL:Zb:= ⟨[],[],[],[],[],0⟩
theorem Zl4:UQ 1 ZgL:= ⟨by simp,by simp,by simp,by simp,by simp,by simp,by simp,by simp,by simp⟩
theorem Yh {β γ:Type} {body:γ ->(γ ->Option β) ->Option β} {r:Option β} {s0:γ} (S:Nat ->γ) (h0:S 0=s0) {n F:Nat} (hF:n < F) (hb:∀ k,k < n ->∀ next,body (S k) next=next (S (k + 1))) (he:∀ next,body (S n) next=r):loop F body s0=r:=h0 ▸ QU S hF hb he
def row (w:Zb) (m:Nat):List ZA:=w.qQ.getD m []
def E (w:Zb) (m p:Nat):ZA:= (row w m).getD p default
structure Wi (w:Zb):Prop where
 m1:1 <=w.qQ.length
 m2:w.qQ.length <=5
 p1:1 <=w.Zx.length
 p2:w.Zx.length <=8
 bx:w.qK.length=w.Zx.length
 hd:w.qJ.length=w.qQ.length
 rw_:∀ l ∈ w.qQ,l.length=w.Zx.length
theorem YL {α:Type} {l:List α} {k:Nat} {d:α} (h:k < l.length):l.getD k d ∈ l:=by
 rw [List.getD_eq_getElem?_getD,List.getElem?_eq_getElem h];exact List.getElem_mem h
theorem YM {α:Type} {l:List α} {k:Nat} (d:α) (h:k < l.length):ZK l (k:Int)=some (l.getD k d):=by
 rw [YW h,List.getD_eq_getElem?_getD,List.getElem?_eq_getElem h];rfl
theorem Wi.row {w:Zb} (s:Wi w) {m:Nat} (h:m < w.qQ.length):ZK w.qQ (m:Int)=some (row w m):=YM [] h
theorem Wi.len {w:Zb} (s:Wi w) {m:Nat} (h:m < w.qQ.length):(Proofs.YtbmbbcaaimehkaaGreat.row w m).length=w.Zx.length:=s.rw_ _ (YL h)
theorem Wi.ent {w:Zb} (s:Wi w) {m p:Nat} (h:m < w.qQ.length) (hp:p < w.Zx.length):ZK (Proofs.YtbmbbcaaimehkaaGreat.row w m) (p:Int)=some (E w m p):=YM default (by rw [s.len h];exact hp)
def Xr (w:Zb) (p k:Nat):List Yy:= (List.range k).filterMap fun m=>if(E w m p).here then some ⟨(m:Int),true,(E w m p).age⟩ else none
def Wy (x:Zg) (p j:Nat):List Yy:= (List.range j).filterMap fun i=>if x.qV.getD i 0= (p:Int) then some ⟨x.ZX,false,x.Yc.getD i 0⟩ else none
def WU (x:Zg) (p:Nat):List Yy:=if x.kind=2 then Wy x p x.qV.length else []
def Qh (l:List Zg) (p:Nat):List Yy:=l.flatMap fun x=>WU x p
def Y7 (w:Zb) (p:Nat):List Yy:=Xr w p w.qQ.length ++ Qh w.qG p
def Kg (l:List Yy):Yy:=l.getLastD ⟨0,false,0⟩
theorem Zi8 (l:List Yy) (x:Yy):Kg (l ++ [x])=x:=by unfold Kg;simp
theorem ZAL {α β:Type} (f:α ->Option β) (a:α): [a].filterMap f= (f a).toList:=by
 cases h:f a <;> simp [List.filterMap_cons,h]
theorem JJ (w:Zb) (p k:Nat):Xr w p (k + 1)=Xr w p k ++ (if(E w k p).here then [⟨(k:Int),true,(E w k p).age⟩] else []):=by
 unfold Xr;rw [List.range_succ,List.filterMap_append,ZAL];congr 1;by_cases h:(E w k p).here=true
 ·rw [if_pos h,if_pos h];rfl
 ·rw [if_neg h,if_neg h];rfl
theorem ZfQ (x:Zg) (p j:Nat):Wy x p (j + 1)=Wy x p j ++ (if x.qV.getD j 0= (p:Int) then [⟨x.ZX,false,x.Yc.getD j 0⟩] else []):=by
 unfold Wy;rw [List.range_succ,List.filterMap_append,ZAL];congr 1;by_cases h:x.qV.getD j 0= (p:Int)
 ·rw [if_pos h,if_pos h];rfl
 ·rw [if_neg h,if_neg h];rfl
theorem Zvh {l:List Zg} {k:Nat} (h:k < l.length) (p:Nat):Qh (l.take (k + 1)) p=Qh (l.take k) p ++ WU l[k] p:=by
 unfold Qh;rw [List.take_add_one,List.getElem?_eq_getElem h,List.flatMap_append];simp
theorem Zdq (w:Zb) (p k:Nat):(Xr w p k).length <=k:=by
 have:=List.length_filterMap_le (fun m=>if(E w m p).here then some (⟨(m:Int),true,(E w m p).age⟩:Yy) else none) (List.range k);unfold Xr;rw [List.length_range] at this;exact this
theorem ZeG (x:Zg) (p j:Nat):(Wy x p j).length <=j:=by
 have:=List.length_filterMap_le (fun i=>if x.qV.getD i 0= (p:Int) then some (⟨x.ZX,false,x.Yc.getD i 0⟩:Yy) else none) (List.range j);unfold Wy;rw [List.length_range] at this;exact this
def Mvd (n:Nat) (l:List Zg):Prop:=∀ x ∈ l,x.kind=2 ->x.Yc.length=x.qV.length∧x.qV.length <=n
theorem Zxa {n:Nat} {l:List Zg} (h:Mvd n l) (p:Nat):(Qh l p).length <=n * l.length:=by
 induction l with
 | nil=>simp [Qh]
 | cons x l ih=>
   have:=ih fun y hy=>h y (by simp [hy])
   have hx:(WU x p).length <=n:=by
    unfold WU;by_cases hk:x.kind=2
    ·rw [if_pos hk];exact Nat.le_trans (ZeG _ _ _) (h x (by simp) hk).2
    ·rw [if_neg hk];simp
   unfold Qh at this ⊢;rw [List.flatMap_cons,List.length_append,List.length_cons,Nat.mul_succ];omega
theorem Qy (a b:Int):(a !=b)=decide (a ≠ b):=by
 by_cases h:a=b <;> simp [h]
theorem Z8 (a b:Int):(a==b)=decide (a=b):=by
 by_cases h:a=b <;> simp [h]
theorem ZaZ {α:Type} (c:Prop) [Decidable c] (a b:α):(bif decide c then a else b)=if c then a else b:=by
 by_cases h:c <;> simp [h]
def stP (l:List Yy) (k:Nat):Int×Int×Int×Bool×Int:= ((l.length:Int),(k:Int),(Kg l).machine,(Kg l).here,(Kg l).age)
theorem ZvM (l:List Yy):Yy.mk (Kg l).machine (Kg l).here (Kg l).age=Kg l:=rfl
theorem Ziu {F:Nat} (hF:1000 <=F) (hM:F <=1000000) {w:Zb} (s:Wi w) (hv:Mvd 900 w.qG) (hw:w.qG.length < 900) {p:Nat} (hp:p < w.Zx.length):
 Zef F w (p:Int)=some (Kg (Y7 w p),((Y7 w p).length:Int)):=by
 have h0:=s.m2;have hh:=Zdq w p w.qQ.length
 have hlen:∀ k,k <=w.qG.length ->(Qh (w.qG.take k) p).length <=900 * 900:=fun k hk=>by
  have:=Zxa (l:=w.qG.take k) (fun x hx=>hv x (List.mem_of_mem_take hx)) p;rw [List.length_take] at this;exact Nat.le_trans this (by apply Nat.mul_le_mul (Nat.le_refl _);omega)
 have h1:loop F (ZjF F w (p:Int)) (stP (Xr w p w.qQ.length) 0)=some (Kg (Y7 w p),((Y7 w p).length:Int)):=by
  refine Yh (fun k=>stP (Xr w p w.qQ.length ++ Qh (w.qG.take k) p) k) (by simp [Qh]) (n:=w.qG.length) (by omega) (fun k hk next=>?_) (fun next=>?_)
  ·have hl:=hlen k (by omega);have hx:w.qG[k] ∈ w.qG:=List.getElem_mem hk;rw [Zvh hk];unfold ZjF stP;dsimp only;rw [ZJ hk,Cq1,YW hk];simp only [Bq0];rw [Qy,ZaZ];by_cases hk2:w.qG[k].kind=2
   ·rw [if_neg (fun q=>q hk2)];obtain⟨v1,v2⟩:=hv _ hx hk2;have hwk:WU w.qG[k] p=Wy w.qG[k] p w.qG[k].qV.length:=by unfold WU;rw [if_pos hk2]
    rw [hwk];have hll:(Xr w p w.qQ.length ++ Qh (w.qG.take k) p).length <=5 + 900 * 900:=by rw [List.length_append];omega
    rw [← List.append_assoc];generalize Xr w p w.qQ.length ++ Qh (w.qG.take k) p=l at hll ⊢;refine Yh (fun j=>stP (l ++ Wy w.qG[k] p j) j) (by simp [Wy,stP]) (n:=w.qG[k].qV.length) (by omega) (fun j hj Zyt=>?_) (fun Zyt=>?_)
    ·have hl2:=ZeG w.qG[k] p j;rw [ZfQ];unfold ZnC stP;dsimp only;rw [ZJ hj,Cq1,YM 0 hj,YM 0 (show j < w.qG[k].Yc.length by omega)];simp only [Bq0];rw [Z8,ZaZ];unfold ZjD;dsimp only;by_cases hq:w.qG[k].qV.getD j 0= (p:Int)
     ·rw [if_pos hq,if_pos hq,YB (by rw [List.length_append];omega),YB (by omega),← List.append_assoc,Zi8];simp [Int.add_assoc]
     ·rw [if_neg hq,if_neg hq,YB (by omega),List.append_nil]
    ·unfold ZnC stP;dsimp only;rw [ZR,Cq0];unfold Zgo;dsimp only;rw [YB (by omega)]
   ·rw [if_pos hk2];have hwk:WU w.qG[k] p= []:=by unfold WU;rw [if_neg hk2]
    rw [hwk,List.append_nil];unfold Zgo;dsimp only;rw [YB (by omega)]
  ·unfold ZjF stP;dsimp only;rw [ZR,Cq0,List.take_of_length_le (Nat.le_refl _),ZvM];rfl
 unfold Zef;refine Yh (fun k=>stP (Xr w p k) k) (by rfl) (n:=w.qQ.length) (by omega) (fun k hk next=>?_) (fun next=>?_)
 ·unfold ZnD stP;dsimp only;rw [ZJ hk,Cq1,s.row hk];simp only [Bq0];rw [s.ent hk hp];simp only [Bq0];have hl:=Zdq w p k;rw [JJ];unfold ZjE;dsimp only;cases hE:(E w k p).here with
  | true=>
    simp only [Cq1,if_true];rw [YB (by omega),YB (by omega),Zi8];simp
  | false=>
    simp only [Cq0];rw [YB (by omega)];simp
 ·unfold ZnD;dsimp only [stP];rw [ZR];exact h1
def inn (w:Zb) (q:Int):Int:=w.Zx.getD q.toNat 0
def up (w:Zb):Nat ->Int ->Int
 | 0,q=>q
 | k + 1,q=>if q < 0 then q else up w k (inn w q)
theorem Zmp {w:Zb} {q:Int} (h:q < 0) (k:Nat):up w k q=q:=by
 cases k with
 | zero=>rfl
 | succ k=>show(if q < 0 then q else _)=q;rw [if_pos h]
theorem Qn (w:Zb) (k:Nat) (q:Int):up w (k + 1) q=if up w k q < 0 then up w k q else inn w (up w k q):=by
 induction k generalizing q with
 | zero=>rfl
 | succ k ih=>
   show(if q < 0 then q else up w (k + 1) (inn w q))=_;by_cases h:q < 0
   ·rw [if_pos h,Zmp h,if_pos h]
   ·rw [if_neg h,ih];show _=if(if q < 0 then q else up w k (inn w q)) < 0 then _ else _
    rw [if_neg h];show _=if _ then(if q < 0 then q else up w k (inn w q)) else inn w (if q < 0 then q else up w k (inn w q))
    rw [if_neg h]
theorem up_add (w:Zb) (a b:Nat) (q:Int):up w (a + b) q=up w b (up w a q):=by
 induction a generalizing q with
 | zero=>rw [Nat.zero_add];rfl
 | succ a ih=>
   rw [show a + 1 + b= (a + b) + 1 by omega];show(if q < 0 then q else up w (a + b) (inn w q))=up w b (if q < 0 then q else up w a (inn w q));by_cases h:q < 0
   ·rw [if_pos h,if_pos h,Zmp h]
   ·rw [if_neg h,if_neg h,ih]
theorem J3 {w:Zb} {q:Int} {a:Nat} (h:up w a q < 0) {b:Nat} (hb:a <=b):up w b q < 0:=by
 obtain⟨d,rfl⟩:∃ d,b=a + d:= ⟨b - a,by omega⟩
 rw [up_add,Zmp h];exact h
def okN (w:Zb) (q:Int):Prop:=-1 <=q∧q < (w.Zx.length:Int)
instance (w:Zb) (q:Int):Decidable (okN w q):=by unfold okN;infer_instance
structure Inn (w:Zb):Prop where
 rng:∀ p:Nat,p < w.Zx.length ->okN w (inn w p)
 acy:∀ p:Nat,p < w.Zx.length ->up w w.Zx.length p < 0
theorem Inn.up {w:Zb} (h:Inn w) {q:Int} (hq:okN w q) (k:Nat):okN w (up w k q):=by
 induction k with
 | zero=>exact hq
 | succ k ih=>
   rw [Qn];by_cases h2:Proofs.YtbmbbcaaimehkaaGreat.up w k q < 0
   ·rw [if_pos h2];exact ih
   ·rw [if_neg h2];have:=h.rng (Proofs.YtbmbbcaaimehkaaGreat.up w k q).toNat (by have:=ih.2;omega)
    rwa [Int.toNat_of_nonneg (by omega)] at this
theorem Qb {c:Nat ->Prop} {n:Nat} (h:c n):∃ m,m <=n∧c m∧∀ k,k < m ->¬ c k:=by
 induction n using Nat.strongRecOn with
 | _ n ih=>
   by_cases hz:∃ j,j < n∧c j
   ·obtain⟨j,h1,h2⟩:=hz;obtain⟨m,q1,q2,q3⟩:=ih j h1 h2;exact⟨m,by omega,q2,q3⟩
   ·exact⟨n,Nat.le_refl _,h,fun k hk q=>hz ⟨k,hk,q⟩⟩
theorem ZHI:∀ (n:Nat) (f:Nat ->Nat),(∀ i,i <=n ->f i < n) ->∃ i j,i < j∧j <=n∧f i=f j:=by
 intro n
 induction n with
 | zero=>intro f h;exact absurd (h 0 (Nat.le_refl _)) (Nat.not_lt_zero _)
 | succ n ih=>
   intro f h;by_cases hz:∃ i,i <=n∧f i=f (n + 1)
   ·obtain⟨i,h1,h2⟩:=hz;exact⟨i,n + 1,by omega,Nat.le_refl _,h2⟩
   ·have hne:∀ i,i <=n ->f i ≠ f (n + 1):=fun i hi q=>hz ⟨i,hi,q⟩
    have hl:=h (n + 1) (Nat.le_refl _)
    obtain⟨i,j,h1,h2,h3⟩:=ih (fun i=>if f i < f (n + 1) then f i else f i - 1) (fun i hi=>by
     have:=h i (by omega);have:=hne i hi;by_cases q:f i < f (n + 1)
     ·rw [if_pos q];omega
     ·rw [if_neg q];omega)
    refine⟨i,j,h1,by omega,?_⟩;have a1:=hne i (by omega);have a2:=hne j h2;by_cases q1:f i < f (n + 1) <;> by_cases q2:f j < f (n + 1)
    ·rwa [if_pos q1,if_pos q2] at h3
    ·rw [if_pos q1,if_neg q2] at h3;omega
    ·rw [if_neg q1,if_pos q2] at h3;omega
    ·rw [if_neg q1,if_neg q2] at h3;omega
theorem Zim {w:Zb} (hr:∀ p:Nat,p < w.Zx.length ->okN w (inn w p)):(∀ p:Nat,p < w.Zx.length ->up w w.Zx.length p < 0)↔∀ p:Nat,p < w.Zx.length ->∀ j,j <=w.Zx.length ->up w (j + 1) p ≠ (p:Int):=by
 constructor
 ·intro h p hp j hj e
  have:∀ m:Nat,up w (m * (j + 1)) p= (p:Int):=fun m=>by
   induction m with
   | zero=>rw [Nat.zero_mul];rfl
   | succ m ih=>rw [Nat.succ_mul,up_add,ih,e]
  have h2:=J3 (h p hp) (b:=w.Zx.length * (j + 1)) (Nat.le_mul_of_pos_right _ (by omega));rw [this] at h2;omega
 ·intro h p hp;rcases Int.lt_or_le (up w w.Zx.length p) 0 with q | q
  ·exact q
  ·exfalso
   have hk:∀ k,k <=w.Zx.length ->0 <=up w k p:=fun k hk=>by
    rcases Int.lt_or_le (up w k p) 0 with z | z
    ·have:=J3 z hk;omega
    ·exact z
   have hok:∀ k,okN w (up w k p):=fun k=>by
    induction k with
    | zero=>exact⟨by show(-1:Int) <= (p:Int);omega,by show(p:Int) < _;omega⟩
    | succ k ih=>
      rw [Qn];by_cases h2:up w k p < 0
      ·rw [if_pos h2];exact ih
      ·rw [if_neg h2];have:=hr (up w k p).toNat (by have:=ih.2;omega)
       rwa [Int.toNat_of_nonneg (by omega)] at this
   obtain⟨i,j,h1,h2,h3⟩:=ZHI w.Zx.length (fun k=>(up w k p).toNat) fun k hk'=>by
    have:= (hok k).2;have:=hk k hk';omega
   have e:up w i p=up w j p:=by have:=hk i (by omega);have:=hk j h2;omega
   have hi:=hk i (by omega);have:=h (up w i p).toNat (by have:= (hok i).2;omega) (j - i - 1) (by omega);apply this;rw [Int.toNat_of_nonneg hi,show j - i - 1 + 1=j - i by omega,← up_add,show i + (j - i)=j by omega,e]
end Go.Proofs.YtbmbbcaaimehkaaGreat
end
section
namespace Go.Proofs.YtbmbbcaaimehkaaGreat
open Go.Lf
section
variable {β γ:Type} {R:β ->Prop}
theorem Jc {c:Bool} {A B:Option β} (h1:c=true ->∃ b,A=some b∧R b) (h2:c=false ->∃ b,B=some b∧R b):∃ b,(bif c then A else B)=some b∧R b:=by
 cases c
 ·exact h2 rfl
 ·exact h1 rfl
theorem JR {body:γ ->(γ ->Option β) ->Option β} (r1:β) (r2:Option β) {s0:γ} (S:Nat ->γ) (h0:S 0=s0) (c:Nat ->Prop) {n F:Nat} (hF:n < F)
 (hb:∀ k,k < n ->((∀ next,body (S k) next=some r1)∧c k)∨((∀ next,body (S k) next=next (S (k + 1)))∧¬ c k)) (he:∀ next,body (S n) next=r2)
 (h1:∀ k,k < n ->c k ->R r1) (h2:(∀ k,k < n ->¬ c k) ->∃ b,r2=some b∧R b):∃ b,loop F body s0=some b∧R b:=by
 by_cases hz:∃ k,k < n∧c k
 ·obtain⟨k0,hk0⟩:=hz;obtain⟨m,hm,⟨hmn,hcm⟩,hlt⟩:=Qb (c:=fun k=>k < n∧c k) hk0;refine⟨r1,Yh S h0 (n:=m) (by omega) (fun k hk=>?_) ?_,h1 m hmn hcm⟩
  ·rcases hb k (by omega) with⟨_,q⟩ | ⟨q,_⟩
   ·exact absurd ⟨by omega,q⟩ (hlt k hk)
   ·exact q
  ·rcases hb m hmn with⟨q,_⟩ | ⟨_,q⟩
   ·exact q
   ·exact absurd hcm q
 ·have hno:∀ k,k < n ->¬ c k:=fun k hk q=>hz ⟨k,hk,q⟩
  obtain⟨b,e,hR⟩:=h2 hno;refine⟨b,?_,hR⟩;rw [← e];exact Yh S h0 hF (fun k hk=>(hb k hk).elim (fun q=>absurd q.2 (hno k hk)) fun q=>q.1) he
end
theorem JP {w:Zb} {q:Int} (h:okN w q) (h2:¬ q < 0):∃ k:Nat,q= (k:Int)∧k < w.Zx.length:= ⟨q.toNat,by omega,by have:=h.2;omega⟩
theorem Xe {w:Zb} {p:Nat} (hp:p < w.Zx.length):ZK w.Zx (p:Int)=some (inn w p):=YM 0 hp
theorem Zfe (k:Nat):decide ((k:Int) >=0)=true:=decide_eq_true (by omega)
def Chn (w:Zb) (p:Nat):Prop:=okN w (inn w p)∧∃ n,n <=w.Zx.length∧(∀ j,j < n ->¬ up w j p < 0∧okN w (inn w (up w j p)))∧up w n p < 0
theorem ZuX {w:Zb}:(∀ p,p < w.Zx.length ->Chn w p)↔Inn w:=by
 constructor
 ·intro h;exact⟨fun p hp=>(h p hp).1,fun p hp=>let⟨_,n,h1,_,h3⟩:=h p hp;J3 h3 h1⟩
 ·intro h p hp;refine⟨h.rng p hp,?_⟩;obtain⟨m,h1,h2,h3⟩:=Qb (c:=fun k=>up w k p < 0) (h.acy p hp);refine⟨m,h1,fun j hj=>⟨h3 j hj,?_⟩,h2⟩;have hq:okN w ((p:Int)):= ⟨by omega,by omega⟩
  obtain⟨k,e,hk⟩:=JP (h.up hq j) (h3 j hj);rw [e];exact h.rng k hk
open Classical in
theorem Zkn {F:Nat} {w:Zb} (hF:1000 <=F) (h8:w.Zx.length <=8) {p:Nat} (hp:p < w.Zx.length) (next:Int ->Option Bool):
 ((ZK w.Zx (p:Int)).bind fun KE=>(bif((decide (KE < (-1))) || (decide (KE >= (w.Zx.length:Int)))) then some false else loop F (Zgm w (p:Int) next) (0,(p:Int))))=if Chn w p then next ((p + 1:Nat):Int) else some false:=by
 rw [Xe hp];simp only [Bq0];by_cases hr:okN w (inn w p)
 ·have e:(decide (inn w p < (-1)) || decide (inn w p >= (w.Zx.length:Int)))=false:=by
   have h1:=hr.1;have h2:=hr.2;rw [decide_eq_false (by omega),decide_eq_false (by omega)];rfl
  rw [e,Cq0];obtain⟨m,hm,hs,hlt⟩:=Qb (c:=fun k=>up w k p < 0∨k=w.Zx.length∨¬ okN w (inn w (up w k p))) (n:=w.Zx.length) (.inr (.inl rfl))
  have hj:∀ j,j < m ->¬ up w j p < 0∧j ≠ w.Zx.length∧okN w (inn w (up w j p)):=fun j hj=>by
   have:=hlt j hj;refine⟨fun q=>this (.inl q),fun q=>this (.inr (.inl q)),?_⟩;by_cases z:okN w (inn w (up w j p))
   ·exact z
   ·exact absurd (.inr (.inr z)) this
  have hok:∀ j,j <=m ->okN w (up w j p):=fun j hjm=>by
   induction j with
   | zero=>exact⟨by show(-1:Int) <= (p:Int);omega,by show(p:Int) < _;omega⟩
   | succ j ih=>
     have:=hj j (by omega);rw [Qn,if_neg this.1];exact this.2.2
  refine Yh (fun j=>((j:Int),up w j p)) rfl (n:=m) (by omega) (fun j hjm nx=>?_) (fun nx=>?_)
  ·obtain⟨a1,a2,a3⟩:=hj j hjm;obtain⟨k,e,hk⟩:=JP (hok j (by omega)) a1;unfold Zgm;dsimp only;rw [e,Zfe,Cq1,YB (by omega),decide_eq_false (by omega),Cq0,Xe hk];have e2:inn w (k:Int)=inn w (up w j p):=by rw [e]
   have h1:=a3.1;have h2:=a3.2;simp only [Bq0];rw [e2,decide_eq_false (show ¬ inn w (up w j p) < -1 by omega),Bool.not_false,Yu];simp only [Bq0];rw [decide_eq_false (show ¬ inn w (up w j p) >= (w.Zx.length:Int) by omega)];simp only [Bool.or_self,Cq0];rw [Qn,if_neg a1]
  ·by_cases hneg:up w m p < 0
   ·unfold Zgm;dsimp only;rw [decide_eq_false (by omega),Cq0,YB (by omega),if_pos ⟨hr,m,hm,fun j hjm=>⟨(hj j hjm).1,(hj j hjm).2.2⟩,hneg⟩]
   ·have hnc:¬ Chn w p:=by
     rintro⟨_,n,h1,h2,h3⟩
     have hmn:m < n:=by
      rcases Nat.lt_or_ge m n with z | z
      ·exact z
      ·exact absurd (J3 h3 z) hneg
     rcases hs with z | z | z
     ·exact hneg z
     ·omega
     ·exact z (h2 m hmn).2
    rw [if_neg hnc];obtain⟨k,e,hk⟩:=JP (hok m (Nat.le_refl _)) hneg;unfold Zgm;dsimp only;rw [e,Zfe,Cq1,YB (by omega)];by_cases hml:m=w.Zx.length
    ·rw [decide_eq_true (by omega)];rfl
    ·rw [decide_eq_false (by omega),Cq0,Xe hk]
     have hb:¬ okN w (inn w (k:Int)):=by
      rcases hs with z | z | z
      ·exact absurd z hneg
      ·exact absurd z hml
      ·rwa [e] at z
     simp only [Bq0];by_cases h1:inn w (k:Int) < -1
     ·rw [decide_eq_true h1];rfl
     ·rw [decide_eq_false h1,Bool.not_false,Yu];simp only [Bq0]
      rw [decide_eq_true (show inn w (k:Int) >= (w.Zx.length:Int) by
       rcases Int.lt_or_le (inn w (k:Int)) (w.Zx.length:Int) with z | z
       ·exact absurd ⟨by omega,z⟩ hb
       ·exact z)]
      rfl
 ·rw [if_neg (fun q=>hr q.1)]
  have e:(decide (inn w p < (-1)) || decide (inn w p >= (w.Zx.length:Int)))=true:=by
   by_cases h1:inn w p < -1
   ·rw [decide_eq_true h1];rfl
   ·rw [decide_eq_true (show inn w p >= (w.Zx.length:Int) by
     rcases Int.lt_or_le (inn w p) (w.Zx.length:Int) with z | z
     ·exact absurd ⟨by omega,z⟩ hr
     ·exact z),Bool.or_true]
  rw [e];rfl
theorem ZrD {F:Nat} (hF:1000 <=F) (w:Zb):∃ b,ZA8 F w=some b∧(b=true↔Wi w∧Inn w):=by
 unfold ZA8;refine Jc (fun hc=>⟨false,rfl,?_⟩) (fun hc=>?_)
 ·simp only [Bool.false_eq_true,false_iff];rintro⟨s,_⟩;have:=s.m1;have:=s.m2;have:=s.p1;have:=s.p2;have:=s.bx;have:=s.hd;simp only [Bool.or_eq_true,decide_eq_true_eq,bne_iff_ne] at hc;omega
 ·simp only [Bool.or_eq_false_iff,decide_eq_false_iff_not,bne_eq_false_iff_eq] at hc;obtain⟨⟨⟨⟨⟨a1,a2⟩,a3⟩,a4⟩,a5⟩,a6⟩:=hc;refine JR false (loop F (Zgn F w) 0) (fun k=>(k:Int)) rfl (fun k=>(row w k).length ≠ w.Zx.length) (n:=w.qQ.length) (by omega) (fun k hk=>?_) (fun next=>?_) (fun k hk hc=>?_) (fun hall=>?_)
  ·have hx:ZK w.qQ (k:Int)=some (row w k):=YM [] hk;by_cases hl:(row w k).length=w.Zx.length
   ·refine .inr ⟨fun next=>?_,fun q=>q hl⟩;unfold ZjC;rw [ZJ hk,Cq1,hx];simp only [Bq0];rw [hl,XZ,Cq0,YB (by omega)]
   ·refine .inl ⟨fun next=>?_,hl⟩;unfold ZjC;rw [ZJ hk,Cq1,hx];simp only [Bq0];rw [Qy,decide_eq_true (by omega)];rfl
  ·unfold ZjC;rw [ZR];rfl
  ·simp only [Bool.false_eq_true,false_iff];rintro⟨s,_⟩;exact hc (s.len hk)
  ·have hrow:∀ l ∈ w.qQ,l.length=w.Zx.length:=fun l hl=>by
    obtain⟨k,hk,rfl⟩:=List.getElem_of_mem hl;have:=hall k hk;unfold row at this;rw [List.getD_eq_getElem?_getD,List.getElem?_eq_getElem hk] at this;exact Classical.byContradiction this
   have ZH7:Wi w:= ⟨by omega,by omega,by omega,by omega,by omega,by omega,hrow⟩
   refine JR false (some true) (fun k=>(k:Int)) rfl (fun k=>¬ Chn w k) (n:=w.Zx.length) (by omega) (fun k hk=>?_) (fun next=>?_) (fun k hk hc=>?_) (fun ZOt=>⟨true,rfl,?_⟩)
   ·by_cases hch:Chn w k
    ·refine .inr ⟨fun next=>?_,fun q=>q hch⟩;have:=Zkn hF (by omega) hk next;rw [if_pos hch] at this;unfold Zgn;rw [ZJ hk,Cq1];exact this
    ·refine .inl ⟨fun next=>?_,hch⟩;have:=Zkn hF (by omega) hk next;rw [if_neg hch] at this;unfold Zgn;rw [ZJ hk,Cq1];exact this
   ·unfold Zgn;rw [ZR];rfl
   ·simp only [Bool.false_eq_true,false_iff];rintro⟨_,h⟩;exact hc (ZuX.2 h k hk)
   ·exact⟨fun _=>⟨ZH7,ZuX.1 fun p hp=>Classical.byContradiction (ZOt p hp)⟩,fun _=>rfl⟩
end Go.Proofs.YtbmbbcaaimehkaaGreat
end
section
namespace Go.Proofs.YtbmbbcaaimehkaaGreat
open Go.Lf
abbrev ZtW:Zr:= ⟨0,0,0,0,0⟩
theorem K5 (x y:Zr):Xt x y=true↔x=y:=by
 unfold Xt;cases x;cases y;simp [Zr.mk.injEq]
theorem Zhy (x y:ZA):Qx x y=true↔x=y:=by
 unfold Qx;cases x;cases y;simp [ZA.mk.injEq]
theorem Zke (x y:Yy):Zfo x y=true↔x=y:=by
 unfold Zfo;cases x;cases y;simp [Yy.mk.injEq]
def Pur (x:Zg):Prop:=
 (x.kind=1∧x.place=0∧x.at_=0∧x.age=0∧x.qV= []∧x.Yc= [])∨
 (x.kind=2∧x.place=0∧x.at_=0∧x.age=0∧x.ZV=ZtW∧x.qV ≠ []∧x.qV.length=x.Yc.length)∨
 (x.kind=3∧x.ZV=ZtW∧x.qV= []∧x.Yc= [])
theorem Zhm {α:Type} (l:List α):decide ((l.length:Int) > 0)=true↔l ≠ []:=by
 rw [decide_eq_true_eq]
 constructor
 ·rintro h rfl;simp at h
 ·intro h;have:=List.length_pos_iff.2 h;omega
theorem ZxT (x:Zg):∃ b,Zv7 x=some b∧(b=true↔Pur x):=by
 unfold Zv7 Pur
 have nl:∀ l:List Int,decide ((l.length:Int) > 0)=false↔l= []:=fun l=>by
  rw [Bool.eq_false_iff,Ne,Zhm];exact Classical.not_not
 refine Jc (fun hc=>⟨_,rfl,?_⟩) (fun hc=>Jc (fun hc2=>⟨_,rfl,?_⟩) (fun hc2=>Jc (fun hc3=>⟨_,rfl,?_⟩) (fun hc3=>⟨_,rfl,?_⟩)))
 ·have hk:x.kind=1:=by simpa using hc
  simp only [Ba0,Bool.not_eq_true',Bool.or_eq_false_iff,bne_eq_false_iff_eq,nl]
  constructor
  ·rintro⟨⟨⟨a,b⟩,c⟩,d,e⟩;exact .inl ⟨hk,a,b,c,d,e⟩
  ·rintro(⟨_,a,b,c,d,e⟩ | ⟨q,_⟩ | ⟨q,_⟩)
   ·exact⟨⟨⟨a,b⟩,c⟩,d,e⟩
   ·omega
   ·omega
 ·have hk:x.kind=2:=by simpa using hc2
  simp only [Ba0,Bool.not_eq_true',Bool.or_eq_false_iff,bne_eq_false_iff_eq,Bool.not_eq_false',K5,Zhm,beq_iff_eq]
  constructor
  ·rintro⟨⟨⟨⟨⟨a,b⟩,c⟩,d⟩,e⟩,f⟩;exact .inr (.inl ⟨hk,a,b,c,d,e,by omega⟩)
  ·rintro(⟨q,_⟩ | ⟨_,a,b,c,d,e,f⟩ | ⟨q,_⟩)
   ·omega
   ·exact⟨⟨⟨⟨⟨a,b⟩,c⟩,d⟩,e⟩,by omega⟩
   ·omega
 ·have hk:x.kind=3:=by simpa using hc3
  simp only [Ba0,Bool.not_eq_true',Bool.or_eq_false_iff,Bool.not_eq_false',K5,nl]
  constructor
  ·rintro⟨a,b,c⟩;exact .inr (.inr ⟨hk,a,b,c⟩)
  ·rintro(⟨q,_⟩ | ⟨q,_⟩ | ⟨_,a,b,c⟩)
   ·omega
   ·omega
   ·exact⟨a,b,c⟩
 ·simp only [Bool.false_eq_true,false_iff];have h1:x.kind ≠ 1:=by simpa using hc
  have h2:x.kind ≠ 2:=by simpa using hc2
  have h3:x.kind ≠ 3:=by simpa using hc3
  rintro(⟨q,_⟩ | ⟨q,_⟩ | ⟨q,_⟩)
  ·exact h1 q
  ·exact h2 q
  ·exact h3 q
def Zab (w:Zb) (x:Zg) (i:Nat):Prop:=
 0 <=x.qV.getD i 0∧x.qV.getD i 0 < (w.Zx.length:Int)∧(0 < i ->x.qV.getD (i - 1) 0 < x.qV.getD i 0)∧1 <=x.Yc.getD i 0∧x.Yc.getD i 0 <=30
def Plc (w:Zb) (x:Zg):Prop:=∀ i,i < x.qV.length ->Zab w x i
theorem Zpq (w:Zb) (x:Zg) {i:Nat} (hi:i < x.qV.length) (ha:i < x.Yc.length) (h9:x.qV.length < 900) {β:Type} (r:β) (next:Option β):
 ((ZK x.qV (i:Int)).bind fun x112=>(gd ((!((decide (x112 < 0)) || (decide (x112 >= (w.Zx.length:Int))))) && (decide ((i:Int) > 0))) (ZK x.qV (Y2 ((i:Int) - 1))) default).bind fun x115=>(gd (!(((decide (x112 < 0)) || (decide (x112 >= (w.Zx.length:Int)))) || ((decide ((i:Int) > 0)) && (decide (x112 <=x115))))) (ZK x.Yc (i:Int)) default).bind fun ZkT=>(gd (!((((decide (x112 < 0)) || (decide (x112 >= (w.Zx.length:Int)))) || ((decide ((i:Int) > 0)) && (decide (x112 <=x115)))) || (decide (ZkT < 1)))) (ZK x.Yc (i:Int)) default).bind fun Zb3=>(bif(((((decide (x112 < 0)) || (decide (x112 >= (w.Zx.length:Int)))) || ((decide ((i:Int) > 0)) && (decide (x112 <=x115)))) || (decide (ZkT < 1))) || (decide (Zb3 > 30))) then some r else next))=open Classical in if Zab w x i then next else some r:=by
 rw [YM 0 hi];simp only [Bq0]
 have key:∀ (c d e:Bool) (y y2:Int),ZK x.Yc (i:Int)=some (x.Yc.getD i 0) ->((gd (!(c || d)) (ZK x.Yc (i:Int)) default).bind fun ZkT=>(gd (!((c || d) || decide (ZkT < 1))) (ZK x.Yc (i:Int)) default).bind fun Zb3=>(bif(((c || d) || (decide (ZkT < 1))) || (decide (Zb3 > 30))) then some r else next))=bif(c || d || decide (x.Yc.getD i 0 < 1) || decide (x.Yc.getD i 0 > 30)) then some r else next:=by
  intro c d e y y2 hg;rw [hg];cases h1:(c || d)
  ·simp only [Bool.not_false,Yu,Bq0,Bool.false_or];cases h2:decide (x.Yc.getD i 0 < 1)
   ·simp only [Bool.not_false,Yu,Bq0,Bool.false_or]
   ·simp only [Bool.not_true,Xx,Bq0,Bool.true_or,Cq1]
  ·simp only [Bool.not_true,Xx,Bq0,Bool.true_or,Cq1]
 by_cases hz:i=0
 ·subst hz;rw [show decide (((0:Nat):Int) > 0)=false from rfl];simp only [Bool.and_false,Xx,Bq0,Bool.false_and];rw [key _ _ false 0 0 (YM 0 ha)];unfold Zab;by_cases hp:0 <=x.qV.getD 0 0∧x.qV.getD 0 0 < (w.Zx.length:Int)∧(0 < 0 ->x.qV.getD (0 - 1) 0 < x.qV.getD 0 0)∧1 <=x.Yc.getD 0 0∧x.Yc.getD 0 0 <=30
  ·rw [if_pos hp];obtain⟨a,b,_,c,d⟩:=hp;rw [decide_eq_false (show ¬ x.qV.getD 0 0 < 0 by omega),decide_eq_false (show ¬ x.qV.getD 0 0 >= (w.Zx.length:Int) by omega),decide_eq_false (show ¬ x.Yc.getD 0 0 < 1 by omega),decide_eq_false (show ¬ x.Yc.getD 0 0 > 30 by omega)];rfl
  ·rw [if_neg hp]
   have:(decide (x.qV.getD 0 0 < 0) || decide (x.qV.getD 0 0 >= (w.Zx.length:Int)) || false || decide (x.Yc.getD 0 0 < 1) || decide (x.Yc.getD 0 0 > 30))=true:=by
    simp only [Bool.or_eq_true,decide_eq_true_eq,Bool.or_false];rcases Int.lt_or_le (x.qV.getD 0 0) 0 with z | z
    ·exact .inl (.inl (.inl z))
    ·rcases Int.lt_or_le (x.qV.getD 0 0) (w.Zx.length:Int) with z2 | z2
     ·rcases Int.lt_or_le (x.Yc.getD 0 0) 1 with z3 | z3
      ·exact .inl (.inr z3)
      ·rcases Int.lt_or_le 30 (x.Yc.getD 0 0) with z4 | z4
       ·exact .inr z4
       ·exact absurd ⟨z,z2,fun q=>absurd q (by omega),z3,z4⟩ hp
     ·exact .inl (.inl (.inr z2))
   rw [this];rfl
 ·have hi0:decide ((i:Int) > 0)=true:=decide_eq_true (by omega)
  have hg1:ZK x.qV (Y2 ((i:Int) - 1))=some (x.qV.getD (i - 1) 0):=by
   rw [Zxc (by omega) (by omega)];exact YM 0 (by omega)
  rw [hi0,hg1];simp only [Bool.and_true,Bool.true_and];have hgd:∀ c:Bool,gd (!c) (some (x.qV.getD (i - 1) 0)) (default:Int)=some (bif c then default else x.qV.getD (i - 1) 0):=fun c=>by cases c <;> rfl
  rw [hgd];simp only [Bq0];rw [key _ _ false 0 0 (YM 0 ha)];unfold Zab;by_cases hp:0 <=x.qV.getD i 0∧x.qV.getD i 0 < (w.Zx.length:Int)∧(0 < i ->x.qV.getD (i - 1) 0 < x.qV.getD i 0)∧1 <=x.Yc.getD i 0∧x.Yc.getD i 0 <=30
  ·rw [if_pos hp];obtain⟨a,b,c0,c,d⟩:=hp;have c0:=c0 (by omega);rw [decide_eq_false (show ¬ x.qV.getD i 0 < 0 by omega),decide_eq_false (show ¬ x.qV.getD i 0 >= (w.Zx.length:Int) by omega),decide_eq_false (show ¬ x.Yc.getD i 0 < 1 by omega),decide_eq_false (show ¬ x.Yc.getD i 0 > 30 by omega)];simp only [Bool.or_self,Cq0,Bool.false_or];rw [decide_eq_false (show ¬ x.qV.getD i 0 <=x.qV.getD (i - 1) 0 by omega)];rfl
  ·rw [if_neg hp]
   have:(decide (x.qV.getD i 0 < 0) || decide (x.qV.getD i 0 >= (w.Zx.length:Int)) || decide (x.qV.getD i 0 <=bif decide (x.qV.getD i 0 < 0) || decide (x.qV.getD i 0 >= (w.Zx.length:Int)) then default else x.qV.getD (i - 1) 0) || decide (x.Yc.getD i 0 < 1) || decide (x.Yc.getD i 0 > 30))=true:=by
    rcases Int.lt_or_le (x.qV.getD i 0) 0 with z | z
    ·rw [decide_eq_true z];simp
    ·rcases Int.lt_or_le (x.qV.getD i 0) (w.Zx.length:Int) with z2 | z2
     ·rw [decide_eq_false (show ¬ x.qV.getD i 0 < 0 by omega),decide_eq_false (show ¬ x.qV.getD i 0 >= (w.Zx.length:Int) by omega)];simp only [Bool.or_self,Cq0,Bool.false_or,Bool.or_eq_true,decide_eq_true_eq];rcases Int.lt_or_le (x.qV.getD (i - 1) 0) (x.qV.getD i 0) with z5 | z5
      ·rcases Int.lt_or_le (x.Yc.getD i 0) 1 with z3 | z3
       ·exact .inl (.inr z3)
       ·rcases Int.lt_or_le 30 (x.Yc.getD i 0) with z4 | z4
        ·exact .inr z4
        ·exact absurd ⟨z,z2,fun _=>z5,z3,z4⟩ hp
      ·exact .inl (.inl z5)
     ·rw [decide_eq_true (show x.qV.getD i 0 >= (w.Zx.length:Int) by omega)];simp
   rw [this];rfl
def Zew (w:Zb) (m p:Nat):Prop:=0 <= (E w m p).age∧(E w m p).age <=30∧0 <= (E w m p).ZX∧(E w m p).ZX < (w.qQ.length:Int)∧((E w m p).here=true↔(E w m p).ZX= (m:Int))
def ZRq (w:Zb) (x:Zg):Prop:=x.kind=3 ->0 <=x.place∧x.place < (w.Zx.length:Int)∧x.at_ ≠ x.ZX
structure ZkJ (w:Zb) (x:Zg):Prop where
 to1:0 <=x.ZX
 to2:x.ZX < (w.qQ.length:Int)
 Xi:Pur x
 Ui:Plc w x
 ntd:ZRq w x
structure ShR (w:Zb):Prop where
 Ko:Wi w
 inn:Inn w
 sd1:0 <=w.said
 sd2:w.said <=40
 ent:∀ m,m < w.qQ.length ->∀ p,p < w.Zx.length ->Zew w m p
 Xm:∀ x ∈ w.qG,ZkJ w x
theorem Pur.len {x:Zg} (h:Pur x):x.Yc.length=x.qV.length:=by
 rcases h with⟨_,_,_,_,a,b⟩ | ⟨_,_,_,_,_,_,a⟩ | ⟨_,_,a,b⟩
 ·rw [a,b]
 ·omega
 ·rw [a,b]
theorem Zpy {F:Nat} {w:Zb} (hF:1000 <=F) (h8:w.Zx.length <=8) (hr:∀ p:Nat,p < w.Zx.length ->okN w (inn w p)) {p:Nat} (hp:p < w.Zx.length) (next:Int ->Option Bool):
 ((ZK w.Zx (p:Int)).bind fun x25=>loop F (ZjZ w (p:Int) next) (x25,0))=open Classical in if(∃ j,j <=w.Zx.length∧up w (j + 1) p= (p:Int)) then some false else next ((p + 1:Nat):Int):=by
 rw [Xe hp];simp only [Bq0]
 have hok:∀ k,okN w (up w k p):=fun k=>by
  induction k with
  | zero=>exact⟨by show(-1:Int) <= (p:Int);omega,by show(p:Int) < _;omega⟩
  | succ k ih=>
    rw [Qn];by_cases h2:up w k p < 0
    ·rw [if_pos h2];exact ih
    ·rw [if_neg h2];obtain⟨j,e,hj⟩:=JP ih h2;rw [e];exact hr j hj
 have e0:(inn w p,(0:Int))= (up w (0 + 1) p,((0:Nat):Int)):=by
  rw [Qn];show _= (if((p:Int)) < 0 then _ else _,_);rw [if_neg (by omega)];rfl
 obtain⟨m,hm,hs,hlt⟩:=Qb (c:=fun k=>w.Zx.length < k∨up w (k + 1) p < 0∨up w (k + 1) p= (p:Int)) (n:=w.Zx.length + 1) (.inl (by omega))
 have hj:∀ j,j < m ->j <=w.Zx.length∧¬ up w (j + 1) p < 0∧up w (j + 1) p ≠ (p:Int):=fun j hj=>by
  have:=hlt j hj
  exact⟨by rcases Nat.lt_or_ge w.Zx.length j with z | z;· exact absurd (.inl z) this
           ·exact z,fun q=>this (.inr (.inl q)),fun q=>this (.inr (.inr q))⟩
 refine Yh (fun j=>(up w (j + 1) p,(j:Int))) e0.symm (n:=m) (by omega) (fun j hjm nx=>?_) (fun nx=>?_)
 ·obtain⟨a1,a2,a3⟩:=hj j hjm;obtain⟨k,e,hk⟩:=JP (hok (j + 1)) a2;unfold ZjZ;dsimp only;rw [Qn w (j + 1),if_neg a2];rw [e] at a3 ⊢;rw [decide_eq_true (show(j:Int) <= (w.Zx.length:Int) by omega),Zfe,Bool.and_self,Cq1,Z8,decide_eq_false a3,Cq0,Xe hk];simp only [Bq0];rw [YB (by omega)]
 ·unfold ZjZ;dsimp only;by_cases h1:w.Zx.length < m
  ·rw [decide_eq_false (show ¬ (m:Int) <= (w.Zx.length:Int) by omega),Bool.false_and,Cq0,YB (by omega),if_neg];rintro⟨j,q1,q2⟩;exact(hj j (by omega)).2.2 q2
  ·by_cases h2:up w (m + 1) p < 0
   ·rw [decide_eq_false (show ¬ up w (m + 1) p >=0 by omega),Bool.and_false,Cq0,YB (by omega),if_neg];rintro⟨j,q1,q2⟩;rcases Nat.lt_or_ge j m with z | z
    ·exact(hj j z).2.2 q2
    ·have:=J3 h2 (show m + 1 <=j + 1 by omega);omega
   ·have h3:up w (m + 1) p= (p:Int):=by rcases hs with z | z | z <;> first | exact absurd z h1 | exact absurd z h2 | exact z
    rw [decide_eq_true (show(m:Int) <= (w.Zx.length:Int) by omega),h3,Zfe,Bool.and_self,Cq1,Z8,decide_eq_true rfl,Cq1,if_pos ⟨m,by omega,h3⟩]
theorem Zvv {F:Nat} (hF:1000 <=F) {w:Zb} (sm:UQ 900 w):∃ b,ZBg F w=some b∧(b=true↔ShR w):=by
 unfold ZBg;refine Jc (fun hc=>⟨false,rfl,?_⟩) (fun hc=>?_)
 ·simp only [Bool.false_eq_true,false_iff];intro s;have:=s.Ko.m1;have:=s.Ko.m2;have:=s.Ko.p1;have:=s.Ko.p2;have:=s.Ko.bx;have:=s.Ko.hd;have:=s.sd1;have:=s.sd2;simp only [Bool.or_eq_true,decide_eq_true_eq,bne_iff_ne] at hc;omega
 simp only [Bool.or_eq_false_iff,decide_eq_false_iff_not,bne_eq_false_iff_eq] at hc;obtain⟨⟨⟨⟨⟨⟨⟨a1,a2⟩,a3⟩,a4⟩,a5⟩,a6⟩,a7⟩,a8⟩:=hc;refine JR false (loop F (Zgx F w) 0) (fun k=>(k:Int)) rfl (fun k=>¬ okN w (inn w k)) (n:=w.Zx.length) (by omega) (fun k hk=>?_) (fun next=>?_) (fun k hk hc=>?_) (fun hr=>?_)
 ·by_cases ho:okN w (inn w k)
  ·refine .inr ⟨fun next=>?_,fun q=>q ho⟩;have h1:=ho.1;have h2:=ho.2;unfold Zj0;rw [ZJ hk,Cq1,Xe hk];simp only [Bq0];rw [decide_eq_false (by omega),decide_eq_false (by omega),Bool.or_self,Cq0,YB (by omega)]
  ·refine .inl ⟨fun next=>?_,ho⟩;unfold Zj0;rw [ZJ hk,Cq1,Xe hk];simp only [Bq0];by_cases h1:inn w (k:Int) < -1
   ·rw [decide_eq_true h1];rfl
   ·rw [decide_eq_true (show inn w (k:Int) >= (w.Zx.length:Int) by
     rcases Int.lt_or_le (inn w (k:Int)) (w.Zx.length:Int) with z | z
     ·exact absurd ⟨by omega,z⟩ ho
     ·exact z),Bool.or_true];rfl
 ·unfold Zj0;rw [ZR];rfl
 ·simp only [Bool.false_eq_true,false_iff];intro s;exact hc (s.inn.rng k hk)
 have hr:∀ p:Nat,p < w.Zx.length ->okN w (inn w p):=fun p hp=>Classical.byContradiction (hr p hp)
 refine JR false (loop F (Zei F w) 0) (fun k=>(k:Int)) rfl (fun p=>∃ j,j <=w.Zx.length∧up w (j + 1) p= (p:Int)) (n:=w.Zx.length) (by omega) (fun k hk=>?_) (fun next=>?_) (fun k hk hc=>?_) (fun hac=>?_)
 ·by_cases ho:∃ j,j <=w.Zx.length∧up w (j + 1) k= (k:Int)
  ·refine .inl ⟨fun next=>?_,ho⟩;have:=Zpy hF (by omega) hr hk next;rw [if_pos ho] at this;unfold Zgx;rw [ZJ hk,Cq1];exact this
  ·refine .inr ⟨fun next=>?_,ho⟩;have:=Zpy hF (by omega) hr hk next;rw [if_neg ho] at this;unfold Zgx;rw [ZJ hk,Cq1];exact this
 ·unfold Zgx;rw [ZR];rfl
 ·simp only [Bool.false_eq_true,false_iff];intro s;obtain⟨j,q1,q2⟩:=hc;exact(Zim hr).1 s.inn.acy k hk j q1 q2
 have ZTJ:Inn w:= ⟨hr,(Zim hr).2 fun p hp j hj q=>hac p hp ⟨j,hj,q⟩⟩
 refine JR false (loop F (KZ F w) 0) (fun k=>(k:Int)) rfl (fun m=>¬ ((row w m).length=w.Zx.length∧∀ p,p < w.Zx.length ->Zew w m p)) (n:=w.qQ.length) (by omega) (fun m hm=>?_) (fun next=>?_) (fun k hk hc=>?_) (fun hen=>?_)
 ·have hx:ZK w.qQ (m:Int)=some (row w m):=YM [] hm;by_cases hl:(row w m).length=w.Zx.length
  ·have hgp:∀ p,p < w.Zx.length ->ZK (row w m) (p:Int)=some (E w m p):=fun p hp=>YM default (by rw [hl];exact hp)
   have step:∀ next:Int ->Option Bool,∀ p,p < w.Zx.length ->∀ nx,Zgw w (m:Int) next (row w m) (p:Int) nx=open Classical in if Zew w m p then nx ((p + 1:Nat):Int) else some false:=fun next p hp nx=>by
    unfold Zgw;rw [decide_eq_true (show(p:Int) < ((row w m).length:Int) by omega),Cq1,hgp p hp];simp only [Bq0];by_cases he:Zew w m p
    ·obtain⟨e1,e2,e3,e4,e5⟩:=he
     have e6:((E w m p).here != ((E w m p).ZX== (m:Int)))=false:=by
      rw [bne_eq_false_iff_eq,Bool.eq_iff_iff,e5,beq_iff_eq]
     rw [if_pos ⟨e1,e2,e3,e4,e5⟩,decide_eq_false (by omega),decide_eq_false (by omega),decide_eq_false (by omega),decide_eq_false (by omega),e6];simp only [Bool.or_self,Cq0];rw [YB (by omega)]
    ·rw [if_neg he]
     have:(decide ((E w m p).age < 0) || decide ((E w m p).age > 30) || decide ((E w m p).ZX < 0) || decide ((E w m p).ZX >= (w.qQ.length:Int)) || ((E w m p).here != ((E w m p).ZX== (m:Int))))=true:=by
      rw [← Bool.not_eq_false];intro hf;simp only [Bool.or_eq_false_iff,decide_eq_false_iff_not,bne_eq_false_iff_eq] at hf;obtain⟨⟨⟨⟨q1,q2⟩,q3⟩,q4⟩,q5⟩:=hf;exact he ⟨by omega,by omega,by omega,by omega,by rw [q5,beq_iff_eq]⟩
     rw [this];rfl
   have body:∀ next nx0,Zei F w (m:Int) next=loop F (Zgw w (m:Int) next (row w m)) nx0∨nx0 ≠ 0:=fun next nx0=>by
    by_cases h0:nx0=0
    ·subst h0;left;unfold Zei;rw [ZJ hm,Cq1,hx];simp only [Bq0];rw [hl,XZ,Cq0]
    ·exact .inr h0
   by_cases hall:∀ p,p < w.Zx.length ->Zew w m p
   ·refine .inr ⟨fun next=>?_,fun q=>q ⟨hl,hall⟩⟩;rw [(body next 0).resolve_right (fun q=>q rfl)];refine Yh (fun p=>(p:Int)) rfl (n:=w.Zx.length) (by omega) (fun p hp nx=>?_) (fun nx=>?_)
    ·rw [step next p hp nx,if_pos (hall p hp)]
    ·unfold Zgw;rw [decide_eq_false (by omega),Cq0,YB (by omega)]
   ·refine .inl ⟨fun next=>?_,fun q=>hall q.2⟩;rw [(body next 0).resolve_right (fun q=>q rfl)];have hz:∃ p,p < w.Zx.length∧¬ Zew w m p:=Classical.byContradiction fun q=>hall fun p hp=>Classical.byContradiction fun q2=>q ⟨p,hp,q2⟩
    obtain⟨p0,hp0⟩:=hz;obtain⟨p1,_,hp1,hlt⟩:=Qb (c:=fun p=>p < w.Zx.length∧¬ Zew w m p) hp0;refine Yh (fun p=>(p:Int)) rfl (n:=p1) (by omega) (fun p hp nx=>?_) (fun nx=>?_)
    ·rw [step next p (by omega) nx,if_pos (Classical.byContradiction fun q=>hlt p hp ⟨by omega,q⟩)]
    ·rw [step next p1 hp1.1 nx,if_neg hp1.2]
  ·refine .inl ⟨fun next=>?_,fun q=>hl q.1⟩;unfold Zei;rw [ZJ hm,Cq1,hx];simp only [Bq0];rw [Qy,decide_eq_true (by omega)];rfl
 ·unfold Zei;rw [ZR];rfl
 ·simp only [Bool.false_eq_true,false_iff];intro s;exact hc ⟨s.Ko.len hk,s.ent k hk⟩
 have hen:∀ m,m < w.qQ.length ->(row w m).length=w.Zx.length∧∀ p,p < w.Zx.length ->Zew w m p:=fun m hm=>Classical.byContradiction (hen m hm)
 have ZH7:Wi w:= ⟨by omega,by omega,by omega,by omega,by omega,by omega,fun l hl=>by
  obtain⟨k,hk,rfl⟩:=List.getElem_of_mem hl;have:= (hen k hk).1;unfold row at this
  rwa [List.getD_eq_getElem?_getD,List.getElem?_eq_getElem hk] at this⟩
 refine JR false (some true) (fun k=>(k:Int)) rfl (fun k=>∃ h:k < w.qG.length,¬ ZkJ w w.qG[k]) (n:=w.qG.length) (by have:=sm.qG;omega) (fun k hk=>?_) (fun next=>?_) (fun k hk hc=>?_) (fun hlt=>⟨true,rfl,?_⟩)
 ·have hwl:=sm.qG;have hx:w.qG[k] ∈ w.qG:=List.getElem_mem hk;obtain⟨s1,s2⟩:=sm.Xm _ hx;generalize hX:w.qG[k]=x at *;have hgx:ZK w.qG (k:Int)=some x:=by rw [YW hk,hX]
  have bad:(∀ next,KZ F w (k:Int) next=some false)∧¬ ZkJ w x∨(∀ next,KZ F w (k:Int) next=next ((k + 1:Nat):Int))∧ZkJ w x:=by
   obtain⟨pb,hpb,hpi⟩:=ZxT x;by_cases ht:0 <=x.ZX∧x.ZX < (w.qQ.length:Int)
   ·have e1:(decide (x.ZX < 0) || decide (x.ZX >= (w.qQ.length:Int)))=false:=by
     rw [decide_eq_false (by omega),decide_eq_false (by omega)];rfl
    cases pb with
    | false=>
      have hnp:¬ Pur x:=fun q=>by have:=hpi.2 q;cases this
      refine .inl ⟨fun next=>?_,fun l=>hnp l.Xi⟩;unfold KZ;rw [ZJ hk,Cq1,hgx];simp only [Bq0];rw [e1,Bool.not_false,Yu,hpb];rfl
    | true=>
      have hp:Pur x:=hpi.1 rfl;have hal:=hp.len
      have body:∀ next,KZ F w (k:Int) next=loop F (Zgv w (k:Int) next x) 0:=fun next=>by
       unfold KZ;rw [ZJ hk,Cq1,hgx];simp only [Bq0];rw [e1,Bool.not_false,Yu,hpb];rfl
      have step:∀ (next:Int ->Option Bool) (i:Nat),i < x.qV.length ->∀ nx,Zgv w (k:Int) next x (i:Int) nx=open Classical in if Zab w x i then nx ((i + 1:Nat):Int) else some false:=fun next i hi nx=>by
       have:=Zpq w x hi (by omega) s1 false (nx (Y2 ((i:Int) + 1)));unfold Zgv;rw [ZJ hi,Cq1,this,YB (by omega)]
      by_cases hpl:Plc w x
      ·have fin:∀ next,KZ F w (k:Int) next=bif((x.kind==3) && (((decide (x.place < 0)) || (decide (x.place >= (w.Zx.length:Int)))) || (x.at_==x.ZX))) then some false else next ((k + 1:Nat):Int):=fun next=>by
        rw [body];refine Yh (fun i=>(i:Int)) rfl (n:=x.qV.length) (by omega) (fun i hi nx=>?_) (fun nx=>?_)
        ·rw [step next i hi nx,if_pos (hpl i hi)]
        ·unfold Zgv;rw [ZR,Cq0,YB (by omega)]
       by_cases hn:ZRq w x
       ·refine .inr ⟨fun next=>?_,⟨ht.1,ht.2,hp,hpl,hn⟩⟩;rw [fin]
        have:((x.kind==3) && (((decide (x.place < 0)) || (decide (x.place >= (w.Zx.length:Int)))) || (x.at_==x.ZX)))=false:=by
         by_cases h3:x.kind=3
         ·obtain⟨q1,q2,q3⟩:=hn h3;rw [decide_eq_false (by omega),decide_eq_false (by omega),Z8 x.at_,decide_eq_false q3];simp
         ·rw [Z8,decide_eq_false h3];rfl
        rw [this];rfl
       ·refine .inl ⟨fun next=>?_,fun l=>hn l.ntd⟩;rw [fin]
        have:((x.kind==3) && (((decide (x.place < 0)) || (decide (x.place >= (w.Zx.length:Int)))) || (x.at_==x.ZX)))=true:=by
         rw [← Bool.not_eq_false];intro hf;apply hn;intro h3;simp only [Bool.and_eq_false_iff,Bool.or_eq_false_iff,decide_eq_false_iff_not,beq_eq_false_iff_ne] at hf;rcases hf with q | ⟨⟨q1,q2⟩,q3⟩
         ·exact absurd h3 q
         ·exact⟨by omega,by omega,q3⟩
        rw [this];rfl
      ·have hz:∃ i,i < x.qV.length∧¬ Zab w x i:=Classical.byContradiction fun q=>hpl fun i hi=>Classical.byContradiction fun q2=>q ⟨i,hi,q2⟩
       obtain⟨i0,hi0⟩:=hz;obtain⟨i1,_,hi1,hlt⟩:=Qb (c:=fun i=>i < x.qV.length∧¬ Zab w x i) hi0;refine .inl ⟨fun next=>?_,fun l=>hpl l.Ui⟩;rw [body];refine Yh (fun i=>(i:Int)) rfl (n:=i1) (by omega) (fun i hi nx=>?_) (fun nx=>?_)
       ·rw [step next i (by omega) nx,if_pos (Classical.byContradiction fun q=>hlt i hi ⟨by omega,q⟩)]
       ·rw [step next i1 hi1.1 nx,if_neg hi1.2]
   ·refine .inl ⟨fun next=>?_,fun l=>ht ⟨l.to1,l.to2⟩⟩
    have e1:(decide (x.ZX < 0) || decide (x.ZX >= (w.qQ.length:Int)))=true:=by
     rw [← Bool.not_eq_false];intro hf;simp only [Bool.or_eq_false_iff,decide_eq_false_iff_not] at hf;exact ht ⟨by omega,by omega⟩
    unfold KZ;rw [ZJ hk,Cq1,hgx];simp only [Bq0];rw [e1,Bool.not_true,Xx];rfl
  rcases bad with⟨b1,b2⟩ | ⟨b1,b2⟩
  ·exact .inl ⟨b1,hk,by rwa [hX]⟩
  ·exact .inr ⟨b1,fun⟨_,q⟩=>by rw [hX] at q;exact q b2⟩
 ·unfold KZ;rw [ZR];rfl
 ·simp only [Bool.false_eq_true,false_iff];obtain⟨h,q⟩:=hc;intro s;exact q (s.Xm _ (List.getElem_mem h))
 ·refine⟨fun _=>⟨ZH7,ZTJ,by omega,by omega,fun m hm=>(hen m hm).2,fun x hx=>?_⟩,fun _=>rfl⟩;obtain⟨k,hk,rfl⟩:=List.getElem_of_mem hx;exact Classical.byContradiction fun q=>hlt k hk ⟨hk,q⟩
def ZdR (s:Yy):XO:= ⟨s.machine,s.age,-1,true⟩
def ZoR (k:Nat) (s:Yy):XO:= ⟨s.machine,s.age,(k:Int),false⟩
def ZO (w:Zb) (i:Nat):Zg:=w.qG.getD i default
def KG (w:Zb) (p k:Nat):List XO:= (List.range k).flatMap fun i=>(Wy (ZO w i) p (ZO w i).qV.length).map (ZoR i)
def QV (w:Zb) (p:Nat):List XO:= (Xr w p w.qQ.length).map ZdR ++ KG w p w.qG.length
def UW (l:List XO):XO:=l.getLastD ⟨0,0,0,false⟩
theorem Zi9 (l:List XO) (x:XO):UW (l ++ [x])=x:=by unfold UW;simp
theorem Ziv (w:Zb) (p k:Nat):KG w p (k + 1)=KG w p k ++ (Wy (ZO w k) p (ZO w k).qV.length).map (ZoR k):=by
 unfold KG;rw [List.range_succ,List.flatMap_append];simp
theorem Zlx {w:Zb} {n:Nat} (h:∀ x ∈ w.qG,x.qV.length <=n) (p:Nat):∀ k,k <=w.qG.length ->(KG w p k).length <=n * k
 | 0,_=>by simp [KG]
 | k + 1,hk=>by
   have:=Zlx h p k (by omega);have h1:=ZeG (ZO w k) p (ZO w k).qV.length;have h2:=h (ZO w k) (YL (by omega));rw [Ziv,List.length_append,List.length_map,Nat.mul_succ];omega
def stR (l:List XO) (k:Nat):Int×Int×Int×Int×Int×Bool:= ((l.length:Int),(k:Int),(UW l).at_,(UW l).age,(UW l).letter,(UW l).is)
theorem ZvN (l:List XO):XO.mk (UW l).at_ (UW l).age (UW l).letter (UW l).is=UW l:=rfl
theorem Zr8 (w:Zb) (p k:Nat):∀ s ∈ Xr w p k,s.here=true:=fun s hs=>by
 unfold Xr at hs;obtain⟨m,_,hm⟩:=List.mem_filterMap.1 hs;by_cases h:(E w m p).here=true
 ·rw [if_pos h] at hm;cases hm;rfl
 ·rw [if_neg h] at hm;cases hm
theorem Zrp (x:Zg) (p j:Nat):∀ s ∈ Wy x p j,s.here=false:=fun s hs=>by
 unfold Wy at hs;obtain⟨m,_,hm⟩:=List.mem_filterMap.1 hs;by_cases h:x.qV.getD m 0= (p:Int)
 ·rw [if_pos h] at hm;cases hm;rfl
 ·rw [if_neg h] at hm;cases hm
theorem Zqd {F:Nat} (hF:1000 <=F) {w:Zb} (s:Wi w) (hv:∀ x ∈ w.qG,x.Yc.length=x.qV.length∧x.qV.length <=900) (hw:w.qG.length < 900) {p:Nat} (hp:p < w.Zx.length):
 Zgu F w (p:Int)=some (UW (QV w p),decide ((QV w p).length=1)):=by
 have h0:=s.m2;have hh:=Zdq w p w.qQ.length
 have hlen:∀ k,k <=w.qG.length ->(KG w p k).length <=900 * 900:=fun k hk=>by
  have:=Zlx (fun x hx=>(hv x hx).2) p k hk;exact Nat.le_trans this (by apply Nat.mul_le_mul (Nat.le_refl _);omega)
 have h1:loop F (ZjY F w (p:Int)) (stR ((Xr w p w.qQ.length).map ZdR) 0)=some (UW (QV w p),decide ((QV w p).length=1)):=by
  refine Yh (fun k=>stR ((Xr w p w.qQ.length).map ZdR ++ KG w p k) k) (by simp [KG]) (n:=w.qG.length) (by omega) (fun k hk next=>?_) (fun next=>?_)
  ·have hl:=hlen k (by omega);have hgx:ZK w.qG (k:Int)=some (ZO w k):=YM default hk;have hx:ZO w k ∈ w.qG:=YL hk;obtain⟨v1,v2⟩:=hv _ hx;rw [Ziv];generalize ZO w k=x at *;have hll:((Xr w p w.qQ.length).map ZdR ++ KG w p k).length <=5 + 900 * 900:=by rw [List.length_append,List.length_map];omega
   rw [← List.append_assoc];generalize (Xr w p w.qQ.length).map ZdR ++ KG w p k=l at hll ⊢;unfold ZjY;dsimp only [stR];rw [ZJ hk,Cq1,hgx];simp only [Bq0];refine Yh (fun j=>stR (l ++ (Wy x p j).map (ZoR k)) j) (by simp [Wy,stR]) (n:=x.qV.length) (by omega) (fun j hj Zyt=>?_) (fun Zyt=>?_)
   ·have hl2:=ZeG x p j;rw [ZfQ];unfold ZnL;dsimp only [stR];rw [ZJ hj,Cq1,YM 0 hj];simp only [Bq0];rw [decide_eq_true (show(j:Int) < (x.Yc.length:Int) by omega),Bool.and_true,Z8,ZaZ];unfold ZjW;dsimp only;by_cases hq:x.qV.getD j 0= (p:Int)
    ·rw [if_pos hq,if_pos hq,YM 0 (show j < x.Yc.length by omega)];simp only [Bq0];rw [YB (by rw [List.length_append,List.length_map];omega),YB (by omega),List.map_append,← List.append_assoc,List.map_cons,List.map_nil,Zi9];simp [ZoR,Int.add_assoc]
    ·rw [if_neg hq,if_neg hq,YB (by omega),List.append_nil]
   ·unfold ZnL;dsimp only [stR];rw [ZR,Cq0,YB (by omega)]
  ·unfold ZjY;dsimp only [stR];rw [ZR,Cq0,ZvN,Z8];unfold QV;congr 2;by_cases h:((Xr w p w.qQ.length).map ZdR ++ KG w p w.qG.length).length=1
   ·rw [decide_eq_true h,decide_eq_true (by omega)]
   ·rw [decide_eq_false h,decide_eq_false (by omega)]
 unfold Zgu;refine Yh (fun k=>stR ((Xr w p k).map ZdR) k) (by rfl) (n:=w.qQ.length) (by omega) (fun k hk next=>?_) (fun next=>?_)
 ·unfold ZnM;dsimp only [stR];rw [ZJ hk,Cq1,s.row hk];simp only [Bq0];rw [s.ent hk hp];simp only [Bq0];have hl:=Zdq w p k;rw [JJ];unfold ZjX;dsimp only;cases hE:(E w k p).here with
  | true=>
    simp only [Cq1,if_true];rw [YB (by rw [List.length_map];omega),YB (by omega),List.map_append,List.map_cons,List.map_nil,Zi9];simp [ZdR]
  | false=>
    simp only [Cq0];rw [YB (by omega)];simp
 ·unfold ZnM;dsimp only [stR];rw [ZR];exact h1
def toS (s:XO):Yy:= ⟨s.at_,s.is,s.age⟩
theorem Zd3 {α β:Type} (l:List α) (d:α) (f:α ->List β):(List.range l.length).flatMap (fun i=>f (l.getD i d))=l.flatMap f:=by
 induction l with
 | nil=>rfl
 | cons x l ih=>
   rw [List.length_cons,List.range_succ_eq_map,List.flatMap_cons,List.flatMap_map,List.flatMap_cons];have:(fun a=>f ((x::l).getD a.succ d))=fun a=>f (l.getD a d):=by funext a;simp
   rw [this,ih];rfl
theorem ZtX {w:Zb} (hp:∀ x ∈ w.qG,x.kind=2∨x.qV= []) (p:Nat):(QV w p).map toS=Y7 w p:=by
 unfold QV Y7 KG Qh;rw [List.map_append,List.map_map,List.map_flatMap];congr 1
 ·have:∀ s ∈ Xr w p w.qQ.length,(toS ∘ ZdR) s=id s:=fun s hs=>by
   have:=Zr8 w p _ s hs;cases s;simp only [Function.comp,ZdR,toS,id] at this ⊢;rw [this]
  rw [List.map_congr_left this,List.map_id]
 ·rw [← Zd3 w.qG default];unfold List.flatMap;congr 1;apply List.map_congr_left;intro i hi;have hx:w.qG.getD i default ∈ w.qG:=YL (List.mem_range.1 hi);rw [List.map_map];unfold ZO;generalize w.qG.getD i default=x at *
  have h1:∀ s ∈ Wy x p x.qV.length,(toS ∘ ZoR i) s=id s:=fun s hs=>by
   have:=Zrp x p _ s hs;cases s;simp only [Function.comp,ZoR,toS,id] at this ⊢;rw [this]
  rw [List.map_congr_left h1,List.map_id];unfold WU;rcases hp x hx with h | h
  ·rw [if_pos h]
  ·rw [h];by_cases hk:x.kind=2
   ·rw [if_pos hk]
   ·rw [if_neg hk];simp [Wy]
theorem ZDb {w:Zb} (hp:∀ x ∈ w.qG,x.kind=2∨x.qV= []) (p:Nat):toS (UW (QV w p))=Kg (Y7 w p):=by
 rw [← ZtX hp];unfold UW Kg;rcases List.eq_nil_or_concat (QV w p) with h | ⟨l,x,h⟩
 ·rw [h];rfl
 ·rw [h];simp
theorem len_eq {w:Zb} (hp:∀ x ∈ w.qG,x.kind=2∨x.qV= []) (p:Nat):(Y7 w p).length= (QV w p).length:=by rw [← ZtX hp,List.length_map]
theorem Pur.two {x:Zg} (h:Pur x):x.kind=2∨x.qV= []:=by
 rcases h with⟨_,_,_,_,a,b⟩ | ⟨a,_⟩ | ⟨_,_,a,b⟩
 ·exact .inr a
 ·exact .inl a
 ·exact .inr a
theorem ShR.two {w:Zb} (h:ShR w):∀ x ∈ w.qG,x.kind=2∨x.qV= []:=fun x hx=>(h.Xm x hx).Xi.two
def MvX (w:Zb) (x:Zg):Prop:=x.kind=1∨x.kind=3∨(x.kind=2∧x.qV ≠ []∧x.Yc.length=x.qV.length∧Plc w x)
theorem ZrO {F:Nat} (hF:1000 <=F) {w:Zb} (sm:UQ 900 w):∃ b,Zwb F w=some b∧(b=true↔∀ x ∈ w.qG,MvX w x):=by
 unfold Zwb;refine JR false (some true) (fun k=>(k:Int)) rfl (fun k=>∃ h:k < w.qG.length,¬ MvX w w.qG[k]) (n:=w.qG.length) (by have:=sm.qG;omega) (fun k hk=>?_) (fun next=>?_) (fun k hk hc=>?_) (fun hlt=>⟨true,rfl,?_⟩)
 ·have hwl:=sm.qG;have hx:w.qG[k] ∈ w.qG:=List.getElem_mem hk;obtain⟨s1,s2⟩:=sm.Xm _ hx;generalize hX:w.qG[k]=x at *;have hgx:ZK w.qG (k:Int)=some x:=by rw [YW hk,hX]
  have bad:(∀ next,Zax F w (k:Int) next=some false)∧¬ MvX w x∨(∀ next,Zax F w (k:Int) next=next ((k + 1:Nat):Int))∧MvX w x:=by
   by_cases h1:x.kind=1
   ·refine .inr ⟨fun next=>?_,.inl h1⟩;unfold Zax;rw [ZJ hk,Cq1,hgx];simp only [Bq0];rw [h1];show Zbu (k:Int) next ()=_;unfold Zbu;rw [YB (by omega)]
   ·have b0:∀ next,Zax F w (k:Int) next=Zed F w (k:Int) next x (x.kind==3):=fun next=>by
     unfold Zax;rw [ZJ hk,Cq1,hgx];simp only [Bq0];rw [Z8 x.kind 1,decide_eq_false h1];rfl
    by_cases h3:x.kind=3
    ·refine .inr ⟨fun next=>?_,.inr (.inl h3)⟩;rw [b0,h3];show Zbu (k:Int) next ()=_;unfold Zbu;rw [YB (by omega)]
    ·by_cases h2:x.kind=2
     ·have b1:∀ next,Zax F w (k:Int) next=bif((decide ((x.qV.length:Int) < 1)) || ((x.Yc.length:Int) != (x.qV.length:Int))) then some false else loop F (Zee w (k:Int) next x) 0:=fun next=>by
       rw [b0];unfold Zed;rw [Z8 x.kind 3,decide_eq_false h3,Cq0,h2];rfl
      by_cases hl:x.qV ≠ []∧x.Yc.length=x.qV.length
      ·have hpos:=List.length_pos_iff.2 hl.1
       have b2:∀ next,Zax F w (k:Int) next=loop F (Zee w (k:Int) next x) 0:=fun next=>by
        rw [b1,decide_eq_false (by omega),Qy,decide_eq_false (by omega)];rfl
       have step:∀ (next:Int ->Option Bool) (i:Nat),i < x.qV.length ->∀ nx,Zee w (k:Int) next x (i:Int) nx=open Classical in if Zab w x i then nx ((i + 1:Nat):Int) else some false:=fun next i hi nx=>by
        have:=Zpq w x hi (by omega) s1 false (nx (Y2 ((i:Int) + 1)));unfold Zee;rw [ZJ hi,Cq1,this,YB (by omega)]
       by_cases hpl:Plc w x
       ·refine .inr ⟨fun next=>?_,.inr (.inr ⟨h2,hl.1,hl.2,hpl⟩)⟩;rw [b2];refine Yh (fun i=>(i:Int)) rfl (n:=x.qV.length) (by omega) (fun i hi nx=>?_) (fun nx=>?_)
        ·rw [step next i hi nx,if_pos (hpl i hi)]
        ·unfold Zee;rw [ZR,Cq0];unfold Zbu;rw [YB (by omega)]
       ·have hz:∃ i,i < x.qV.length∧¬ Zab w x i:=Classical.byContradiction fun q=>hpl fun i hi=>Classical.byContradiction fun q2=>q ⟨i,hi,q2⟩
        obtain⟨i0,hi0⟩:=hz;obtain⟨i1,_,hi1,hlt⟩:=Qb (c:=fun i=>i < x.qV.length∧¬ Zab w x i) hi0;refine .inl ⟨fun next=>?_,fun l=>?_⟩
        ·rw [b2];refine Yh (fun i=>(i:Int)) rfl (n:=i1) (by omega) (fun i hi nx=>?_) (fun nx=>?_)
         ·rw [step next i (by omega) nx,if_pos (Classical.byContradiction fun q=>hlt i hi ⟨by omega,q⟩)]
         ·rw [step next i1 hi1.1 nx,if_neg hi1.2]
        ·rcases l with q | q | ⟨_,_,_,q⟩
         ·exact h1 q
         ·exact h3 q
         ·exact hpl q
      ·refine .inl ⟨fun next=>?_,fun l=>?_⟩
       ·rw [b1]
        have:((decide ((x.qV.length:Int) < 1)) || ((x.Yc.length:Int) != (x.qV.length:Int)))=true:=by
         rw [← Bool.not_eq_false];intro hf;simp only [Bool.or_eq_false_iff,decide_eq_false_iff_not,bne_eq_false_iff_eq] at hf;exact hl ⟨List.length_pos_iff.1 (by omega),by omega⟩
        rw [this];rfl
       ·rcases l with q | q | ⟨_,q1,q2,_⟩
        ·exact h1 q
        ·exact h3 q
        ·exact hl ⟨q1,q2⟩
     ·refine .inl ⟨fun next=>?_,fun l=>?_⟩
      ·rw [b0];unfold Zed;rw [Z8 x.kind 3,decide_eq_false h3,Cq0,Z8 x.kind 2,decide_eq_false h2];rfl
      ·rcases l with q | q | ⟨q,_⟩
       ·exact h1 q
       ·exact h3 q
       ·exact h2 q
  rcases bad with⟨b1,b2⟩ | ⟨b1,b2⟩
  ·exact .inl ⟨b1,hk,by rwa [hX]⟩
  ·exact .inr ⟨b1,fun⟨_,q⟩=>by rw [hX] at q;exact q b2⟩
 ·unfold Zax;rw [ZR];rfl
 ·simp only [Bool.false_eq_true,false_iff];obtain⟨h,q⟩:=hc;intro s;exact q (s _ (List.getElem_mem h))
 ·refine⟨fun _ x hx=>?_,fun _=>rfl⟩;obtain⟨k,hk,rfl⟩:=List.getElem_of_mem hx;exact Classical.byContradiction fun q=>hlt k hk ⟨hk,q⟩
end Go.Proofs.YtbmbbcaaimehkaaGreat
end
section
namespace Go.Proofs.YtbmbbcaaimehkaaGreat
open Go.Lf
section
variable {β γ:Type} {R:β ->Prop}
theorem Zkb {body:γ ->(γ ->Option β) ->Option β} (r1:Nat ->β) (r2:Option β) {s0:γ} (S:Nat ->γ) (h0:S 0=s0) (c:Nat ->Prop) {n F:Nat} (hF:n < F)
 (hb:∀ k,k < n ->((∀ next,body (S k) next=some (r1 k))∧c k)∨((∀ next,body (S k) next=next (S (k + 1)))∧¬ c k)) (he:∀ next,body (S n) next=r2)
 (h1:∀ k,k < n ->c k ->R (r1 k)) (h2:(∀ k,k < n ->¬ c k) ->∃ b,r2=some b∧R b):∃ b,loop F body s0=some b∧R b:=by
 by_cases hz:∃ k,k < n∧c k
 ·obtain⟨k0,hk0⟩:=hz;obtain⟨m,hm,⟨hmn,hcm⟩,hlt⟩:=Qb (c:=fun k=>k < n∧c k) hk0;refine⟨r1 m,Yh S h0 (n:=m) (by omega) (fun k hk=>?_) ?_,h1 m hmn hcm⟩
  ·rcases hb k (by omega) with⟨_,q⟩ | ⟨q,_⟩
   ·exact absurd ⟨by omega,q⟩ (hlt k hk)
   ·exact q
  ·rcases hb m hmn with⟨q,_⟩ | ⟨_,q⟩
   ·exact q
   ·exact absurd hcm q
 ·have hno:∀ k,k < n ->¬ c k:=fun k hk q=>hz ⟨k,hk,q⟩
  obtain⟨b,e,hR⟩:=h2 hno;refine⟨b,?_,hR⟩;rw [← e];exact Yh S h0 hF (fun k hk=>(hb k hk).elim (fun q=>absurd q.2 (hno k hk)) fun q=>q.1) he
end
theorem Zaz {F:Nat} (hF:1000 <=F) {l:List Int} (hl:l.length <=900) (x:Int):∃ b,Zqh F l x=some b∧(b=true↔x ∈ l):=by
 have:∃ k,ZAW F l x=some k∧(0 <=k↔x ∈ l):=by
  unfold ZAW;refine Zkb (fun k=>(k:Int)) (some (-1)) (fun k=>(k:Int)) rfl (fun k=>∃ h:k < l.length,x=l[k]) (n:=l.length) (by omega) (fun k hk=>?_) (fun next=>?_) (fun k hk hc=>?_) (fun hno=>⟨-1,rfl,?_⟩)
  ·by_cases h:x=l[k]
   ·refine .inl ⟨fun next=>?_,hk,h⟩;unfold Zjs;rw [ZJ hk,Cq1,YW hk];simp only [Bq0];rw [Z8,decide_eq_true h];rfl
   ·refine .inr ⟨fun next=>?_,fun⟨_,q⟩=>h q⟩;unfold Zjs;rw [ZJ hk,Cq1,YW hk];simp only [Bq0];rw [Z8,decide_eq_false h,Cq0,YB (by omega)]
  ·unfold Zjs;rw [ZR];rfl
  ·obtain⟨h,e⟩:=hc;exact⟨fun _=>e ▸ List.getElem_mem h,fun _=>by omega⟩
  ·refine⟨fun q=>absurd q (by omega),fun q=>?_⟩;obtain⟨k,hk,e⟩:=List.getElem_of_mem q;exact absurd ⟨hk,e.symm⟩ (hno k hk)
 obtain⟨k,h1,h2⟩:=this;refine⟨decide (k >=0),?_,?_⟩
 ·unfold Zqh;rw [h1];rfl
 ·rw [decide_eq_true_eq];exact h2
def ZkI (w:Zb) (p q:Int):Prop:=∃ x ∈ w.qG,x.kind=2∧p ∈ x.qV∧q ∈ x.qV
theorem Zvz {F:Nat} (hF:1000 <=F) {w:Zb} (sm:UQ 900 w) (l:List Yy) (p q:Int):∃ b,Zsz F ⟨w,l⟩ p q=some b∧(b=true↔ZkI w p q):=by
 unfold Zsz;have hwl:=sm.qG;refine Zkb (fun _=>true) (some false) (fun k=>(k:Int)) rfl (fun k=>∃ h:k < w.qG.length,(w.qG[k]).kind=2∧p ∈ (w.qG[k]).qV∧q ∈ (w.qG[k]).qV) (n:=w.qG.length) (by omega) (fun k hk=>?_) (fun next=>?_) (fun k hk hc=>?_) (fun hno=>⟨false,rfl,?_⟩)
 ·have hx:w.qG[k] ∈ w.qG:=List.getElem_mem hk;obtain⟨s1,s2⟩:=sm.Xm _ hx;obtain⟨b1,e1,i1⟩:=Zaz (F:=F) hF (l:=w.qG[k].qV) (by omega) p;obtain⟨b2,e2,i2⟩:=Zaz (F:=F) hF (l:=w.qG[k].qV) (by omega) q
  have hb:∀ next,Zju F ⟨w,l⟩ p q (k:Int) next=bif(((w.qG[k].kind==2) && b1) && b2) then some true else next ((k + 1:Nat):Int):=fun next=>by
   unfold Zju;rw [ZJ hk,Cq1,YW hk];simp only [Bq0];rw [e1,e2];cases h2:(w.qG[k].kind==2)
   ·simp only [Xx,Bq0,Bool.false_and,Cq0];rw [YB (by omega)]
   ·simp only [Yu,Bq0,Bool.true_and];cases b1
    ·simp only [Xx,Bq0,Bool.false_and,Cq0];rw [YB (by omega)]
    ·simp only [Yu,Bq0,Bool.true_and];cases b2
     ·simp only [Cq0];rw [YB (by omega)]
     ·simp only [Cq1];unfold Zjt;rw [Zfe]
  by_cases hc:w.qG[k].kind=2∧p ∈ w.qG[k].qV∧q ∈ w.qG[k].qV
  ·refine .inl ⟨fun next=>?_,hk,hc⟩;rw [hb,Z8,decide_eq_true hc.1,i1.2 hc.2.1,i2.2 hc.2.2];rfl
  ·refine .inr ⟨fun next=>?_,fun⟨_,z⟩=>hc z⟩;rw [hb]
   have:(((w.qG[k].kind==2) && b1) && b2)=false:=by
    rw [← Bool.not_eq_true];intro z;simp only [Ba0,beq_iff_eq] at z;exact hc ⟨z.1.1,i1.1 z.1.2,i2.1 z.2⟩
   rw [this];rfl
 ·unfold Zju;rw [ZR];rfl
 ·obtain⟨h,z⟩:=hc;exact⟨fun _=>⟨_,List.getElem_mem h,z⟩,fun _=>rfl⟩
 ·simp only [Bool.false_eq_true,false_iff];rintro⟨x,hx,z⟩;obtain⟨k,hk,rfl⟩:=List.getElem_of_mem hx;exact hno k hk ⟨hk,z⟩
def sp (w:Zb) (p:Nat):Yy:=Kg (Y7 w p)
def spL (w:Zb):List Yy:= (List.range w.Zx.length).map (sp w)
def ZLk (w:Zb) (p:Nat):Prop:= (Y7 w p).length=1∧(0 <=inn w p ->(sp w (inn w p).toNat).machine= (sp w p).machine∧(sp w (inn w p).toNat).here= (sp w p).here∧((sp w p).here=false ->ZkI w p (inn w p)))
def spK (w:Zb) (k:Nat):List Yy:= (List.range k).map (sp w) ++ List.replicate (w.Zx.length - k) ⟨0,false,0⟩
theorem Ztw {w:Zb} {k:Nat} (h:k < w.Zx.length):Yl (spK w k) (k:Int) (sp w k)=spK w (k + 1):=by
 unfold Yl spK;rw [Int.toNat_natCast,List.set_append_right _ _ (by simp),List.range_succ,List.map_append,List.append_assoc];congr 1;rw [List.length_map,List.length_range,Nat.sub_self,show w.Zx.length - k= (w.Zx.length - (k + 1)) + 1 by omega,List.replicate_succ,List.set_cons_zero];rfl
theorem ZCO {w:Zb} {k:Nat} (h:k <=w.Zx.length):(spK w k).length=w.Zx.length:=by simp [spK];omega
theorem ZCP (w:Zb):spK w w.Zx.length=spL w:=by simp [spK,spL]
theorem MvX.mvd {w:Zb} (sm:UQ 900 w) (h:∀ x ∈ w.qG,MvX w x):Mvd 900 w.qG:=fun x hx hk=>by
 rcases h x hx with q | q | ⟨_,_,q,_⟩
 ·omega
 ·omega
 ·exact⟨q,by have:= (sm.Xm x hx).1;omega⟩
theorem ZkW {F:Nat} (hF:1000 <=F) (hM:F <=1000000) {w:Zb} (s:Wi w) (hi:Inn w) (sm:UQ 900 w) (hv:Mvd 900 w.qG):
 ∃ x,ZA7 F ⟨w,List.replicate w.Zx.length ⟨0,false,0⟩⟩=some x∧((x.2=true↔∀ p,p < w.Zx.length ->ZLk w p)∧(x.2=true ->x.1= ⟨w,spL w⟩)):=by
 have h8:=s.p2;have hwh:∀ p,p < w.Zx.length ->Zef F w (p:Int)=some (sp w p,((Y7 w p).length:Int)):=fun p hp=>Ziu hF hM s hv sm.qG hp
 unfold ZA7
 let l1:Nat ->List Yy:=fun k=>if(Y7 w k).length=1 then spK w (k + 1) else spK w k
 refine Zkb (fun k=>(⟨w,l1 k⟩,false)) (some (⟨w,spL w⟩,true)) (fun k=>((k:Int),spK w k)) (by simp [spK]) (fun k=>¬ ZLk w k) (n:=w.Zx.length) (by omega) (fun k hk=>?_) (fun next=>?_) (fun k hk hc=>?_) (fun hno=>⟨_,rfl,?_⟩)
 ·have hok:=hi.rng k hk
  have b0:∀ next,Zgl F ⟨w,List.replicate w.Zx.length ⟨0,false,0⟩⟩ ((k:Int),spK w k) next= (bif(((Y7 w k).length:Int) !=1) then some (⟨w,spK w k⟩,false) else(bif decide (inn w k < 0) then ZcS (k:Int) next (Yl (spK w k) (k:Int) (sp w k)) else(Zef F w (inn w k)).bind fun x37=>(gd ((!((x37.1.machine != (sp w k).machine) || (x37.1.here != (sp w k).here))) && (!(sp w k).here)) (Zsz F ⟨w,Yl (spK w k) (k:Int) (sp w k)⟩ (k:Int) (inn w k)) default).bind fun x44=>(bif(((x37.1.machine != (sp w k).machine) || (x37.1.here != (sp w k).here)) || ((!(sp w k).here) && (!x44))) then some (⟨w,Yl (spK w k) (k:Int) (sp w k)⟩,false) else ZcS (k:Int) next (Yl (spK w k) (k:Int) (sp w k))))):=fun next=>by
   unfold Zgl;dsimp only;rw [ZJ hk,Cq1,Xe hk];simp only [Bq0];rw [hwh k hk];simp only [Bq0];rw [YM ⟨0,false,0⟩ (show k < (spK w k).length by rw [ZCO (by omega)];exact hk)];simp only [Bq0]
  by_cases h1:(Y7 w k).length=1
  ·have e1:(((Y7 w k).length:Int) !=1)=false:=by rw [h1];rfl
   have hl1:l1 k=spK w (k + 1):=if_pos h1;have jn:∀ next,ZcS (k:Int) next (spK w (k + 1))=next (((k + 1:Nat):Int),spK w (k + 1)):=fun next=>by unfold ZcS;rw [YB (by omega)]
   by_cases h2:inn w k < 0
   ·refine .inr ⟨fun next=>?_,fun q=>q ⟨h1,fun z=>by omega⟩⟩;rw [b0,e1,Cq0,decide_eq_true h2,Cq1,Ztw hk,jn]
   ·obtain⟨q,eq,hq⟩:=JP hok h2;obtain⟨b,hb,hbi⟩:=Zvz hF sm (spK w (k + 1)) (k:Int) (inn w k)
    have b1:∀ next,Zgl F ⟨w,List.replicate w.Zx.length ⟨0,false,0⟩⟩ ((k:Int),spK w k) next=bif((((sp w q).machine != (sp w k).machine) || ((sp w q).here != (sp w k).here)) || ((!(sp w k).here) && (!(bif((!(((sp w q).machine != (sp w k).machine) || ((sp w q).here != (sp w k).here))) && (!(sp w k).here)) then b else default)))) then some (⟨w,spK w (k + 1)⟩,false) else next (((k + 1:Nat):Int),spK w (k + 1)):=fun next=>by
     rw [b0,e1,Cq0,decide_eq_false h2,Cq0,Ztw hk,hb,eq,hwh q hq];simp only [Bq0];have hgd:∀ c:Bool,gd c (some b) (default:Bool)=some (bif c then b else default):=fun c=>by cases c <;> rfl
     rw [hgd];simp only [Bq0];rw [jn]
    have eqn:(inn w k).toNat=q:=by omega
    by_cases ht:(sp w q).machine= (sp w k).machine∧(sp w q).here= (sp w k).here∧((sp w k).here=false ->ZkI w k (inn w k))
    ·refine .inr ⟨fun next=>?_,fun z=>z ⟨h1,fun _=>by rw [eqn];exact ht⟩⟩;rw [b1,ht.1,ht.2.1];simp only [XZ,Bool.or_self,Bool.not_false,Bool.true_and,Bool.false_or];cases hh:(sp w k).here with
     | true=>rfl
     | false=>
       rw [hbi.2 (ht.2.2 hh)];rfl
    ·refine .inl ⟨fun next=>?_,fun z=>ht (by have:=z.2 (by omega);rwa [eqn] at this)⟩;rw [b1,hl1]
     have:((((sp w q).machine != (sp w k).machine) || ((sp w q).here != (sp w k).here)) || ((!(sp w k).here) && (!(bif((!(((sp w q).machine != (sp w k).machine) || ((sp w q).here != (sp w k).here))) && (!(sp w k).here)) then b else default))))=true:=by
      rw [← Bool.not_eq_false];intro hf;rw [Bool.or_eq_false_iff] at hf;obtain⟨hf1,hf2⟩:=hf;rw [hf1] at hf2;rw [Bool.or_eq_false_iff,bne_eq_false_iff_eq,bne_eq_false_iff_eq] at hf1;refine ht ⟨hf1.1,hf1.2,fun hh=>?_⟩;rw [hh] at hf2;simp only [Bool.not_false,Bool.and_self,Cq1,Bool.true_and,Bool.not_eq_false'] at hf2;exact hbi.1 hf2
     rw [this];rfl
  ·refine .inl ⟨fun next=>?_,fun z=>h1 z.1⟩;have hl1:l1 k=spK w k:=if_neg h1;rw [b0,hl1,Qy,decide_eq_true (by omega)];rfl
 ·unfold Zgl;dsimp only;rw [ZR,Cq0,ZCP]
 ·refine⟨?_,fun q=>by cases q⟩;simp only [Bool.false_eq_true,false_iff];intro z;exact hc (z k hk)
 ·exact⟨⟨fun _ p hp=>Classical.byContradiction (hno p hp),fun _=>rfl⟩,fun _=>rfl⟩
def RtX (w:Zb) (p:Nat) (m a:Int):Prop:=0 <=a∧a <= (sp w p).age∧0 <=m∧m < (w.qQ.length:Int)∧(a= (sp w p).age ->m= (sp w p).machine)∧(a ≠ (sp w p).age ->a < (E w m.toNat p).age)
instance (w:Zb) (p:Nat) (m a:Int):Decidable (RtX w p m a):=by unfold RtX;infer_instance
theorem Ztv {w:Zb} {p:Nat} (hp:p < w.Zx.length):ZK (spL w) (p:Int)=some (sp w p):=by
 rw [YM default (by simp [spL];exact hp)];simp [spL,hp]
theorem Zd2 {w:Zb} (s:Wi w) {p:Nat} (hp:p < w.Zx.length) (m a:Int):Znu ⟨w,spL w⟩ (p:Int) m a=some (decide (RtX w p m a)):=by
 unfold Znu;rw [Ztv hp];simp only [Bq0];unfold Znt;dsimp only;by_cases h1:0 <=a∧a <= (sp w p).age
 ·rw [decide_eq_false (show ¬ a < 0 by omega),decide_eq_false (show ¬ a > (sp w p).age by omega)];simp only [Bool.or_self,Bool.not_false,Yu,Bq0,Bool.false_or];by_cases h2:0 <=m∧m < (w.qQ.length:Int)
  ·rw [decide_eq_true h2.1,decide_eq_true h2.2];simp only [Bool.and_self,Bool.not_true,Cq0];by_cases h3:a= (sp w p).age
   ·rw [Z8,decide_eq_true h3,Cq1,Z8];congr 1;by_cases h4:m= (sp w p).machine
    ·rw [decide_eq_true h4,decide_eq_true (show RtX w p m a from⟨h1.1,h1.2,h2.1,h2.2,fun _=>h4,fun q=>absurd h3 q⟩)]
    ·rw [decide_eq_false h4,decide_eq_false (fun q:RtX w p m a=>h4 (q.2.2.2.2.1 h3))]
   ·obtain⟨k,rfl⟩:∃ k:Nat,m= (k:Int):= ⟨m.toNat,by omega⟩
    rw [Z8,decide_eq_false h3,Cq0,s.row (by omega)];simp only [Bq0];rw [s.ent (by omega) hp];simp only [Bq0];congr 1;by_cases h4:(E w k p).age > a
    ·rw [decide_eq_true h4,decide_eq_true (show RtX w p (k:Int) a from⟨h1.1,h1.2,h2.1,h2.2,fun q=>absurd q h3,fun _=>h4⟩)]
    ·rw [decide_eq_false h4,decide_eq_false (fun q:RtX w p (k:Int) a=>h4 (q.2.2.2.2.2 h3))]
  ·have:(decide (m >=0) && decide (m < (w.qQ.length:Int)))=false:=by
    rw [← Bool.not_eq_true];intro z;simp only [Ba0,decide_eq_true_eq] at z;exact h2 z
   rw [this,decide_eq_false (fun q:RtX w p m a=>h2 ⟨q.2.2.1,q.2.2.2.1⟩)];rfl
 ·have:(decide (a < 0) || decide (a > (sp w p).age))=true:=by
   rw [← Bool.not_eq_false];intro z;simp only [Bool.or_eq_false_iff,decide_eq_false_iff_not] at z;exact h1 ⟨by omega,by omega⟩
  rw [this,decide_eq_false (fun q:RtX w p m a=>h1 ⟨q.1,q.2.1⟩)];rfl
end Go.Proofs.YtbmbbcaaimehkaaGreat
end
section
namespace Go.Proofs.YtbmbbcaaimehkaaGreat
open Go.Lf
def Zto (w:Zb) (m p:Nat):Prop:=
 (E w m p= ⟨true,(m:Int),(E w m p).age⟩∧0 <= (E w m p).age∧(E w m p).age <=30)∨
 (E w m p ≠ ⟨true,(m:Int),(E w m p).age⟩∧(E w m p).here=false∧(E w m p).ZX ≠ (m:Int)∧RtX w p (E w m p).ZX (E w m p).age)
theorem Zob {F:Nat} (hF:1000 <=F) {w:Zb} (s:Wi w):∃ b,Zwa F ⟨w,spL w⟩=some b∧(b=true↔∀ m,m < w.qQ.length ->∀ p,p < w.Zx.length ->Zto w m p):=by
 have h5:=s.m2;have h8:=s.p2;unfold Zwa;refine JR false (some true) (fun k=>(k:Int)) rfl (fun m=>¬ ∀ p,p < w.Zx.length ->Zto w m p) (n:=w.qQ.length) (by omega) (fun m hm=>?_) (fun next=>?_) (fun k hk hc=>?_) (fun hno=>⟨true,rfl,fun _ m hm=>Classical.byContradiction (hno m hm),fun _=>rfl⟩)
 ·have b0:∀ next,ZjB F ⟨w,spL w⟩ (m:Int) next=loop F (Zgk ⟨w,spL w⟩ (m:Int) next (row w m)) 0:=fun next=>by
   unfold ZjB;rw [ZJ hm,Cq1,s.row hm];rfl
  have step:∀ (next:Int ->Option Bool) (p:Nat),p < w.Zx.length ->∀ nx,Zgk ⟨w,spL w⟩ (m:Int) next (row w m) (p:Int) nx=open Classical in if Zto w m p then nx ((p + 1:Nat):Int) else some false:=fun next p hp nx=>by
   unfold Zgk;rw [s.len hm,ZJ hp,Cq1,s.ent hm hp];simp only [Bq0];have hj:Zgj (p:Int) nx ()=nx ((p + 1:Nat):Int):=by unfold Zgj;rw [YB (by omega)]
   by_cases he:E w m p= ⟨true,(m:Int),(E w m p).age⟩
   ·rw [(Zhy _ _).2 he,Cq1];by_cases ha:0 <= (E w m p).age∧(E w m p).age <=30
    ·rw [if_pos (.inl ⟨he,ha⟩),decide_eq_false (by omega),decide_eq_false (by omega),Bool.or_self,Cq0,hj]
    ·have:(decide ((E w m p).age < 0) || decide ((E w m p).age > 30))=true:=by
      rw [← Bool.not_eq_false];intro z;simp only [Bool.or_eq_false_iff,decide_eq_false_iff_not] at z;exact ha ⟨by omega,by omega⟩
     rw [this,if_neg (by rintro(⟨_,q⟩ | ⟨q,_⟩);· exact ha q
                         ·exact q he)];rfl
   ·have e1:Qx (E w m p) ⟨true,(m:Int),(E w m p).age⟩=false:=by rw [← Bool.not_eq_true,Zhy];exact he
    rw [e1,Cq0];by_cases h2:(E w m p).here=false∧(E w m p).ZX ≠ (m:Int)
    ·have e2:((E w m p).here || ((E w m p).ZX== (m:Int)))=false:=by rw [h2.1,Z8,decide_eq_false h2.2];rfl
     rw [e2,Bool.not_false,Yu,Zd2 s hp];simp only [Bq0,Bool.false_or];by_cases h3:RtX w p (E w m p).ZX (E w m p).age
     ·rw [decide_eq_true h3,if_pos (.inr ⟨he,h2.1,h2.2,h3⟩),Bool.not_true,Cq0,hj]
     ·rw [decide_eq_false h3,if_neg (by rintro(⟨q,_⟩ | ⟨_,_,_,q⟩);· exact he q
                                        ·exact h3 q)];rfl
    ·have e2:((E w m p).here || ((E w m p).ZX== (m:Int)))=true:=by
      rw [← Bool.not_eq_false];intro z;simp only [Bool.or_eq_false_iff,beq_eq_false_iff_ne] at z;exact h2 z
     rw [e2,if_neg (by rintro(⟨q,_⟩ | ⟨_,q1,q2,_⟩);· exact he q
                       ·exact h2 ⟨q1,q2⟩)];rfl
  by_cases hall:∀ p,p < w.Zx.length ->Zto w m p
  ·refine .inr ⟨fun next=>?_,fun q=>q hall⟩;rw [b0];refine Yh (fun p=>(p:Int)) rfl (n:=w.Zx.length) (by omega) (fun p hp nx=>?_) (fun nx=>?_)
   ·rw [step next p hp nx,if_pos (hall p hp)]
   ·unfold Zgk;rw [s.len hm,ZR,Cq0,YB (by omega)]
  ·refine .inl ⟨fun next=>?_,hall⟩;have hz:∃ p,p < w.Zx.length∧¬ Zto w m p:=Classical.byContradiction fun q=>hall fun p hp=>Classical.byContradiction fun q2=>q ⟨p,hp,q2⟩
   obtain⟨p0,hp0⟩:=hz;obtain⟨p1,_,hp1,hlt⟩:=Qb (c:=fun p=>p < w.Zx.length∧¬ Zto w m p) hp0;rw [b0];refine Yh (fun p=>(p:Int)) rfl (n:=p1) (by omega) (fun p hp nx=>?_) (fun nx=>?_)
   ·rw [step next p (by omega) nx,if_pos (Classical.byContradiction fun q=>hlt p hp ⟨by omega,q⟩)]
   ·rw [step next p1 hp1.1 nx,if_neg hp1.2]
 ·unfold ZjB;rw [ZR];rfl
 ·simp only [Bool.false_eq_true,false_iff];intro z;exact hc (z k hk)
def Jg (w:Zb) (m:Int) (y:Zr):Prop:=0 <=y.place∧y.place < (w.Zx.length:Int)∧0 <=y.from_∧y.from_ < (w.qQ.length:Int)∧RtX w y.place.toNat m y.age∧1 <=y.hops∧y.hops <=Y2 (1 + y.age)
theorem ZlN {w:Zb} (s:Wi w) (m:Int) (y:Zr):∃ b,Zv8 ⟨w,spL w⟩ m y=some b∧(b=true↔Jg w m y):=by
 unfold Zv8 Zsv Znt;simp only [Bq0];by_cases h1:0 <=y.place∧y.place < (w.Zx.length:Int)
 ·obtain⟨p,hp⟩:∃ p:Nat,y.place= (p:Int):= ⟨y.place.toNat,by omega⟩
  have hpl:p < w.Zx.length:=by omega
  rw [hp,decide_eq_true (show(p:Int) >=0 by omega),decide_eq_true (show(p:Int) < (w.Zx.length:Int) by omega)];simp only [Bool.and_self,Yu,Bq0,Bool.true_and];by_cases h2:0 <=y.from_∧y.from_ < (w.qQ.length:Int)
  ·rw [decide_eq_true h2.1,decide_eq_true h2.2];simp only [Bool.and_self,Yu,Bq0,Bool.true_and];rw [Zd2 s hpl];refine⟨_,rfl,?_⟩;simp only [Ba0,decide_eq_true_eq];unfold Jg;rw [hp,Int.toNat_natCast]
   constructor
   ·rintro⟨⟨a,b⟩,c⟩;exact⟨by omega,by omega,h2.1,h2.2,a,b,c⟩
   ·rintro⟨_,_,_,_,a,b,c⟩;exact⟨⟨a,b⟩,c⟩
  ·have:(decide (y.from_ >=0) && decide (y.from_ < (w.qQ.length:Int)))=false:=by
    rw [← Bool.not_eq_true];intro z;simp only [Ba0,decide_eq_true_eq] at z;exact h2 z
   rw [this];refine⟨_,rfl,?_⟩;simp only [Bool.false_and,Bool.false_eq_true,false_iff];rintro⟨_,_,a,b,_⟩;exact h2 ⟨a,b⟩
 ·have:(decide (y.place >=0) && decide (y.place < (w.Zx.length:Int)))=false:=by
   rw [← Bool.not_eq_true];intro z;simp only [Ba0,decide_eq_true_eq] at z;exact h1 z
  rw [this];refine⟨_,rfl,?_⟩;simp only [Bool.false_and,Bool.false_eq_true,false_iff];rintro⟨a,b,_⟩;exact h1 ⟨a,b⟩
def ZCd (w:Zb) (x:Zg):Prop:=0 <=x.ZX∧x.ZX < (w.qQ.length:Int)∧(x.kind ≠ 2 ->x.qV= []∧x.Yc= [])∧
 (x.kind=1 ->Jg w x.ZX x.ZV∧x.place=0∧x.at_=0∧x.age=0)∧
 (x.kind=3 ->x.at_ ≠ x.ZX∧0 <=x.place∧x.place < (w.Zx.length:Int)∧RtX w x.place.toNat x.at_ x.age∧x.ZV=ZtW)∧
 (x.kind ≠ 1 ->x.kind ≠ 3 ->x.ZV=ZtW∧x.place=0∧x.at_=0∧x.age=0)
theorem ZpB {w:Zb} (s:Wi w) {x:Zg} (h9:x.qV.length <=900∧x.Yc.length <=900):∃ b,ZA6 ⟨w,spL w⟩ x=some b∧(b=true↔ZCd w x):=by
 unfold ZA6 Znt;simp only [Bq0];refine Jc (fun hc=>⟨false,rfl,?_⟩) (fun hc=>?_)
 ·simp only [Bool.false_eq_true,false_iff];rintro⟨a,b,_⟩;rw [decide_eq_true (show x.ZX >=0 from a),decide_eq_true b] at hc;cases hc
 simp only [Bool.not_eq_false',Ba0,decide_eq_true_eq] at hc;refine Jc (fun hc2=>⟨false,rfl,?_⟩) (fun hc2=>?_)
 ·simp only [Bool.false_eq_true,false_iff];rintro⟨_,_,a,_⟩;simp only [Ba0,bne_iff_ne,decide_eq_true_eq] at hc2;obtain⟨a1,a2⟩:=a hc2.1;rw [a1,a2] at hc2;exact absurd hc2.2 (by decide)
 have hk2:x.kind ≠ 2 ->x.qV= []∧x.Yc= []:=fun hk=>by
  rw [Qy,decide_eq_true hk,Bool.true_and,decide_eq_false_iff_not,WV (by omega) (by omega)] at hc2;exact⟨List.length_eq_zero_iff.1 (by omega),List.length_eq_zero_iff.1 (by omega)⟩
 have hj:∀ a b c d e f g h,Zgi x (a,b,c,d,e,f,g,h)=some ((((Xt (Zr.mk a b c d e) x.ZV) && (f==x.place)) && (g==x.at_)) && (h==x.age)):=fun _ _ _ _ _ _ _ _=>rfl
 refine Jc (fun h1=>?_) (fun h1=>?_)
 ·have h1:x.kind=1:=by simpa using h1
  obtain⟨b,hb,hbi⟩:=ZlN s x.ZX x.ZV;rw [hb];simp only [Bq0];refine Jc (fun h2=>⟨false,rfl,?_⟩) (fun h2=>⟨_,hj _ _ _ _ _ _ _ _,?_⟩)
  ·simp only [Bool.false_eq_true,false_iff];rintro⟨_,_,_,a,_⟩;rw [hbi.2 (a h1).1] at h2;cases h2
  ·have h2:Jg w x.ZX x.ZV:=hbi.1 (by simpa using h2);simp only [Ba0,K5,beq_iff_eq]
   constructor
   ·rintro⟨⟨⟨_,a⟩,b⟩,c⟩;exact⟨hc.1,hc.2,hk2,fun _=>⟨h2,a.symm,b.symm,c.symm⟩,fun q=>by omega,fun q=>absurd h1 q⟩
   ·rintro⟨_,_,_,a,_⟩;obtain⟨_,a1,a2,a3⟩:=a h1;exact⟨⟨⟨trivial,a1.symm⟩,a2.symm⟩,a3.symm⟩
 have h1:x.kind ≠ 1:=by simpa using h1
 refine Jc (fun h3=>?_) (fun h3=>?_)
 ·have h3:x.kind=3:=by simpa using h3
  unfold Zsv;dsimp only;by_cases hat:x.at_=x.ZX
  ·rw [hat,Z8,decide_eq_true rfl];refine⟨false,rfl,?_⟩;simp only [Bool.false_eq_true,false_iff];rintro⟨_,_,_,_,a,_⟩;exact(a h3).1 hat
  ·rw [Z8,decide_eq_false hat];simp only [Bool.not_false,Yu,Bq0,Bool.false_or];by_cases hp:0 <=x.place∧x.place < (w.Zx.length:Int)
   ·rw [decide_eq_true (show x.place >=0 from hp.1),decide_eq_true hp.2];obtain⟨p,ep⟩:∃ p:Nat,x.place= (p:Int):= ⟨x.place.toNat,by omega⟩
    simp only [Bool.and_self,Bool.not_true,Bool.not_false,Yu,Bool.false_or];rw [show Znu ⟨w,spL w⟩ x.place x.at_ x.age=some (decide (RtX w x.place.toNat x.at_ x.age)) by rw [ep,Zd2 s (by omega),Int.toNat_natCast]];simp only [Bq0];refine Jc (fun h4=>⟨false,rfl,?_⟩) (fun h4=>⟨_,hj _ _ _ _ _ _ _ _,?_⟩)
    ·simp only [Bool.false_eq_true,false_iff];rintro⟨_,_,_,_,a,_⟩;rw [decide_eq_true (a h3).2.2.2.1] at h4;cases h4
    ·have h4:RtX w x.place.toNat x.at_ x.age:=by simpa using h4
     simp only [Ba0,K5,beq_iff_eq]
     constructor
     ·rintro⟨⟨⟨a,_⟩,_⟩,_⟩;exact⟨hc.1,hc.2,hk2,fun q=>absurd q h1,fun _=>⟨hat,hp.1,hp.2,h4,a.symm⟩,fun _ q=>absurd h3 q⟩
     ·rintro⟨_,_,_,_,a,_⟩;exact⟨⟨⟨(a h3).2.2.2.2.symm,trivial⟩,trivial⟩,trivial⟩
   ·have:(decide (x.place >=0) && decide (x.place < (w.Zx.length:Int)))=false:=by
     rw [← Bool.not_eq_true];intro z;simp only [Ba0,decide_eq_true_eq] at z;exact hp z
    rw [this];refine⟨false,rfl,?_⟩;simp only [Bool.false_eq_true,false_iff];rintro⟨_,_,_,_,a,_⟩;exact hp ⟨(a h3).2.1,(a h3).2.2.1⟩
 have h3:x.kind ≠ 3:=by simpa using h3
 refine⟨_,hj _ _ _ _ _ _ _ _,?_⟩;simp only [Ba0,K5,beq_iff_eq]
 constructor
 ·rintro⟨⟨⟨a,b⟩,c⟩,d⟩;exact⟨hc.1,hc.2,hk2,fun q=>absurd q h1,fun q=>absurd q h3,fun _ _=>⟨a.symm,b.symm,c.symm,d.symm⟩⟩
 ·rintro⟨_,_,_,_,_,a⟩;obtain⟨a1,a2,a3,a4⟩:=a h1 h3;exact⟨⟨⟨a1.symm,a2.symm⟩,a3.symm⟩,a4.symm⟩
def Jk (l:List Zg):List Int:= (l.filter fun x=>x.kind==1).map fun x=>x.ZV.msg
def QW (l:List (List Zr)):List Int:=l.flatMap fun x=>x.map fun y=>y.msg
def msgs (w:Zb):List Int:=w.qK.flatten ++ QW w.qJ ++ Jk w.qG
theorem Zdr {α:Type} {l:List (List α)} {k:Nat} (h:k < l.length):(l.take (k + 1)).flatten= (l.take k).flatten ++ l[k]:=by
 rw [List.take_add_one,List.getElem?_eq_getElem h,List.flatten_append];simp
theorem Zbs {l:List (List Zr)} {k:Nat} (h:k < l.length):QW (l.take (k + 1))=QW (l.take k) ++ l[k].map fun y=>y.msg:=by
 unfold QW;rw [List.take_add_one,List.getElem?_eq_getElem h,List.flatMap_append];simp
theorem Zhj {l:List Zg} {k:Nat} (h:k < l.length):Jk (l.take (k + 1))=Jk (l.take k) ++ if l[k].kind=1 then [l[k].ZV.msg] else []:=by
 unfold Jk;rw [List.take_add_one,List.getElem?_eq_getElem h,List.filter_append,List.map_append];congr 1;by_cases hk:l[k].kind=1
 ·rw [if_pos hk];simp [hk]
 ·rw [if_neg hk];simp [hk]
theorem ZcR {α:Type} {l:List (List α)} {n:Nat} (h:∀ x ∈ l,x.length <=n):l.flatten.length <=n * l.length:=by
 induction l with
 | nil=>simp
 | cons x l ih=>
   have:=ih fun y hy=>h y (by simp [hy])
   have:=h x (by simp);rw [List.flatten_cons,List.length_append,List.length_cons,Nat.mul_succ];omega
theorem ZvX {l:List (List Zr)} {n:Nat} (h:∀ x ∈ l,x.length <=n):(QW l).length <=n * l.length:=by
 induction l with
 | nil=>simp [QW]
 | cons x l ih=>
   have:=ih fun y hy=>h y (by simp [hy])
   have:=h x (by simp);unfold QW at *;rw [List.flatMap_cons,List.length_append,List.length_map,List.length_cons,Nat.mul_succ];omega
theorem ZrR (l:List Zg):(Jk l).length <=l.length:=by
 unfold Jk;rw [List.length_map];exact List.length_filter_le _ _
theorem ZqM {xs ys:List Int} (h:xs.length + ys.length <=1000000):app 8 xs ys=some (xs ++ ys):=Zkw h (by decide)
structure BdM (w:Zb):Prop where
 b:w.qK.flatten.length <=160000
 h:(QW w.qJ).length <=160000
 m:(Jk w.qG).length <=400
theorem BdM.of {w:Zb} (sm:UQ 400 w):BdM w:=by
 have h1:=ZcR (n:=400) fun x hx=>Nat.le_of_lt (sm.box x hx)
 have h2:=ZvX (n:=400) fun x hx=>Nat.le_of_lt (sm.hel x hx)
 have h3:=ZrR w.qG;have:=sm.qK;have:=sm.qJ;have:=sm.qG;exact⟨by omega,by omega,by omega⟩
theorem Kn {α:Type} (l:List (List α)) (k:Nat):(l.take k).flatten.length <=l.flatten.length:=by
 have:=congrArg (fun z=>z.flatten.length) (List.take_append_drop k l);simp only [List.flatten_append,List.length_append] at this;omega
theorem Wj (l:List (List Zr)) (k:Nat):(QW (l.take k)).length <= (QW l).length:=by
 have:=congrArg (fun z=>(QW z).length) (List.take_append_drop k l);simp only [QW,List.flatMap_append,List.length_append] at this ⊢;omega
theorem Zb7 (l:List Zg) (k:Nat):(Jk (l.take k)).length <= (Jk l).length:=by
 have:=congrArg (fun z=>(Jk z).length) (List.take_append_drop k l);simp only [Jk,List.filter_append,List.map_append,List.length_append] at this ⊢;omega
def Uo (l:List Int):List Int:=l.mergeSort fun x y=>decide (x <=y)
theorem Zo5 {l:List Int} (h:l.length <=1000000):Zsx l=some (Uo l):=by
 unfold Zsx Uo;rw [Nm0 h];rfl
theorem ZdZ (l:List Int):(Uo l).Perm l:=List.mergeSort_perm _ _
theorem Zmt (l:List Int):(Uo l).Pairwise (· <=·):=by
 have:=List.pairwise_mergeSort (le:=fun x y:Int=>decide (x <=y)) (fun a b c h1 h2=>by simp at *;omega) (fun a b=>by simp;omega) l;exact this.imp fun h=>by simpa using h
theorem ZdK {l l':List Int} (h:l.Perm l') (hs:l'.Pairwise (· <=·)):Uo l=l':=
 List.Perm.eq_of_pairwise (le:= (· <=·)) (fun a b _ _ h1 h2=>by omega) (Zmt l) hs ((ZdZ l).trans h)
def XC (n:Nat):List Int:= (List.range n).map Int.ofNat
theorem ZkY (n:Nat):(XC n).Pairwise (· <=·):=by
 unfold XC;rw [List.pairwise_map];exact List.pairwise_lt_range.imp fun{a b} h=>by show(a:Int) <= (b:Int);omega
theorem ZiI {n k:Nat} (h:k < n):(XC n)[k]? =some (k:Int):=by simp [XC,h]
theorem Jb (n:Nat):(XC n).length=n:=by simp [XC]
theorem Zwi {l:List Int} (h:∀ k (hk:k < l.length),l[k]= (k:Int)):l=XC l.length:=by
 apply List.ext_getElem?;intro k;by_cases hk:k < l.length
 ·rw [ZiI hk,List.getElem?_eq_getElem hk,h k hk]
 ·rw [List.getElem?_eq_none (by omega),List.getElem?_eq_none (by rw [Jb];omega)]
def ZLm (w:Zb):Prop:=0 <=w.said∧w.said <=40∧(msgs w).Perm (XC w.said.toNat)
theorem Zk1 {F:Nat} (hF:400000 <=F) {w:Zb} (sm:UQ 400 w) (l:List Yy):∃ b,Zv9 F ⟨w,l⟩=some b∧(b=true↔ZLm w):=by
 obtain⟨B1,B2,B3⟩:=BdM.of sm;have W1:=sm.qK;have W2:=sm.qJ;have W3:=sm.qG;unfold Zv9;refine Jc (fun hc=>⟨false,rfl,?_⟩) (fun hc=>?_)
 ·simp only [Bool.false_eq_true,false_iff];rintro⟨a,b,_⟩;simp only [Bool.or_eq_true,decide_eq_true_eq] at hc;omega
 simp only [Bool.or_eq_false_iff,decide_eq_false_iff_not] at hc
 have h4:∃ b,loop F (Zbt ⟨w,l⟩ (Uo (msgs w))) 0=some b∧(b=true↔ZLm w):=by
  have hl:(Uo (msgs w)).length= (msgs w).length:= (ZdZ _).length_eq;have hl2:(msgs w).length <=320400:=by unfold msgs;rw [List.length_append,List.length_append];omega
  refine JR false (some (((Uo (msgs w)).length:Int)==w.said)) (fun k=>(k:Int)) rfl (fun k=>∃ h:k < (Uo (msgs w)).length,(Uo (msgs w))[k] ≠ (k:Int)) (n:= (Uo (msgs w)).length) (by omega) (fun k hk=>?_) (fun next=>?_) (fun k hk hc=>?_) (fun hno=>⟨_,rfl,?_⟩)
  ·have b0:∀ next,Zbt ⟨w,l⟩ (Uo (msgs w)) (k:Int) next=bif((Uo (msgs w))[k] != (k:Int)) then some false else next (Y2 ((k:Int) + 1)):=fun next=>by
    unfold Zbt;rw [ZJ hk,Cq1,YW hk];rfl
   by_cases h:(Uo (msgs w))[k]= (k:Int)
   ·refine .inr ⟨fun next=>?_,fun⟨_,q⟩=>q h⟩;rw [b0,h,XZ,Cq0,YB (by omega)]
   ·refine .inl ⟨fun next=>?_,hk,h⟩;rw [b0,Qy,decide_eq_true h];rfl
  ·unfold Zbt;rw [ZR];rfl
  ·obtain⟨h,q⟩:=hc;simp only [Bool.false_eq_true,false_iff];rintro⟨_,_,hp⟩;have e:=ZdK hp (ZkY _);have hk':k < w.said.toNat:=by rw [e,Jb] at h;exact h
   have:(Uo (msgs w))[k]? =some (k:Int):=by rw [e];exact ZiI hk'
   rw [List.getElem?_eq_getElem h] at this;exact q (by simpa using this)
  ·have e:=Zwi fun k hk=>Classical.byContradiction fun q=>hno k hk ⟨hk,q⟩
   rw [beq_iff_eq]
   constructor
   ·intro h;refine⟨by omega,by omega,?_⟩;have h2:w.said.toNat= (Uo (msgs w)).length:=by omega
    rw [h2,← e];exact(ZdZ _).symm
   ·rintro⟨_,_,hp⟩;have:=hp.length_eq;rw [Jb] at this;omega
 have h3:loop F (Zjy F ⟨w,l⟩) (w.qK.flatten ++ QW w.qJ,0)=loop F (Zbt ⟨w,l⟩ (Uo (msgs w))) 0:=by
  refine Yh (fun k=>(w.qK.flatten ++ QW w.qJ ++ Jk (w.qG.take k),(k:Int))) (by simp [Jk]) (n:=w.qG.length) (by omega) (fun k hk next=>?_) (fun next=>?_)
  ·have hm:=Zb7 w.qG k;have hll:(w.qK.flatten ++ QW w.qJ ++ Jk (w.qG.take k)).length <=320400:=by rw [List.length_append,List.length_append];omega
   rw [Zhj hk];unfold Zjy;dsimp only;rw [ZJ hk,Cq1,YW hk];simp only [Bq0];rw [Z8,ZaZ];unfold Zjx;by_cases h1:w.qG[k].kind=1
   ·rw [if_pos h1,if_pos h1,ZqM (by rw [List.length_singleton];omega)];simp only [Bq0];rw [YB (by omega),← List.append_assoc]
   ·rw [if_neg h1,if_neg h1,YB (by omega),List.append_nil]
  ·unfold Zjy;dsimp only;rw [ZR,Cq0,List.take_of_length_le (Nat.le_refl _)];show(Zsx (msgs w)).bind _=_;rw [Zo5 (by unfold msgs;rw [List.length_append,List.length_append];omega)];rfl
 have h1:loop F (Zjz F ⟨w,l⟩) (w.qK.flatten,0)=loop F (Zbt ⟨w,l⟩ (Uo (msgs w))) 0:=by
  refine Yh (fun k=>(w.qK.flatten ++ QW (w.qJ.take k),(k:Int))) (by simp [QW]) (n:=w.qJ.length) (by omega) (fun k hk next=>?_) (fun next=>?_)
  ·have hm:=Wj w.qJ k;have hm2:=Wj w.qJ (k + 1);have hrow:=sm.hel _ (List.getElem_mem hk);rw [Zbs hk] at hm2;rw [Zbs hk];rw [List.length_append,List.length_map] at hm2;unfold Zjz;dsimp only;rw [ZJ hk,Cq1,YW hk];simp only [Bq0];refine Yh (fun j=>(w.qK.flatten ++ QW (w.qJ.take k) ++ (w.qJ[k].take j).map (fun y=>y.msg),(j:Int))) (by simp) (n:=w.qJ[k].length) (by omega) (fun j hj nx=>?_) (fun nx=>?_)
   ·unfold ZnB;dsimp only;rw [ZJ hj,Cq1,YW hj];simp only [Bq0];rw [ZqM (by rw [List.length_append,List.length_append,List.length_map,List.length_take,List.length_singleton];omega)];simp only [Bq0];rw [YB (by omega),List.take_add_one,List.getElem?_eq_getElem hj,List.map_append];simp
   ·unfold ZnB;dsimp only;rw [ZR,Cq0,List.take_of_length_le (Nat.le_refl _),YB (by omega),List.append_assoc]
  ·unfold Zjz;dsimp only;rw [ZR,Cq0,List.take_of_length_le (Nat.le_refl _)];exact h3
 have h0:loop F (ZjA F ⟨w,l⟩) ([],0)=loop F (Zbt ⟨w,l⟩ (Uo (msgs w))) 0:=by
  refine Yh (fun k=>((w.qK.take k).flatten,(k:Int))) (by simp) (n:=w.qK.length) (by omega) (fun k hk next=>?_) (fun next=>?_)
  ·have hm:=Kn w.qK k;have hm2:=Kn w.qK (k + 1);rw [Zdr hk,List.length_append] at hm2;rw [Zdr hk];unfold ZjA;dsimp only;rw [ZJ hk,Cq1,YW hk];simp only [Bq0];rw [ZqM (by omega)];simp only [Bq0];rw [YB (by omega)]
  ·unfold ZjA;dsimp only;rw [ZR,Cq0,List.take_of_length_le (Nat.le_refl _)];exact h1
 rw [h0];exact h4
def ZG (w:Zb) (m:Nat):List Zr:=w.qJ.getD m []
structure Wd (w:Zb):Prop where
 shr:ShR w
 loc:∀ p,p < w.Zx.length ->(Y7 w p).length=1
 tog:∀ p,p < w.Zx.length ->0 <=inn w p ->(sp w (inn w p).toNat).machine= (sp w p).machine∧(sp w (inn w p).toNat).here= (sp w p).here∧((sp w p).here=false ->ZkI w p (inn w p))
 ent:∀ m,m < w.qQ.length ->∀ p,p < w.Zx.length ->(E w m p).here=false ->RtX w p (E w m p).ZX (E w m p).age
 hel:∀ m,m < w.qQ.length ->∀ x ∈ ZG w m,Jg w m x∧sp w x.place.toNat= ⟨(m:Int),false,x.age⟩
 mai:∀ x ∈ w.qG,x.kind=1 ->Jg w x.ZX x.ZV
 ntd:∀ x ∈ w.qG,x.kind=3 ->RtX w x.place.toNat x.at_ x.age
 msg:(msgs w).Perm (XC w.said.toNat)
theorem Zdp {w:Zb} {p k:Nat} {s:Yy}:s ∈ Xr w p k↔∃ m,m < k∧(E w m p).here=true∧s= ⟨(m:Int),true,(E w m p).age⟩:=by
 unfold Xr;rw [List.mem_filterMap]
 constructor
 ·rintro⟨m,h1,h2⟩;by_cases h:(E w m p).here=true
  ·rw [if_pos h] at h2;cases h2;exact⟨m,List.mem_range.1 h1,h,rfl⟩
  ·rw [if_neg h] at h2;cases h2
 ·rintro⟨m,h1,h2,rfl⟩;exact⟨m,List.mem_range.2 h1,if_pos h2⟩
theorem ZaG {x:Zg} {p j:Nat} {s:Yy}:s ∈ Wy x p j↔∃ i,i < j∧x.qV.getD i 0= (p:Int)∧s= ⟨x.ZX,false,x.Yc.getD i 0⟩:=by
 unfold Wy;rw [List.mem_filterMap]
 constructor
 ·rintro⟨m,h1,h2⟩;by_cases h:x.qV.getD m 0= (p:Int)
  ·rw [if_pos h] at h2;cases h2;exact⟨m,List.mem_range.1 h1,h,rfl⟩
  ·rw [if_neg h] at h2;cases h2
 ·rintro⟨m,h1,h2,rfl⟩;exact⟨m,List.mem_range.2 h1,if_pos h2⟩
theorem Zw9 {l:List Zg} {p:Nat} {s:Yy}:s ∈ Qh l p↔∃ x ∈ l,x.kind=2∧∃ i,i < x.qV.length∧x.qV.getD i 0= (p:Int)∧s= ⟨x.ZX,false,x.Yc.getD i 0⟩:=by
 unfold Qh;rw [List.mem_flatMap]
 constructor
 ·rintro⟨x,h1,h2⟩;unfold WU at h2;by_cases h:x.kind=2
  ·rw [if_pos h] at h2;exact⟨x,h1,h,ZaG.1 h2⟩
  ·rw [if_neg h] at h2;cases h2
 ·rintro⟨x,h1,h2,h3⟩;exact⟨x,h1,by unfold WU;rw [if_pos h2];exact ZaG.2 h3⟩
theorem ZHh {w:Zb} {p:Nat} (h:(Y7 w p).length=1):Y7 w p= [sp w p]:=by
 obtain⟨x,e⟩:=List.length_eq_one_iff.1 h;unfold sp Kg;rw [e];rfl
theorem Zb9 {w:Zb} {p:Nat} (h:(Y7 w p).length=1):(∃ m,m < w.qQ.length∧(E w m p).here=true∧sp w p= ⟨(m:Int),true,(E w m p).age⟩)∨(∃ x ∈ w.qG,x.kind=2∧∃ i,i < x.qV.length∧x.qV.getD i 0= (p:Int)∧sp w p= ⟨x.ZX,false,x.Yc.getD i 0⟩):=by
 have hm:sp w p ∈ Y7 w p:=by rw [ZHh h];simp
 unfold Y7 at hm;rcases List.mem_append.1 hm with q | q
 ·exact .inl (Zdp.1 q)
 ·exact .inr (Zw9.1 q)
structure WdP (w:Zb):Prop where
 Ko:Wi w
 inn:Inn w
 mov:∀ x ∈ w.qG,MvX w x
 tog:∀ p,p < w.Zx.length ->ZLk w p
 ent:∀ m,m < w.qQ.length ->∀ p,p < w.Zx.length ->Zto w m p
 msg:ZLm w
 Xm:∀ x ∈ w.qG,ZCd w x
 hel:∀ m,m < w.qQ.length ->∀ x ∈ ZG w m,Jg w m x∧sp w x.place.toNat= ⟨(m:Int),false,x.age⟩
theorem ZCB {w:Zb}:WdP w↔Wd w:=by
 constructor
 ·intro h
  have ZTV:∀ p,p < w.Zx.length ->(sp w p).age <=30:=fun p hp=>by
   rcases Zb9 (h.tog p hp).1 with⟨m,h1,h2,h3⟩ | ⟨x,h1,h2,i,h3,h4,h5⟩
   ·rw [h3];rcases h.ent m h1 p hp with⟨_,_,q⟩ | ⟨_,q,_⟩
    ·exact q
    ·rw [h2] at q;cases q
   ·rw [h5];rcases h.mov x h1 with q | q | ⟨_,_,_,q⟩
    ·omega
    ·omega
    ·exact(q i h3).2.2.2.2
  have ZTC:∀ x ∈ w.qG,ZkJ w x:=fun x hx=>by
   have hl:=h.Xm x hx;obtain⟨a1,a2,a3,a4,a5,a6⟩:=hl;rcases h.mov x hx with q | q | ⟨q,q1,q2,q3⟩
   ·obtain⟨b1,b2⟩:=a3 (by omega);obtain⟨_,c1,c2,c3⟩:=a4 q;refine⟨a1,a2,.inl ⟨q,c1,c2,c3,b1,b2⟩,fun i hi=>?_,fun z=>by omega⟩;rw [b1] at hi;simp at hi
   ·obtain⟨b1,b2⟩:=a3 (by omega);obtain⟨c1,c2,c3,c4,c5⟩:=a5 q;refine⟨a1,a2,.inr (.inr ⟨q,c5,b1,b2⟩),fun i hi=>?_,fun _=>⟨c2,c3,c1⟩⟩;rw [b1] at hi;simp at hi
   ·obtain⟨c1,c2,c3,c4⟩:=a6 (by omega) (by omega);exact⟨a1,a2,.inr (.inl ⟨q,c2,c3,c4,c1,q1,q2.symm⟩),q3,fun z=>by omega⟩
  refine⟨⟨h.Ko,h.inn,h.msg.1,h.msg.2.1,fun m hm p hp=>?_,ZTC⟩,fun p hp=>(h.tog p hp).1,fun p hp=>(h.tog p hp).2,fun m hm p hp hh=>?_,h.hel,fun x hx hk=>((h.Xm x hx).2.2.2.1 hk).1,fun x hx hk=>((h.Xm x hx).2.2.2.2.1 hk).2.2.2.1,h.msg.2.2⟩
  ·rcases h.ent m hm p hp with⟨e,q1,q2⟩ | ⟨e,q1,q2,q3⟩
   ·have e1:(E w m p).here=true:=by rw [e]
    have e2:(E w m p).ZX= (m:Int):=by rw [e]
    exact⟨q1,q2,by rw [e2];omega,by rw [e2];omega,fun _=>e2,fun _=>e1⟩
   ·have:=ZTV p hp;refine⟨q3.1,by have:=q3.2.1;omega,q3.2.2.1,q3.2.2.2.1,fun z=>?_,fun z=>absurd z q2⟩;rw [q1] at z;cases z
  ·rcases h.ent m hm p hp with⟨e,q1,q2⟩ | ⟨e,q1,q2,q3⟩
   ·have e1:(E w m p).here=true:=by rw [e]
    rw [hh] at e1;cases e1
   ·exact q3
 ·intro h;refine⟨h.shr.Ko,h.shr.inn,fun x hx=>?_,fun p hp=>⟨h.loc p hp,h.tog p hp⟩,fun m hm p hp=>?_,⟨h.shr.sd1,h.shr.sd2,h.msg⟩,fun x hx=>?_,h.hel⟩
  ·have hl:=h.shr.Xm x hx;rcases hl.Xi with⟨q,_⟩ | ⟨q,_,_,_,_,q1,q2⟩ | ⟨q,_⟩
   ·exact .inl q
   ·exact .inr (.inr ⟨q,q1,q2.symm,hl.Ui⟩)
   ·exact .inr (.inl q)
  ·obtain⟨a1,a2,a3,a4,a5⟩:=h.shr.ent m hm p hp;cases hh:(E w m p).here with
   | true=>
     have h2:=a5.1 hh;refine .inl ⟨?_,a1,a2⟩;have:E w m p= ⟨(E w m p).here,(E w m p).ZX,(E w m p).age⟩:=rfl;rw [hh,h2] at this;exact this
   | false=>
     have h2:(E w m p).ZX ≠ (m:Int):=fun q=>by have:=a5.2 q;rw [hh] at this;cases this
     refine .inr ⟨fun q=>?_,hh,h2,h.ent m hm p hp hh⟩;have:=congrArg ZA.here q;rw [hh] at this;cases this
  ·have hl:=h.shr.Xm x hx;rcases hl.Xi with⟨q,q1,q2,q3,q4,q5⟩ | ⟨q,q1,q2,q3,q4,q5,q6⟩ | ⟨q,q1,q2,q3⟩
   ·exact⟨hl.to1,hl.to2,fun _=>⟨q4,q5⟩,fun _=>⟨h.mai x hx q,q1,q2,q3⟩,fun z=>by omega,fun z=>absurd q z⟩
   ·exact⟨hl.to1,hl.to2,fun z=>absurd q z,fun z=>by omega,fun z=>by omega,fun _ _=>⟨q4,q1,q2,q3⟩⟩
   ·have:=hl.ntd q;exact⟨hl.to1,hl.to2,fun _=>⟨q2,q3⟩,fun z=>by omega,fun _=>⟨this.2.2,this.1,this.2.1,h.ntd x hx q,q1⟩,fun _ z=>absurd q z⟩
theorem Zkm {F:Nat} (hF:400000 <=F) (hM:F <=1000000) {w:Zb} (sm:UQ 400 w):∃ e,Zqk F w=some e∧((e=0∨e=2)∧(e=0↔Wd w)):=by
 have sm9:UQ 900 w:=sm.mono (by omega);have W3:=sm.qG
 suffices h:∃ e,Zqk F w=some e∧((e=0∨e=2)∧(e=0↔WdP w)) by
  obtain⟨e,h1,h2,h3⟩:=h;exact⟨e,h1,h2,h3.trans ZCB⟩
 have two:¬ WdP w ->((2:Int)=0∨(2:Int)=2)∧((2:Int)=0↔WdP w):=fun h=>⟨.inr rfl,fun q=>absurd q (by decide),fun q=>absurd q h⟩
 unfold Zqk;obtain⟨b1,e1,i1⟩:=ZrD (F:=F) (by omega) w;obtain⟨b2,e2,i2⟩:=ZrO (F:=F) (by omega) sm9;rw [e1];simp only [Bq0];cases b1 with
 | false=>
   simp only [Bool.not_false,Bool.not_true,Xx,Bq0,Bool.true_or,Cq1];exact⟨2,rfl,two fun h=>by have:=i1.2 ⟨h.Ko,h.inn⟩;cases this⟩
 | true=>
   obtain⟨s,hi⟩:=i1.1 rfl;have h8:=s.p2;have h5:=s.m2;rw [e2];simp only [Bool.not_true,Bool.not_false,Yu,Bq0,Bool.false_or];cases b2 with
   | false=>exact⟨2,rfl,two fun h=>by have:=i2.2 h.mov;cases this⟩
   | true=>
     have hmv:=i2.1 rfl;simp only [Bool.not_true,Cq0]
     have hmk:mkL (Yy.mk 0 false 0) 24 (w.Zx.length:Int) (w.Zx.length:Int)=some (List.replicate w.Zx.length ⟨0,false,0⟩):=by
      unfold mkL;rw [decide_eq_true (by omega),decide_eq_true (by omega),Nm0 (by rw [Int.toNat_natCast];omega),Int.toNat_natCast];rfl
     rw [hmk];simp only [Bq0];obtain⟨x,e3,i3,j3⟩:=ZkW (F:=F) (by omega) hM s hi sm9 (MvX.mvd sm9 hmv);rw [e3];simp only [Bq0];cases hx:x.2 with
     | false=>
       simp only [Bool.not_false,Bool.not_true,Xx,Bq0,Bool.true_or,Cq1];exact⟨2,rfl,two fun h=>by have:=i3.2 h.tog;rw [hx] at this;cases this⟩
     | true=>
       have ZTy:=i3.1 hx;have hx1:=j3 hx;rw [hx1];obtain⟨b4,e4,i4⟩:=Zob (F:=F) (by omega) s;obtain⟨b5,e5,i5⟩:=Zk1 (F:=F) (by omega) sm (spL w);rw [e4];simp only [Bool.not_true,Bool.not_false,Yu,Bq0,Bool.false_or];cases b4 with
       | false=>
         simp only [Bool.not_false,Bool.not_true,Xx,Bq0,Bool.true_or,Cq1];exact⟨2,rfl,two fun h=>by have:=i4.2 h.ent;cases this⟩
       | true=>
         have hent:=i4.1 rfl;rw [e5];simp only [Bool.not_true,Bool.not_false,Yu,Bq0,Bool.false_or];cases b5 with
         | false=>exact⟨2,rfl,two fun h=>by have:=i5.2 h.msg;cases this⟩
         | true=>
           have ZTE:=i5.1 rfl;simp only [Bool.not_true,Cq0];refine JR 2 (loop F (Zgz F w x) 0) (fun k=>(k:Int)) rfl (fun k=>∃ h:k < w.qG.length,¬ ZCd w w.qG[k]) (n:=w.qG.length) (by omega) (fun k hk=>?_) (fun next=>?_) (fun k hk hc=>?_) (fun hno=>?_)
           ·obtain⟨b,eb,ib⟩:=ZpB s (x:=w.qG[k]) ⟨Nat.le_of_lt (sm9.Xm _ (List.getElem_mem hk)).1,Nat.le_of_lt (sm9.Xm _ (List.getElem_mem hk)).2⟩
            have b0:∀ next,Zj3 F w x (k:Int) next=bif(!b) then some 2 else next ((k + 1:Nat):Int):=fun next=>by
             unfold Zj3;rw [ZJ hk,Cq1,YW hk];simp only [Bq0];rw [hx1,eb];simp only [Bq0];rw [YB (by omega)]
            by_cases hl:ZCd w w.qG[k]
            ·refine .inr ⟨fun next=>?_,fun⟨_,q⟩=>q hl⟩;rw [b0,ib.2 hl];rfl
            ·refine .inl ⟨fun next=>?_,hk,hl⟩
             have:b=false:=by cases b;· rfl
                              ·exact absurd (ib.1 rfl) hl
             rw [b0,this];rfl
           ·unfold Zj3;rw [ZR];rfl
           ·obtain⟨h,q⟩:=hc;exact two fun z=>q (z.Xm _ (List.getElem_mem h))
           have hlet:∀ x ∈ w.qG,ZCd w x:=fun y hy=>by
            obtain⟨k,hk,rfl⟩:=List.getElem_of_mem hy;exact Classical.byContradiction fun q=>hno k hk ⟨hk,q⟩
           have Z2J:w.qJ.length=w.qQ.length:=s.hd;refine JR 2 (some 0) (fun k=>(k:Int)) rfl (fun m=>¬ ∀ x ∈ ZG w m,Jg w m x∧sp w x.place.toNat= ⟨(m:Int),false,x.age⟩) (n:=w.qJ.length) (by omega) (fun m hm=>?_) (fun next=>?_) (fun k hk hc=>?_) (fun hno=>⟨0,rfl,?_⟩)
           ·have hgm:ZK w.qJ (m:Int)=some (ZG w m):=YM [] hm;have hlen:(ZG w m).length < 400:=sm.hel _ (YL hm)
            have b0:∀ next,Zgz F w x (m:Int) next=loop F (Zgy x (m:Int) next (ZG w m)) 0:=fun next=>by
             unfold Zgz;rw [ZJ hm,Cq1,hgm];rfl
            have step:∀ (next:Int ->Option Int) (j:Nat) (hj:j < (ZG w m).length),∀ nx,Zgy x (m:Int) next (ZG w m) (j:Int) nx=open Classical in if Jg w m (ZG w m)[j]∧sp w (ZG w m)[j].place.toNat= ⟨(m:Int),false,(ZG w m)[j].age⟩ then nx ((j + 1:Nat):Int) else some 2:=fun next j hj nx=>by
             obtain⟨b,eb,ib⟩:=ZlN s (m:Int) (ZG w m)[j];unfold Zgy;rw [ZJ hj,Cq1,YW hj];simp only [Bq0];rw [hx1,eb];simp only [Bq0];by_cases hml:Jg w m (ZG w m)[j]
             ·rw [ib.2 hml];simp only [Bool.not_true,Bool.not_false,Yu];obtain⟨p,hp⟩:∃ p:Nat,(ZG w m)[j].place= (p:Int):= ⟨(ZG w m)[j].place.toNat,by have:=hml.1;omega⟩
              have hpl:p < w.Zx.length:=by have:=hml.2.1;omega
              rw [hp,Ztv hpl];simp only [Bq0,Int.toNat_natCast,Bool.false_or];by_cases hs:sp w p= ⟨(m:Int),false,(ZG w m)[j].age⟩
              ·rw [if_pos ⟨hml,hs⟩,(Zke _ _).2 hs,Bool.not_true,Cq0,YB (by omega)]
              ·have:Zfo (sp w p) ⟨(m:Int),false,(ZG w m)[j].age⟩=false:=by rw [← Bool.not_eq_true,Zke];exact hs
               rw [if_neg (fun q=>hs q.2),this];rfl
             ·have:b=false:=by cases b;· rfl
                               ·exact absurd (ib.1 rfl) hml
              rw [this,if_neg (fun q=>hml q.1)];rfl
            by_cases hall:∀ x ∈ ZG w m,Jg w m x∧sp w x.place.toNat= ⟨(m:Int),false,x.age⟩
            ·refine .inr ⟨fun next=>?_,fun q=>q hall⟩;rw [b0];refine Yh (fun p=>(p:Int)) rfl (n:= (ZG w m).length) (by omega) (fun j hj nx=>?_) (fun nx=>?_)
             ·rw [step next j hj nx,if_pos (hall _ (List.getElem_mem hj))]
             ·unfold Zgy;rw [ZR,Cq0,YB (by omega)]
            ·refine .inl ⟨fun next=>?_,hall⟩
             have hz:∃ j,∃ hj:j < (ZG w m).length,¬ (Jg w m (ZG w m)[j]∧sp w (ZG w m)[j].place.toNat= ⟨(m:Int),false,(ZG w m)[j].age⟩):=Classical.byContradiction fun q=>hall fun y hy=>by
              obtain⟨j,hj,rfl⟩:=List.getElem_of_mem hy;exact Classical.byContradiction fun q2=>q ⟨j,hj,q2⟩
             obtain⟨j0,hj0⟩:=hz;obtain⟨j1,_,⟨hj1,hb1⟩,hlt⟩:=Qb (c:=fun j=>∃ hj:j < (ZG w m).length,¬ (Jg w m (ZG w m)[j]∧sp w (ZG w m)[j].place.toNat= ⟨(m:Int),false,(ZG w m)[j].age⟩)) hj0;rw [b0];refine Yh (fun p=>(p:Int)) rfl (n:=j1) (by omega) (fun j hj nx=>?_) (fun nx=>?_)
             ·rw [step next j (by omega) nx,if_pos (Classical.byContradiction fun q=>hlt j hj ⟨by omega,q⟩)]
             ·rw [step next j1 hj1 nx,if_neg hb1]
           ·unfold Zgz;rw [ZR];rfl
           ·exact two fun z=>hc (z.hel k (by omega))
           ·exact⟨.inl rfl,fun _=>⟨s,hi,hmv,ZTy,hent,ZTE,hlet,fun m hm=>Classical.byContradiction (hno m (by omega))⟩,fun _=>rfl⟩
def U4 (w:Zb) (p:Nat):XO:=UW (QV w p)
theorem Zg6 {w:Zb} (h:∀ x ∈ w.qG,x.kind=2∨x.qV= []) (p:Nat):toS (U4 w p)=sp w p:=ZDb h p
theorem Zf4 {w:Zb} (s:Wi w) (h2:∀ x ∈ w.qG,x.kind=2∨x.qV= []) {p:Nat} (hp:p < w.Zx.length) (m a:Int):ZnK w (p:Int) (U4 w p) m a=some (decide (RtX w p m a)):=by
 have e1:(U4 w p).age= (sp w p).age:=by rw [← Zg6 h2];rfl
 have e2:(U4 w p).at_= (sp w p).machine:=by rw [← Zg6 h2];rfl
 unfold ZnK;rw [e1,e2];by_cases h1:0 <=a∧a <= (sp w p).age∧0 <=m∧m < (w.qQ.length:Int)
 ·obtain⟨a1,a2,a3,a4⟩:=h1;rw [decide_eq_false (show ¬ m < 0 by omega),decide_eq_false (show ¬ m >= (w.qQ.length:Int) by omega),decide_eq_false (show ¬ a < 0 by omega),decide_eq_false (show ¬ a > (sp w p).age by omega)];simp only [Bool.or_self,Cq0];by_cases h3:a= (sp w p).age
  ·rw [Z8,decide_eq_true h3,Cq1,Z8];congr 1;by_cases h4:m= (sp w p).machine
   ·rw [decide_eq_true h4.symm,decide_eq_true (show RtX w p m a from⟨a1,a2,a3,a4,fun _=>h4,fun q=>absurd h3 q⟩)]
   ·rw [decide_eq_false (fun q=>h4 q.symm),decide_eq_false (fun q:RtX w p m a=>h4 (q.2.2.2.2.1 h3))]
  ·obtain⟨k,rfl⟩:∃ k:Nat,m= (k:Int):= ⟨m.toNat,by omega⟩
   rw [Z8,decide_eq_false h3,Cq0,s.row (by omega)];simp only [Bq0];rw [s.ent (by omega) hp];simp only [Bq0];congr 1;by_cases h4:(E w k p).age > a
   ·rw [decide_eq_true h4,decide_eq_true (show RtX w p (k:Int) a from⟨a1,a2,a3,a4,fun q=>absurd q h3,fun _=>h4⟩)]
   ·rw [decide_eq_false h4,decide_eq_false (fun q:RtX w p (k:Int) a=>h4 (q.2.2.2.2.2 h3))]
 ·have:(decide (m < 0) || decide (m >= (w.qQ.length:Int)) || decide (a < 0) || decide (a > (sp w p).age))=true:=by
   rw [← Bool.not_eq_false];intro z;simp only [Bool.or_eq_false_iff,decide_eq_false_iff_not] at z;exact h1 ⟨by omega,by omega,by omega,by omega⟩
  rw [this,decide_eq_false (fun q:RtX w p m a=>h1 ⟨q.1,q.2.1,q.2.2.1,q.2.2.2.1⟩)];rfl
def Zbd (w:Zb):List XO:= (List.range w.Zx.length).map (U4 w)
theorem Zca {w:Zb} {p:Nat} (hp:p < w.Zx.length):ZK (Zbd w) (p:Int)=some (U4 w p):=by
 rw [YM default (by simp [Zbd];exact hp)];simp [Zbd,hp]
theorem Zbb {a:Int} (h1:0 <=a) (h2:a <=30):Y2 (a + 1)=a + 1:=WV (by omega) (by omega)
def UL (w:Zb) (m:Int) (y:Zr) (waits:Bool):Prop:=0 <=y.place∧y.place < (w.Zx.length:Int)∧0 <=y.from_∧y.from_ < (w.qQ.length:Int)∧0 <=y.age∧y.age <=30∧1 <=y.hops∧y.hops <=y.age + 1∧
 (waits=true ->sp w y.place.toNat= ⟨m,false,y.age⟩)∧(waits=false ->RtX w y.place.toNat m y.age)
theorem Zpx {w:Zb} (s:Wi w) (h2:∀ x ∈ w.qG,x.kind=2∨x.qV= []) (m:Int) (y:Zr) (wt:Bool):∃ b,Zqj w (Zbd w) y m wt=some b∧(b=true↔UL w m y wt):=by
 unfold Zqj;refine Jc (fun hc=>⟨false,rfl,?_⟩) (fun hc=>?_)
 ·simp only [Bool.false_eq_true,false_iff];rintro⟨a1,a2,a3,a4,a5,a6,a7,a8,_⟩;rw [Zbb a5 a6] at hc;simp only [Bool.or_eq_true,decide_eq_true_eq] at hc;omega
 ·simp only [Bool.or_eq_false_iff,decide_eq_false_iff_not] at hc;obtain⟨⟨⟨⟨⟨⟨⟨a1,a2⟩,a3⟩,a4⟩,a5⟩,a6⟩,a7⟩,a8⟩:=hc;rw [Zbb (by omega) (by omega)] at a8;obtain⟨p,hp⟩:∃ p:Nat,y.place= (p:Int):= ⟨y.place.toNat,by omega⟩
  have hpl:p < w.Zx.length:=by omega
  rw [hp,Zca hpl];simp only [Bq0];have es:=Zg6 h2 p;refine Jc (fun hw=>⟨_,rfl,?_⟩) (fun hw=>?_)
  ·simp only [Ba0,Bool.not_eq_true',beq_iff_eq];unfold UL;rw [hp,Int.toNat_natCast,← es];unfold toS;rw [Yy.mk.injEq]
   constructor
   ·rintro⟨⟨b1,b2⟩,b3⟩;exact⟨by omega,by omega,by omega,by omega,by omega,by omega,by omega,by omega,fun _=>⟨b2,b1,b3⟩,fun q=>(by rw [hw] at q;cases q)⟩
   ·rintro⟨_,_,_,_,_,_,_,_,b,_⟩;obtain⟨b1,b2,b3⟩:=b hw;exact⟨⟨b2,b1⟩,b3⟩
  ·rw [Zf4 s h2 hpl];refine⟨_,rfl,?_⟩;rw [decide_eq_true_eq];unfold UL;rw [hp,Int.toNat_natCast]
   constructor
   ·intro h;exact⟨by omega,by omega,by omega,by omega,by omega,by omega,by omega,by omega,fun q=>(by rw [hw] at q;cases q),fun _=>h⟩
   ·rintro⟨_,_,_,_,_,_,_,_,_,b⟩;exact b hw
theorem ZlO {w:Zb} {p:Nat} (h:(QV w p).length=1):QV w p= [U4 w p]:=by
 obtain⟨x,e⟩:=List.length_eq_one_iff.1 h;unfold U4 UW;rw [e];rfl
theorem Zlw {w:Zb} {p k:Nat} {r:XO}:r ∈ KG w p k↔∃ j,j < k∧∃ s ∈ Wy (ZO w j) p (ZO w j).qV.length,r=ZoR j s:=by
 unfold KG;rw [List.mem_flatMap]
 constructor
 ·rintro⟨j,h1,h2⟩;obtain⟨s,h3,h4⟩:=List.mem_map.1 h2;exact⟨j,List.mem_range.1 h1,s,h3,h4.symm⟩
 ·rintro⟨j,h1,s,h2,h3⟩;exact⟨j,List.mem_range.2 h1,List.mem_map.2 ⟨s,h2,h3.symm⟩⟩
theorem ZfW {w:Zb} {p:Nat} (h:(QV w p).length=1):((U4 w p).is=true∧(U4 w p).letter=-1)∨((U4 w p).is=false∧∃ k,k < w.qG.length∧(U4 w p).letter= (k:Int)∧(p:Int) ∈ (ZO w k).qV):=by
 have hm:U4 w p ∈ QV w p:=by rw [ZlO h];simp
 unfold QV at hm;rcases List.mem_append.1 hm with q | q
 ·obtain⟨s,h1,h2⟩:=List.mem_map.1 q;rw [← h2];exact .inl ⟨rfl,rfl⟩
 ·obtain⟨k,h1,s,h2,h3⟩:=Zlw.1 q;obtain⟨i,h4,h5,_⟩:=ZaG.1 h2;rw [h3];exact .inr ⟨rfl,k,h1,rfl,by rw [← h5];exact YL h4⟩
theorem ZeP {w:Zb} {p:Nat} (h:(QV w p).length=1) {k:Nat} (hk:k < w.qG.length) (hp:(p:Int) ∈ (ZO w k).qV):(U4 w p).letter= (k:Int):=by
 obtain⟨i,hi,e⟩:=List.getElem_of_mem hp;have e2:(ZO w k).qV.getD i 0= (p:Int):=by rw [List.getD_eq_getElem?_getD,List.getElem?_eq_getElem hi];exact e
 have hm:ZoR k ⟨(ZO w k).ZX,false,(ZO w k).Yc.getD i 0⟩ ∈ QV w p:=by
  unfold QV;exact List.mem_append_right _ (Zlw.2 ⟨k,hk,_,ZaG.2 ⟨i,hi,e2,rfl⟩,rfl⟩)
 rw [ZlO h] at hm;rw [← List.mem_singleton.1 hm];rfl
theorem Zo9 {w:Zb} (h2:∀ x ∈ w.qG,x.kind=2∨x.qV= []) {p q:Nat} (hp:(QV w p).length=1) (hq:(QV w q).length=1) (e:(U4 w p).is= (U4 w q).is):
 (U4 w p).letter= (U4 w q).letter↔((U4 w p).is=false ->ZkI w p q):=by
 rcases ZfW hp with⟨a1,a2⟩ | ⟨a1,k,hk,a2,a3⟩
 ·rcases ZfW hq with⟨b1,b2⟩ | ⟨b1,j,hj,b2,b3⟩
  ·rw [a1,a2,b2];simp
  ·rw [a1,b1] at e;cases e
 ·rcases ZfW hq with⟨b1,b2⟩ | ⟨b1,j,hj,b2,b3⟩
  ·rw [a1,b1] at e;cases e
  ·have kd:∀ i,i < w.qG.length ->∀ x:Int,x ∈ (ZO w i).qV ->(ZO w i).kind=2:=fun i hi x hx=>by
    rcases h2 (ZO w i) (YL hi) with z | z
    ·exact z
    ·rw [z] at hx;cases hx
   constructor
   ·intro h _;rw [a2,b2] at h;have:k=j:=by omega
    subst this;exact⟨ZO w k,YL hk,kd k hk _ a3,a3,b3⟩
   ·intro h;obtain⟨x,hx,_,h3,h4⟩:=h a1;obtain⟨i,hi,rfl⟩:=List.getElem_of_mem hx;have ei:w.qG[i]=ZO w i:=by unfold ZO;rw [List.getD_eq_getElem?_getD,List.getElem?_eq_getElem hi];rfl
    rw [ei] at h3 h4;rw [ZeP hp hi h3,ZeP hq hi h4]
theorem ZmN {F:Nat} (hF:400000 <=F) {w:Zb} (sm:UQ 400 w):ZBe F w=some (msgs w):=by
 obtain⟨B1,B2,B3⟩:=BdM.of sm;have W1:=sm.qK;have W2:=sm.qJ;have W3:=sm.qG
 have h3:loop F (ZjU w) (w.qK.flatten ++ QW w.qJ,0)=some (msgs w):=by
  refine Yh (fun k=>(w.qK.flatten ++ QW w.qJ ++ Jk (w.qG.take k),(k:Int))) (by simp [Jk]) (n:=w.qG.length) (by omega) (fun k hk next=>?_) (fun next=>?_)
  ·have hm:=Zb7 w.qG k;have hll:(w.qK.flatten ++ QW w.qJ ++ Jk (w.qG.take k)).length <=320400:=by rw [List.length_append,List.length_append];omega
   rw [Zhj hk];unfold ZjU;dsimp only;rw [ZJ hk,Cq1,YW hk];simp only [Bq0];rw [Z8,ZaZ];unfold ZjT;by_cases h1:w.qG[k].kind=1
   ·rw [if_pos h1,if_pos h1,ZqM (by rw [List.length_singleton];omega)];simp only [Bq0];rw [YB (by omega),← List.append_assoc]
   ·rw [if_neg h1,if_neg h1,YB (by omega),List.append_nil]
  ·unfold ZjU;dsimp only;rw [ZR,Cq0,List.take_of_length_le (Nat.le_refl _)];rfl
 have h1:loop F (ZjV F w) (w.qK.flatten,0)=some (msgs w):=by
  refine Yh (fun k=>(w.qK.flatten ++ QW (w.qJ.take k),(k:Int))) (by simp [QW]) (n:=w.qJ.length) (by omega) (fun k hk next=>?_) (fun next=>?_)
  ·have hm:=Wj w.qJ k;have hm2:=Wj w.qJ (k + 1);have hrow:=sm.hel _ (List.getElem_mem hk);rw [Zbs hk] at hm2;rw [Zbs hk];rw [List.length_append,List.length_map] at hm2;unfold ZjV;dsimp only;rw [ZJ hk,Cq1,YW hk];simp only [Bq0];refine Yh (fun j=>(w.qK.flatten ++ QW (w.qJ.take k) ++ (w.qJ[k].take j).map (fun y=>y.msg),(j:Int))) (by simp) (n:=w.qJ[k].length) (by omega) (fun j hj nx=>?_) (fun nx=>?_)
   ·unfold ZnI;dsimp only;rw [ZJ hj,Cq1,YW hj];simp only [Bq0];rw [ZqM (by rw [List.length_append,List.length_append,List.length_map,List.length_take,List.length_singleton];omega)];simp only [Bq0];rw [YB (by omega),List.take_add_one,List.getElem?_eq_getElem hj,List.map_append];simp
   ·unfold ZnI;dsimp only;rw [ZR,Cq0,List.take_of_length_le (Nat.le_refl _),YB (by omega),List.append_assoc]
  ·unfold ZjV;dsimp only;rw [ZR,Cq0,List.take_of_length_le (Nat.le_refl _)];exact h3
 unfold ZBe;refine Yh (fun k=>((w.qK.take k).flatten,(k:Int))) (by simp) (n:=w.qK.length) (by omega) (fun k hk next=>?_) (fun next=>?_)
 ·have hm:=Kn w.qK k;have hm2:=Kn w.qK (k + 1);rw [Zdr hk,List.length_append] at hm2;rw [Zdr hk];unfold ZnJ;dsimp only;rw [ZJ hk,Cq1,YW hk];simp only [Bq0];rw [ZqM (by omega)];simp only [Bq0];rw [YB (by omega)]
 ·unfold ZnJ;dsimp only;rw [ZR,Cq0,List.take_of_length_le (Nat.le_refl _)];exact h1
def ZdL (n:Nat) (l:List Int):List Bool:= (List.range n).map fun i:Nat=>decide (((i:Nat):Int) ∈ l)
theorem Zvx {n:Nat} {l:List Int} {x:Int} (h0:0 <=x) (h1:x < (n:Int)):ZK (ZdL n l) x=some (decide (x ∈ l)):=by
 obtain⟨k,rfl⟩:∃ k:Nat,x= (k:Int):= ⟨x.toNat,by omega⟩
 rw [YM default (by simp [ZdL];omega)];simp [ZdL,show k < n by omega]
theorem Zvw {n:Nat} {l:List Int} {x:Int} (h0:0 <=x) (h1:x < (n:Int)):Yl (ZdL n l) x true=ZdL n (l ++ [x]):=by
 obtain⟨k,rfl⟩:∃ k:Nat,x= (k:Int):= ⟨x.toNat,by omega⟩
 unfold Yl ZdL;rw [Int.toNat_natCast];apply List.ext_getElem?;intro i;rw [List.getElem?_set];by_cases hi:i < n
 ·by_cases e:k=i
  ·subst e;rw [if_pos rfl];simp [hi]
  ·rw [if_neg e];have:((i:Int)= (k:Int))↔False:= ⟨fun q=>e (by omega),False.elim⟩
   simp [hi,this]
 ·by_cases e:k=i
  ·subst e;omega
  ·rw [if_neg e];simp [hi]
theorem Zd5 {α:Type} {l:List α}:l.Nodup↔∀ k (h:k < l.length),l[k] ∉ l.take k:=by
 constructor
 ·intro hn k hk hm;obtain⟨j,hj,e⟩:=List.getElem_of_mem hm;rw [List.length_take] at hj;rw [List.getElem_take] at e;have:= (List.getElem_inj hn).1 e;omega
 ·intro h;rw [List.nodup_iff_pairwise_ne] <;> skip
  rw [List.pairwise_iff_getElem];intro i j hi hj hij e;exact h j hj (by rw [← e];exact List.mem_take_iff_getElem.2 ⟨i,by omega,rfl⟩)
theorem ZiN {l:List Int} {n:Nat}:l.Perm (XC n)↔l.Nodup∧(∀ x ∈ l,0 <=x∧x < (n:Int))∧l.length=n:=by
 have hn:(XC n).Nodup:=by
  unfold XC;exact List.Pairwise.map _ (fun a b h q=>h (by have:((a:Nat):Int)= ((b:Nat):Int):=q;omega)) List.nodup_range
 constructor
 ·intro h;refine⟨h.nodup_iff.2 hn,fun x hx=>?_,by rw [h.length_eq,Jb]⟩;have:=h.mem_iff.1 hx;unfold XC at this;obtain⟨k,hk,rfl⟩:=List.mem_map.1 this;have:=List.mem_range.1 hk;exact⟨by show(0:Int) <= (k:Int);omega,by show(k:Int) < _;omega⟩
 ·rintro⟨h1,h2,h3⟩
  have hsub:l ⊆ XC n:=fun x hx=>by
   obtain⟨a,b⟩:=h2 x hx;unfold XC;exact List.mem_map.2 ⟨x.toNat,List.mem_range.2 (by omega),by show((x.toNat:Nat):Int)=x;omega⟩
  have hsub2:XC n ⊆ l:=fun x hx=>by
   apply Classical.byContradiction;intro hx2
   have:= (List.nodup_cons.2 ⟨hx2,h1⟩).length_le_of_subset (l₂:=XC n) (fun y hy=>by
    rcases List.mem_cons.1 hy with z | z
    ·rw [z];exact hx
    ·exact hsub z)
   rw [List.length_cons,Jb] at this;omega
  exact(List.perm_ext_iff_of_nodup h1 hn).2 fun a=>⟨fun h=>hsub h,fun h=>hsub2 h⟩
theorem ZxA {F:Nat} (hF:400000 <=F) {w:Zb} (h0:0 <=w.said) {l:List Int} (hl:l.length <=330000):∃ b,loop F (Zel w l) (0,List.replicate w.said.toNat false)=some b∧(b=true↔l.Perm (XC w.said.toNat)):=by
 rw [ZiN]
 refine JR false (some ((l.length:Int)==w.said)) (fun k=>((k:Int),ZdL w.said.toNat (l.take k))) (by
  simp only [List.take_zero];congr 1;unfold ZdL;apply List.ext_getElem?;intro i;by_cases hi:i < w.said.toNat <;> simp [hi]) (fun k=>∃ h:k < l.length,¬ (0 <=l[k]∧l[k] < w.said∧l[k] ∉ l.take k)) (n:=l.length) (by omega) (fun k hk=>?_) (fun next=>?_) (fun k hk hc=>?_) (fun hno=>⟨_,rfl,?_⟩)
 ·by_cases hr:0 <=l[k]∧l[k] < w.said
  ·have hr2:l[k] < (w.said.toNat:Int):=by omega
   have b0:∀ next,Zel w l ((k:Int),ZdL w.said.toNat (l.take k)) next=bif decide (l[k] ∈ l.take k) then some false else next (((k + 1:Nat):Int),ZdL w.said.toNat (l.take (k + 1))):=fun next=>by
    unfold Zel;dsimp only;rw [ZJ hk,Cq1,YW hk];simp only [Bq0];rw [decide_eq_false (show ¬ l[k] < 0 by omega),decide_eq_false (show ¬ l[k] >=w.said by omega)];simp only [Bool.or_self,Bool.not_false,Yu];rw [Zvx hr.1 hr2];simp only [Bq0,Bool.false_or];rw [Zvw hr.1 hr2,YB (by omega),List.take_add_one,List.getElem?_eq_getElem hk];rfl
   by_cases hs:l[k] ∈ l.take k
   ·refine .inl ⟨fun next=>?_,hk,fun q=>q.2.2 hs⟩;rw [b0,decide_eq_true hs];rfl
   ·refine .inr ⟨fun next=>?_,fun⟨_,q⟩=>q ⟨hr.1,hr.2,hs⟩⟩;rw [b0,decide_eq_false hs];rfl
  ·refine .inl ⟨fun next=>?_,hk,fun q=>hr ⟨q.1,q.2.1⟩⟩;unfold Zel;dsimp only;rw [ZJ hk,Cq1,YW hk];simp only [Bq0]
   have:(decide (l[k] < 0) || decide (l[k] >=w.said))=true:=by
    rw [← Bool.not_eq_false];intro z;simp only [Bool.or_eq_false_iff,decide_eq_false_iff_not] at z;exact hr ⟨by omega,by omega⟩
   rw [this];rfl
 ·unfold Zel;dsimp only;rw [ZR];rfl
 ·obtain⟨h,q⟩:=hc;simp only [Bool.false_eq_true,false_iff];rintro⟨n1,n2,_⟩;have:=n2 _ (List.getElem_mem h);exact q ⟨this.1,by omega,Zd5.1 n1 k h⟩
 ·have hall:∀ k (h:k < l.length),0 <=l[k]∧l[k] < w.said∧l[k] ∉ l.take k:=fun k h=>Classical.byContradiction fun q=>hno k h ⟨h,q⟩
  rw [beq_iff_eq]
  constructor
  ·intro h;refine⟨Zd5.2 fun k hk=>(hall k hk).2.2,fun x hx=>?_,by omega⟩;obtain⟨k,hk,rfl⟩:=List.getElem_of_mem hx;have:=hall k hk;exact⟨this.1,by omega⟩
  ·rintro⟨_,_,h⟩;omega
noncomputable def ifc {α:Sort _} (c:Prop) (a b:α):α:=@ite α c (Classical.propDecidable c) a b
theorem XD {α:Sort _} {c:Prop} (h:c) {a b:α}:ifc c a b=a:=by unfold ifc;exact if_pos h
theorem XR {α:Sort _} {c:Prop} (h:¬ c) {a b:α}:ifc c a b=b:=by unfold ifc;exact if_neg h
theorem UA {β γ:Type} {body:γ ->(γ ->Option β) ->Option β} {r1 r2:Option β} {s0:γ} (S:Nat ->γ) (h0:S 0=s0) (c:Nat ->Prop) {n F:Nat} (hF:n < F)
 (hb:∀ k,k < n ->∀ next,body (S k) next=ifc (c k) (next (S (k + 1))) r1) (he:∀ next,body (S n) next=r2):loop F body s0=ifc (∀ k,k < n ->c k) r2 r1:=by
 by_cases hall:∀ k,k < n ->c k
 ·rw [XD hall];exact Yh S h0 hF (fun k hk next=>by rw [hb k hk,XD (hall k hk)]) he
 ·rw [XR hall];have hz:∃ k,k < n∧¬ c k:=Classical.byContradiction fun q=>hall fun p hp=>Classical.byContradiction fun q2=>q ⟨p,hp,q2⟩
  obtain⟨k0,hk0⟩:=hz;obtain⟨m,_,hm,hlt⟩:=Qb (c:=fun k=>k < n∧¬ c k) hk0;exact Yh S h0 (n:=m) (by omega) (fun k hk next=>by rw [hb k (by omega),XD (Classical.byContradiction fun q=>hlt k hk ⟨by omega,q⟩)]) (fun next=>by rw [hb m hm.1,XR hm.2])
theorem ZyB {α:Type} {z:α} {c:Nat} {a:Int} (h0:0 <=a) (h:c * a.toNat <=100000):mkL z c a a=some (List.replicate a.toNat z):=by
 unfold mkL;have e:Nat.ble (c * a.toNat) 100000=true:=by rw [Nat.ble_eq];exact h
 rw [decide_eq_true h0,decide_eq_true (show a <=a by omega),e];rfl
theorem Zf8 {c:Prop} {b:Bool} (h:b=true↔c) {β:Type} (x y:β):(bif !b then x else y)=ifc c y x:=by
 cases b with
 | true=>rw [XD (h.1 rfl)];rfl
 | false=>rw [XR (fun q=>by have:=h.2 q;cases this)];rfl
def Zq2 (w:Zb) (p:Nat):Prop:=0 <=inn w p ->(U4 w p).is= (U4 w (inn w p).toNat).is∧(U4 w p).at_= (U4 w (inn w p).toNat).at_∧(U4 w p).letter= (U4 w (inn w p).toNat).letter
def ZwM (w:Zb) (m p:Nat):Prop:= (E w m p).here=false ->RtX w p (E w m p).ZX (E w m p).age
def ZqZ (w:Zb) (x:Zg):Prop:= (x.kind=1 ->UL w x.ZX x.ZV false)∧(x.kind=3 ->RtX w x.place.toNat x.at_ x.age)
section
variable {F:Nat} {w:Zb}
theorem ZxM (hF:400000 <=F) (sm:UQ 400 w) (h:ShR w):loop F (ZgB F w (Zbd w)) 0=ifc (∀ k,k < w.qG.length ->ZqZ w (ZO w k)) (some (decide ((msgs w).Perm (XC w.said.toNat)))) (some false):=by
 have W3:=sm.qG;have s:=h.Ko;refine UA (fun k=>(k:Int)) rfl (fun k=>ZqZ w (ZO w k)) (n:=w.qG.length) (by omega) (fun k hk next=>?_) (fun next=>?_)
 ·have hl:=h.Xm (ZO w k) (YL hk);unfold ZgB;rw [ZJ hk,Cq1,YM default hk];simp only [Bq0]
  change (gd ((ZO w k).kind==1) (Zqj w (Zbd w) (ZO w k).ZV (ZO w k).ZX false) default).bind (fun ZoN=>(gd ((!(((ZO w k).kind==1) && (!ZoN))) && ((ZO w k).kind==3)) (ZK (Zbd w) (ZO w k).place) default).bind fun ZoM=>(gd ((!(((ZO w k).kind==1) && (!ZoN))) && ((ZO w k).kind==3)) (ZnK w (ZO w k).place ZoM (ZO w k).at_ (ZO w k).age) default).bind fun x159=>(bif((((ZO w k).kind==1) && (!ZoN)) || (((ZO w k).kind==3) && (!x159))) then some false else next (Y2 ((k:Int) + 1))))=_
  rw [YB (by omega)];generalize ZO w k=x at hl ⊢;by_cases k1:x.kind=1
  ·obtain⟨b,e,i⟩:=Zpx s h.two x.ZX x.ZV false;have k3:(x.kind==3)=false:=by rw [beq_eq_false_iff_ne];omega
   rw [show(x.kind==1)=true from beq_iff_eq.2 k1,k3,Yu,e];simp only [Bq0,Bool.true_and,Bool.and_false,Xx,Bool.false_and,Bool.or_false];have hi:b=true↔ZqZ w x:=i.trans ⟨fun q=>⟨fun _=>q,fun q2=>by omega⟩,fun q=>q.1 k1⟩;exact Zf8 hi _ _
  ·rw [show(x.kind==1)=false from beq_eq_false_iff_ne.2 k1,Xx];simp only [Bq0,Bool.false_and,Bool.not_false,Bool.true_and,Bool.false_or];by_cases k3:x.kind=3
   ·obtain⟨n1,n2,n3⟩:=hl.ntd k3;obtain⟨p,hp⟩:∃ p:Nat,x.place= (p:Int):= ⟨x.place.toNat,by omega⟩
    have hpl:p < w.Zx.length:=by omega
    rw [show(x.kind==3)=true from beq_iff_eq.2 k3,Yu,hp,Zca hpl];simp only [Bq0,Yu];rw [Zf4 s h.two hpl];simp only [Bq0,Bool.true_and]
    have hi:decide (RtX w p x.at_ x.age)=true↔ZqZ w x:=by
     rw [decide_eq_true_eq];unfold ZqZ;rw [hp,Int.toNat_natCast];exact⟨fun q=>⟨fun q2=>absurd q2 k1,fun _=>q⟩,fun q=>q.2 k3⟩
    exact Zf8 hi _ _
   ·rw [show(x.kind==3)=false from beq_eq_false_iff_ne.2 k3,Xx];simp only [Bq0,Xx,Bool.false_and,Cq0];rw [XD (show ZqZ w x from⟨fun q=>absurd q k1,fun q=>absurd q k3⟩)]
 ·unfold ZgB;rw [ZR,Cq0,ZmN hF sm];simp only [Bq0];have h1:=h.sd1;have h2:=h.sd2;rw [ZyB h1 (by omega)];simp only [Bq0]
  have hm:(msgs w).length <=320400:=by
   obtain⟨B1,B2,B3⟩:=BdM.of sm;unfold msgs;rw [List.length_append,List.length_append];omega
  obtain⟨b,e,i⟩:=ZxA hF h.sd1 (l:=msgs w) (by omega);rw [e];congr 1;by_cases hq:(msgs w).Perm (XC w.said.toNat)
  ·rw [decide_eq_true hq];exact i.2 hq
  ·rw [decide_eq_false hq,← Bool.not_eq_true,i];exact hq
theorem ZxN (hF:400000 <=F) (sm:UQ 400 w) (h:ShR w):loop F (ZgC F w) (Zbd w,0)=ifc (∀ m,m < w.qJ.length ->∀ k,k < (ZG w m).length ->UL w (m:Int) ((ZG w m).getD k default) true) (loop F (ZgB F w (Zbd w)) 0) (some false):=by
 have W2:=sm.qJ;have s:=h.Ko;refine UA (fun m=>(Zbd w,(m:Int))) rfl (fun m=>∀ k,k < (ZG w m).length ->UL w (m:Int) ((ZG w m).getD k default) true) (n:=w.qJ.length) (by omega) (fun m hm next=>?_) (fun next=>?_)
 ·have hrow:=sm.hel (ZG w m) (YL hm);unfold ZgC;dsimp only;rw [ZJ hm,Cq1,YM [] hm];simp only [Bq0]
  change loop F (Zj5 w (m:Int) next (ZG w m)) (Zbd w,0)=_
  refine UA (fun j=>(Zbd w,(j:Int))) rfl (fun k=>UL w (m:Int) ((ZG w m).getD k default) true) (n:= (ZG w m).length) (by omega) (fun j hj nx=>?_) (fun nx=>?_)
  ·unfold Zj5;dsimp only;rw [ZJ hj,Cq1,YM default hj];simp only [Bq0];obtain⟨b,e,i⟩:=Zpx s h.two (m:Int) ((ZG w m).getD j default) true;rw [e];simp only [Bq0];rw [YB (by omega)];exact Zf8 i _ _
  ·unfold Zj5;dsimp only;rw [ZR,Cq0,YB (by omega)]
 ·unfold ZgC;dsimp only;rw [ZR,Cq0]
theorem ZCW (hF:400000 <=F) (h:ShR w):loop F (ZgD F w (Zbd w)) 0=ifc (∀ m,m < w.qQ.length ->∀ p,p < w.Zx.length ->ZwM w m p) (loop F (ZgC F w) (Zbd w,0)) (some false):=by
 have s:=h.Ko;have h5:=s.m2;have h8:=s.p2;refine UA (fun m=>(m:Int)) rfl (fun m=>∀ p,p < w.Zx.length ->ZwM w m p) (n:=w.qQ.length) (by omega) (fun m hm next=>?_) (fun next=>?_)
 ·unfold ZgD;rw [ZJ hm,Cq1,s.row hm];simp only [Bq0];refine UA (fun p=>(p:Int)) rfl (fun p=>ZwM w m p) (n:=w.Zx.length) (by omega) (fun p hp nx=>?_) (fun nx=>?_)
  ·unfold ZnX;rw [s.len hm,ZJ hp,Cq1,s.ent hm hp];simp only [Bq0];rw [YB (by omega)];cases hh:(E w m p).here with
   | true=>
     simp only [Bool.not_true,Xx,Bq0,Bool.false_and,Cq0];rw [XD (show ZwM w m p from fun q=>by rw [hh] at q;cases q)]
   | false=>
     simp only [Bool.not_false,Yu,Bool.true_and];rw [Zca hp];simp only [Bq0];rw [Zf4 s h.two hp];simp only [Bq0];exact Zf8 (show decide (RtX w p (E w m p).ZX (E w m p).age)=true↔ZwM w m p from by rw [decide_eq_true_eq];exact⟨fun q _=>q,fun q=>q hh⟩) _ _
  ·unfold ZnX;rw [s.len hm,ZR,Cq0,YB (by omega)]
 ·unfold ZgD;rw [ZR,Cq0]
theorem ZCV (hF:400000 <=F) (h:ShR w):loop F (ZgE F w (Zbd w)) 0=ifc (∀ p,p < w.Zx.length ->Zq2 w p) (loop F (ZgD F w (Zbd w)) 0) (some false):=by
 have s:=h.Ko;have h5:=s.m2;have h8:=s.p2;refine UA (fun p=>(p:Int)) rfl (fun p=>Zq2 w p) (n:=w.Zx.length) (by omega) (fun p hp next=>?_) (fun next=>?_)
 ·unfold ZgE;rw [ZJ hp,Cq1,Xe hp];simp only [Bq0];rw [YB (by omega)];by_cases hi:0 <=inn w p
  ·obtain⟨q,hq⟩:∃ q:Nat,inn w p= (q:Int):= ⟨(inn w p).toNat,by omega⟩
   have hr:= (h.inn.rng p hp).2;have hql:q < w.Zx.length:=by omega
   rw [hq,decide_eq_true (show(q:Int) >=0 by omega),Yu,Zca hp];simp only [Bq0,Yu];rw [Zca hql];simp only [Bq0,Bool.true_and]
   have t0:Zq2 w p↔((U4 w p).is= (U4 w q).is∧(U4 w p).at_= (U4 w q).at_∧(U4 w p).letter= (U4 w q).letter):=by
    unfold Zq2;rw [hq,Int.toNat_natCast];exact⟨fun z=>z (by omega),fun z _=>z⟩
   by_cases a1:(U4 w p).is= (U4 w q).is
   ·rw [a1,XZ];simp only [Bool.not_false,Yu,Bq0,Bool.false_or];by_cases a2:(U4 w p).at_= (U4 w q).at_
    ·rw [a2,XZ];simp only [Bool.not_false,Yu,Bq0,Bool.false_or];rw [Qy,ZaZ];by_cases a3:(U4 w p).letter= (U4 w q).letter
     ·rw [if_neg (fun z=>z a3),XD (t0.2 ⟨a1,a2,a3⟩)]
     ·rw [if_pos a3,XR (fun z=>a3 (t0.1 z).2.2)]
    ·rw [Qy,decide_eq_true a2];simp only [Bool.not_true,Xx,Bq0,Bool.true_or,Cq1];rw [XR (fun z=>a2 (t0.1 z).2.1)]
   ·have:((U4 w p).is != (U4 w q).is)=true:=bne_iff_ne.2 a1;rw [this];simp only [Bool.not_true,Xx,Bq0,Bool.true_or,Cq1];rw [XR (fun z=>a1 (t0.1 z).1)]
  ·rw [decide_eq_false (show ¬ inn w p >=0 by omega)];simp only [Xx,Bq0,Bool.false_and,Cq0];rw [XD (show Zq2 w p from fun q=>absurd q hi)]
 ·unfold ZgE;rw [ZR,Cq0]
def Zms (w:Zb) (k:Nat):List XO:= (List.range k).map (U4 w) ++ List.replicate (w.Zx.length - k) ⟨0,0,0,false⟩
theorem Zxn {w:Zb} {k:Nat} (h:k < w.Zx.length):Yl (Zms w k) (k:Int) (U4 w k)=Zms w (k + 1):=by
 unfold Yl Zms;rw [Int.toNat_natCast,show w.Zx.length - k= (w.Zx.length - (k + 1)) + 1 by omega,List.replicate_succ,List.set_append_right _ _ (by simp),List.range_succ,List.map_append];simp
theorem Zxo {w:Zb} {k:Nat} (h:k <=w.Zx.length):(Zms w k).length=w.Zx.length:=by simp [Zms];omega
theorem ZvB (hF:400000 <=F) (sm:UQ 400 w) (h:ShR w):loop F (Zj6 F w) (0,List.replicate w.Zx.length ⟨0,0,0,false⟩)=ifc (∀ p,p < w.Zx.length ->(QV w p).length=1) (loop F (ZgE F w (Zbd w)) 0) (some false):=by
 have s:=h.Ko;have h5:=s.m2;have h8:=s.p2;have W:=sm.qG;refine UA (fun p=>((p:Int),Zms w p)) (by simp [Zms]) (fun p=>(QV w p).length=1) (n:=w.Zx.length) (by omega) (fun p hp next=>?_) (fun next=>?_)
 ·unfold Zj6;dsimp only;rw [ZJ hp,Cq1,Zqd (by omega) s (fun x hx=>⟨(h.Xm x hx).Xi.len,by have:= (sm.Xm x hx).1;omega⟩) (by omega) hp];simp only [Bq0];rw [YM default (by rw [Zxo (by omega)];exact hp)];simp only [Bq0];rw [YB (by omega),show UW (QV w p)=U4 w p from rfl,Zxn hp];exact Zf8 decide_eq_true_iff _ _
 ·unfold Zj6;dsimp only;rw [ZR,Cq0,show Zms w w.Zx.length=Zbd w from by simp [Zms,Zbd]]
end
theorem UL.ZMF {w:Zb} (hag:∀ p,p < w.Zx.length ->(sp w p).age <=30) {m:Int} {y:Zr}:UL w m y false↔Jg w m y:=by
 unfold UL Jg
 constructor
 ·rintro⟨a1,a2,a3,a4,a5,a6,a7,a8,_,b⟩;exact⟨a1,a2,a3,a4,b rfl,a7,by rw [Int.add_comm,Zbb a5 a6];exact a8⟩
 ·rintro⟨a1,a2,a3,a4,b,a7,a8⟩;have h1:=b.1;have h2:=b.2.1;have h3:=hag y.place.toNat (by omega);rw [Int.add_comm,Zbb (by omega) (by omega)] at a8;exact⟨a1,a2,a3,a4,by omega,by omega,a7,a8,fun q=>(by cases q),fun _=>b⟩
theorem UL.ZMG {w:Zb} (hag:∀ p,p < w.Zx.length ->(sp w p).age <=30) {m:Nat} (hm:m < w.qQ.length) {y:Zr}:UL w (m:Int) y true↔Jg w (m:Int) y∧sp w y.place.toNat= ⟨(m:Int),false,y.age⟩:=by
 constructor
 ·rintro⟨a1,a2,a3,a4,a5,a6,a7,a8,b,_⟩;have e:=b rfl;refine⟨⟨a1,a2,a3,a4,⟨a5,by rw [e];exact Int.le_refl _,by omega,by omega,fun _=>by rw [e],fun q=>?_⟩,a7,by rw [Int.add_comm,Zbb a5 a6];exact a8⟩,e⟩;rw [e] at q;exact absurd rfl q
 ·rintro⟨⟨a1,a2,a3,a4,b,a7,a8⟩,e⟩;have h1:=b.1;have h2:=b.2.1;have h3:=hag y.place.toNat (by omega);rw [Int.add_comm,Zbb (by omega) (by omega)] at a8;exact⟨a1,a2,a3,a4,by omega,by omega,a7,a8,fun _=>e,fun q=>(by cases q)⟩
theorem ZfV {w:Zb} (h:ShR w) {p:Nat} (hp:p < w.Zx.length) (hl:(Y7 w p).length=1):(sp w p).age <=30:=by
 rcases Zb9 hl with⟨m,h1,h2,h3⟩ | ⟨x,h1,h2,i,h3,h4,h5⟩
 ·rw [h3];exact(h.ent m h1 p hp).2.1
 ·rw [h5];exact((h.Xm x h1).Ui i h3).2.2.2.2
theorem Zq1 {w:Zb} (h:ShR w) (hl:∀ p,p < w.Zx.length ->(QV w p).length=1) {p:Nat} (hp:p < w.Zx.length):Zq2 w p↔(0 <=inn w p ->(sp w (inn w p).toNat).machine= (sp w p).machine∧(sp w (inn w p).toNat).here= (sp w p).here∧((sp w p).here=false ->ZkI w p (inn w p))):=by
 unfold Zq2;by_cases hi:0 <=inn w p
 ·obtain⟨q,hq⟩:∃ q:Nat,inn w p= (q:Int):= ⟨(inn w p).toNat,by omega⟩
  have hr:= (h.inn.rng p hp).2;have hql:q < w.Zx.length:=by omega
  rw [hq,Int.toNat_natCast,← Zg6 h.two p,← Zg6 h.two q];unfold toS;have same:=fun e=>Zo9 h.two (hl p hp) (hl q hql) e
  constructor
  ·intro z _;obtain⟨a,b,c⟩:=z (by omega);exact⟨b.symm,a.symm,(same a).1 c⟩
  ·intro z _;obtain⟨a,b,c⟩:=z (by omega);exact⟨b.symm,a.symm,(same b.symm).2 c⟩
 ·exact⟨fun _ q=>absurd q hi,fun _ q=>absurd q hi⟩
theorem Zi1 {w:Zb} {P:Zg ->Prop}:(∀ k,k < w.qG.length ->P (ZO w k))↔∀ x ∈ w.qG,P x:=by
 constructor
 ·intro h x hx;obtain⟨i,hi,rfl⟩:=List.getElem_of_mem hx;have:=h i hi;unfold ZO at this
  rwa [List.getD_eq_getElem?_getD,List.getElem?_eq_getElem hi] at this
 ·intro h k hk;exact h _ (YL hk)
theorem KX {α:Type} {l:List α} {d:α} {P:α ->Prop}:(∀ k,k < l.length ->P (l.getD k d))↔∀ x ∈ l,P x:=by
 constructor
 ·intro h x hx;obtain⟨i,hi,rfl⟩:=List.getElem_of_mem hx;have:=h i hi
  rwa [List.getD_eq_getElem?_getD,List.getElem?_eq_getElem hi] at this
 ·intro h k hk;exact h _ (YL hk)
theorem Zlu {F:Nat} (hF:400000 <=F) {w:Zb} (sm:UQ 400 w):∃ b,ZnY F w=some b∧(b=true↔Wd w):=by
 have sm9:UQ 900 w:=sm.mono (by omega);obtain⟨b,e,i⟩:=Zvv (F:=F) (by omega) sm9;unfold ZnY;rw [e];simp only [Bq0];rw [Zf8 i];by_cases h:ShR w
 ·rw [XD h];have hz:=h.Ko.p2;rw [ZyB (by omega) (by rw [Int.toNat_natCast];omega),Int.toNat_natCast];simp only [Bq0];rw [ZvB hF sm h,ZCV hF h,ZCW hF h,ZxN hF sm h,ZxM hF sm h];by_cases h1:∀ p,p < w.Zx.length ->(QV w p).length=1
  ·have h1P:∀ p,p < w.Zx.length ->(Y7 w p).length=1:=fun p hp=>by rw [len_eq h.two];exact h1 p hp
   have hag:∀ p,p < w.Zx.length ->(sp w p).age <=30:=fun p hp=>ZfV h hp (h1P p hp)
   rw [XD h1];by_cases h2:∀ p,p < w.Zx.length ->Zq2 w p
   ·rw [XD h2];by_cases h3:∀ m,m < w.qQ.length ->∀ p,p < w.Zx.length ->ZwM w m p
    ·rw [XD h3];have hhd:=h.Ko.hd;by_cases h4:∀ m,m < w.qJ.length ->∀ k,k < (ZG w m).length ->UL w (m:Int) ((ZG w m).getD k default) true
     ·rw [XD h4];by_cases h5:∀ k,k < w.qG.length ->ZqZ w (ZO w k)
      ·rw [XD h5];refine⟨_,rfl,?_⟩;rw [decide_eq_true_eq];have h5':= (Zi1 (P:=ZqZ w)).1 h5
       constructor
       ·intro h6;exact⟨h,h1P,fun p hp=>(Zq1 h h1 hp).1 (h2 p hp),h3,fun m hm x hx=>(UL.ZMG hag hm).1 ((KX (P:=fun x=>UL w (m:Int) x true)).1 (h4 m (by omega)) x hx),fun x hx hk=>(UL.ZMF hag).1 ((h5' x hx).1 hk),fun x hx hk=>(h5' x hx).2 hk,h6⟩
       ·intro h6;exact h6.msg
      ·rw [XR h5];refine⟨_,rfl,?_⟩;simp only [Bool.false_eq_true,false_iff];intro z;exact h5 (Zi1.2 fun x hx=>⟨fun q=>(UL.ZMF hag).2 (z.mai x hx q),fun q=>z.ntd x hx q⟩)
     ·rw [XR h4];refine⟨_,rfl,?_⟩;simp only [Bool.false_eq_true,false_iff];intro z;exact h4 fun m hm=>(KX (P:=fun x=>UL w (m:Int) x true)).2 fun x hx=>(UL.ZMG hag (by omega)).2 (z.hel m (by omega) x hx)
    ·rw [XR h3];refine⟨_,rfl,?_⟩;simp only [Bool.false_eq_true,false_iff];intro z;exact h3 z.ent
   ·rw [XR h2];refine⟨_,rfl,?_⟩;simp only [Bool.false_eq_true,false_iff];intro z;exact h2 fun p hp=>(Zq1 h h1 hp).2 (z.tog p hp)
  ·rw [XR h1];refine⟨_,rfl,?_⟩;simp only [Bool.false_eq_true,false_iff];intro z;exact h1 fun p hp=>by rw [← len_eq h.two];exact z.loc p hp
 ·rw [XR h];refine⟨_,rfl,?_⟩;simp only [Bool.false_eq_true,false_iff];intro z;exact h z.shr
end Go.Proofs.YtbmbbcaaimehkaaGreat
end
section
namespace Go.Proofs.YtbmbbcaaimehkaaGreat
open Go.Lf
theorem Zxv {F:Nat} (hF:400000 <=F) (w:Zb):∃ b,ZBm F w=some b∧(b=true ->UQ 201 w):=by
 unfold ZBm;refine Jc (fun _=>⟨false,rfl,fun q=>by cases q⟩) (fun hc=>?_);simp only [Bool.or_eq_false_iff,decide_eq_false_iff_not] at hc;obtain⟨⟨⟨⟨c1,c2⟩,c3⟩,c4⟩,c5⟩:=hc
 have e3:loop F (ZgF w) 0=ifc (∀ k,k < w.qG.length ->(ZO w k).qV.length <=20∧(ZO w k).Yc.length <=20) (some true) (some false):=by
  refine UA (fun k=>(k:Int)) rfl (fun k=>(ZO w k).qV.length <=20∧(ZO w k).Yc.length <=20) (n:=w.qG.length) (by omega) (fun k hk next=>?_) (fun next=>?_)
  ·unfold ZgF;rw [ZJ hk,Cq1,YM default hk];simp only [Bq0];rw [YB (by omega),show w.qG.getD k default=ZO w k from rfl];by_cases h:(ZO w k).qV.length <=20∧(ZO w k).Yc.length <=20
   ·rw [XD h,decide_eq_false (by omega),decide_eq_false (by omega)];rfl
   ·rw [XR h]
    have:(decide (((ZO w k).qV.length:Int) > 20) || decide (((ZO w k).Yc.length:Int) > 20))=true:=by
     rw [← Bool.not_eq_false];intro z;simp only [Bool.or_eq_false_iff,decide_eq_false_iff_not] at z;exact h ⟨by omega,by omega⟩
    rw [this];rfl
  ·unfold ZgF;rw [ZR];rfl
 have e2:loop F (ZgG F w) 0=ifc (∀ k,k < w.qJ.length ->(w.qJ.getD k []).length <=100) (loop F (ZgF w) 0) (some false):=by
  refine UA (fun k=>(k:Int)) rfl (fun k=>(w.qJ.getD k []).length <=100) (n:=w.qJ.length) (by omega) (fun k hk next=>?_) (fun next=>?_)
  ·unfold ZgG;rw [ZJ hk,Cq1,YM [] hk];simp only [Bq0];rw [YB (by omega)];by_cases h:(w.qJ.getD k []).length <=100
   ·rw [XD h,decide_eq_false (by omega)];rfl
   ·rw [XR h,decide_eq_true (by omega)];rfl
  ·unfold ZgG;rw [ZR];rfl
 have e1:loop F (ZgH F w) 0=ifc (∀ k,k < w.qQ.length ->(w.qQ.getD k []).length <=20) (loop F (ZgG F w) 0) (some false):=by
  refine UA (fun k=>(k:Int)) rfl (fun k=>(w.qQ.getD k []).length <=20) (n:=w.qQ.length) (by omega) (fun k hk next=>?_) (fun next=>?_)
  ·unfold ZgH;rw [ZJ hk,Cq1,YM [] hk];simp only [Bq0];rw [YB (by omega)];by_cases h:(w.qQ.getD k []).length <=20
   ·rw [XD h,decide_eq_false (by omega)];rfl
   ·rw [XR h,decide_eq_true (by omega)];rfl
  ·unfold ZgH;rw [ZR];rfl
 have e0:loop F (Zj7 F w) 0=ifc (∀ k,k < w.qK.length ->(w.qK.getD k []).length <=100) (loop F (ZgH F w) 0) (some false):=by
  refine UA (fun k=>(k:Int)) rfl (fun k=>(w.qK.getD k []).length <=100) (n:=w.qK.length) (by omega) (fun k hk next=>?_) (fun next=>?_)
  ·unfold Zj7;rw [ZJ hk,Cq1,YM [] hk];simp only [Bq0];rw [YB (by omega)];by_cases h:(w.qK.getD k []).length <=100
   ·rw [XD h,decide_eq_false (by omega)];rfl
   ·rw [XR h,decide_eq_true (by omega)];rfl
  ·unfold Zj7;rw [ZR];rfl
 rw [e0];by_cases h0:∀ k,k < w.qK.length ->(w.qK.getD k []).length <=100
 ·rw [XD h0,e1];by_cases h1:∀ k,k < w.qQ.length ->(w.qQ.getD k []).length <=20
  ·rw [XD h1,e2];by_cases h2:∀ k,k < w.qJ.length ->(w.qJ.getD k []).length <=100
   ·rw [XD h2,e3];by_cases h3:∀ k,k < w.qG.length ->(ZO w k).qV.length <=20∧(ZO w k).Yc.length <=20
    ·rw [XD h3];refine⟨true,rfl,fun _=>⟨by omega,by omega,by omega,by omega,by omega,fun l hl=>?_,fun l hl=>?_,fun l hl=>?_,fun l hl=>?_⟩⟩
     ·have:= (KX (P:=fun l:List Int=>l.length <=100)).1 h0 l hl;omega
     ·have:= (KX (P:=fun l:List ZA=>l.length <=20)).1 h1 l hl;omega
     ·have:= (KX (P:=fun l:List Zr=>l.length <=100)).1 h2 l hl;omega
     ·have:= (Zi1 (P:=fun x=>x.qV.length <=20∧x.Yc.length <=20)).1 h3 l hl;omega
    ·rw [XR h3];exact⟨false,rfl,fun q=>by cases q⟩
   ·rw [XR h2];exact⟨false,rfl,fun q=>by cases q⟩
  ·rw [XR h1];exact⟨false,rfl,fun q=>by cases q⟩
 ·rw [XR h0];exact⟨false,rfl,fun q=>by cases q⟩
def nx (w:Zb) (p m:Nat):Nat:= (E w m p).ZX.toNat
def tr (w:Zb) (p m:Nat):Nat ->Nat
 | 0=>m
 | i + 1=>nx w p (tr w p m i)
section
variable {F:Nat} {w:Zb}
theorem Wd.mvd (h:Wd w) (sm:UQ 900 w):Mvd 900 w.qG:=fun x hx hk=>by
 have h1:= (h.shr.Xm x hx).Xi.len;have h2:=sm.Xm x hx
 first
  | exact⟨h1,by omega⟩
  | exact⟨by omega,h1⟩
theorem ZaF (hF:1000 <=F) (hM:F <=1000000) (h:Wd w) (sm:UQ 900 w) {p:Nat} (hp:p < w.Zx.length):Zef F w (p:Int)=some (sp w p,1):=by
 rw [Ziu hF hM h.shr.Ko (h.mvd sm) sm.qG hp,h.loc p hp];rfl
theorem Zds (hF:1000 <=F) (h:Wd w) (sm:UQ 900 w) {p:Nat} (hp:p < w.Zx.length):Zgu F w (p:Int)=some (U4 w p,true):=by
 rw [Zqd hF h.shr.Ko (fun x hx=>⟨(h.shr.Xm x hx).Xi.len,by have:= (sm.Xm x hx).1;omega⟩) sm.qG hp,← len_eq h.shr.two,h.loc p hp];rfl
end
end Go.Proofs.YtbmbbcaaimehkaaGreat
end
section
namespace Go.Proofs.YtbmbbcaaimehkaaGreat
open Go.Lf
section
variable {F:Nat} {w:Zb}
theorem ZBw (hF:400000 <=F) (hM:F <=1000000) (sm:UQ 400 w) (h:¬ Wd w):Zqk F w=some 2:=by
 obtain⟨e,h1,h2,h3⟩:=Zkm hF hM sm;rw [h1];rcases h2 with q | q
 ·exact absurd (h3.1 q) h
 ·rw [q]
theorem ZqA (hF:400000 <=F) (hM:F <=1000000) (sm:UQ 400 w) (h:Wd w):Zqk F w=some 0:=by
 obtain⟨e,h1,h2,h3⟩:=Zkm hF hM sm;rw [h1,h3.2 h]
theorem Zw6 (hF:400000 <=F) (sm:UQ 400 w) (h:¬ Wd w):ZnY F w=some false:=by
 obtain⟨b,h1,h2⟩:=Zlu hF sm;rw [h1];cases b with
 | false=>rfl
 | true=>exact absurd (h2.1 rfl) h
theorem Zit (hF:400000 <=F) (sm:UQ 400 w) (h:Wd w):ZnY F w=some true:=by
 obtain⟨b,h1,h2⟩:=Zlu hF sm;rw [h1,h2.2 h]
end
end Go.Proofs.YtbmbbcaaimehkaaGreat
end
section
namespace Go.Proofs.YtbmbbcaaimehkaaGreat
open Go.Lf
theorem app0 {α:Type} {b:Nat} {l:List α} (h:l.length <=900000) (hb:b <=1000):app b [] l=some l:=by
 rw [Zkw (by simp;omega) hb];rfl
theorem ZgR {α β:Type} {F b:Nat} {l:List (List α)} {g:List α ->Option (List α)} {body:List (List α)×Int ->(List (List α)×Int ->Option β) ->Option β} {r:Option β} {s:List (List α)×Int} (hs:s= ([],0)) (hF:l.length < F) (hl:l.length <=900)
 (hb:∀ k (h:k < l.length) next,body (l.take k,(k:Int)) next=next (l.take (k + 1),((k + 1:Nat):Int))) (he:∀ next,body (l,(l.length:Int)) next=r):loop F body s=r:=by
 subst hs;exact Yh (fun k=>(l.take k,(k:Int))) (by simp) hF hb (fun next=>by rw [List.take_of_length_le (Nat.le_refl _)];exact he next)
theorem WA {α:Type} {l:List α} {k b:Nat} (h:k < l.length) (hl:l.length <=900) (hb:b <=1000):app b (l.take k) [l[k]]=some (l.take (k + 1)):=by
 rw [app1 (by rw [List.length_take];omega) hb,List.take_add_one,List.getElem?_eq_getElem h];rfl
theorem Zwo {F:Nat} (hF:1000 <=F) {l:List (List Int)} (hl:l.length < 900) (hr:∀ x ∈ l,x.length < 900):ZA4 F l=some l:=by
 unfold ZA4;refine ZgR (b:=8) (g:=fun _=>none) (l:=l) rfl (by omega) (by omega) (fun k h next=>?_) (fun next=>?_)
 ·have:=hr _ (List.getElem_mem h);unfold Zny;dsimp only;rw [ZJ h,Cq1,YW h];simp only [Bq0];unfold ZnA;rw [app0 (by omega) (by omega)];simp only [Bq0];rw [WA h (by omega) (by omega)];simp only [Bq0];rw [YB (by omega)]
 ·unfold Zny;dsimp only;rw [ZR];rfl
theorem Zog {F:Nat} (hF:1000 <=F) {l:List (List ZA)} (hl:l.length < 900) (hr:∀ x ∈ l,x.length < 900):ZA3 F l=some l:=by
 unfold ZA3;refine ZgR (b:=8) (g:=fun _=>none) (l:=l) rfl (by omega) (by omega) (fun k h next=>?_) (fun next=>?_)
 ·have:=hr _ (List.getElem_mem h);unfold Znx;dsimp only;rw [ZJ h,Cq1,YW h];simp only [Bq0];unfold ZuL;rw [app0 (by omega) (by omega)];simp only [Bq0];rw [WA h (by omega) (by omega)];simp only [Bq0];rw [YB (by omega)]
 ·unfold Znx;dsimp only;rw [ZR];rfl
theorem ZsS {F:Nat} (hF:1000 <=F) {l:List (List Zr)} (hl:l.length < 900) (hr:∀ x ∈ l,x.length < 900):ZA2 F l=some l:=by
 unfold ZA2;refine ZgR (b:=8) (g:=fun _=>none) (l:=l) rfl (by omega) (by omega) (fun k h next=>?_) (fun next=>?_)
 ·have:=hr _ (List.getElem_mem h);unfold Znw;dsimp only;rw [ZJ h,Cq1,YW h];simp only [Bq0];unfold ZuK;rw [app0 (by omega) (by omega)];simp only [Bq0];rw [WA h (by omega) (by omega)];simp only [Bq0];rw [YB (by omega)]
 ·unfold Znw;dsimp only;rw [ZR];rfl
theorem Zwn {F:Nat} (hF:1000 <=F) {w:Zb} (sm:UQ 900 w):ZBi F w=some w:=by
 have h1:=sm.Zx;have h2:=sm.qG;unfold ZBi ZnA;rw [app0 (by omega) (by omega)];simp only [Bq0];rw [Zwo hF sm.qK sm.box,Zog hF sm.qQ sm.row,ZsS hF sm.qJ sm.hel];simp only [Bq0];refine Yh (fun k=>((k:Int),w.qG.take k)) (by simp) (n:=w.qG.length) (by omega) (fun k h next=>?_) (fun next=>?_)
 ·have:=sm.Xm _ (List.getElem_mem h);unfold ZnN;dsimp only;rw [ZJ h,Cq1,YW h];simp only [Bq0];unfold ZnA;rw [app0 (by omega) (by omega),app0 (by omega) (by omega)];simp only [Bq0];rw [show Zg.mk w.qG[k].kind w.qG[k].ZX w.qG[k].ZV w.qG[k].qV w.qG[k].Yc w.qG[k].place w.qG[k].at_ w.qG[k].age=w.qG[k] from rfl,WA h (by omega) (by omega)];simp only [Bq0];rw [YB (by omega)]
 ·unfold ZnN;dsimp only;rw [ZR,Cq0,List.take_of_length_le (Nat.le_refl _)]
theorem ZBt {F:Nat} (hF:1000 <=F) {w:Zb} (sm:UQ 900 w):ZBb F w=some w:=by
 have h1:=sm.Zx;have h2:=sm.qG;have h3:=sm.qK;have h4:=sm.qQ;have h5:=sm.qJ
 have e3:loop F (ZjP w w.Zx w.qK w.qQ w.qJ) (0,[])=some w:=by
  refine Yh (fun k=>((k:Int),w.qG.take k)) (by simp) (n:=w.qG.length) (by omega) (fun k h next=>?_) (fun next=>?_)
  ·have:=sm.Xm _ (List.getElem_mem h);unfold ZjP;dsimp only;rw [ZJ h,Cq1,YW h];simp only [Bq0];rw [app0 (by omega) (by omega),app0 (by omega) (by omega)];simp only [Bq0];rw [show Zg.mk w.qG[k].kind w.qG[k].ZX w.qG[k].ZV w.qG[k].qV w.qG[k].Yc w.qG[k].place w.qG[k].at_ w.qG[k].age=w.qG[k] from rfl,WA h (by omega) (by omega)];simp only [Bq0];rw [YB (by omega)]
  ·unfold ZjP;dsimp only;rw [ZR,Cq0,List.take_of_length_le (Nat.le_refl _)]
 have e2:loop F (ZjQ F w w.Zx w.qK w.qQ) (0,[])=some w:=by
  refine Yh (fun k=>((k:Int),w.qJ.take k)) (by simp) (n:=w.qJ.length) (by omega) (fun k h next=>?_) (fun next=>?_)
  ·have:=sm.hel _ (List.getElem_mem h);unfold ZjQ;dsimp only;rw [ZJ h,Cq1,YW h];simp only [Bq0];rw [app0 (by omega) (by omega)];simp only [Bq0];rw [WA h (by omega) (by omega)];simp only [Bq0];rw [YB (by omega)]
  ·unfold ZjQ;dsimp only;rw [ZR,Cq0,List.take_of_length_le (Nat.le_refl _)];exact e3
 have e1:loop F (ZjR F w w.Zx w.qK) (0,[])=some w:=by
  refine Yh (fun k=>((k:Int),w.qQ.take k)) (by simp) (n:=w.qQ.length) (by omega) (fun k h next=>?_) (fun next=>?_)
  ·have:=sm.row _ (List.getElem_mem h);unfold ZjR;dsimp only;rw [ZJ h,Cq1,YW h];simp only [Bq0];rw [app0 (by omega) (by omega)];simp only [Bq0];rw [WA h (by omega) (by omega)];simp only [Bq0];rw [YB (by omega)]
  ·unfold ZjR;dsimp only;rw [ZR,Cq0,List.take_of_length_le (Nat.le_refl _)];exact e2
 unfold ZBb;rw [app0 (by omega) (by omega)];simp only [Bq0];refine Yh (fun k=>((k:Int),w.qK.take k)) (by simp) (n:=w.qK.length) (by omega) (fun k h next=>?_) (fun next=>?_)
 ·have:=sm.box _ (List.getElem_mem h);unfold ZnH;dsimp only;rw [ZJ h,Cq1,YW h];simp only [Bq0];rw [app0 (by omega) (by omega)];simp only [Bq0];rw [WA h (by omega) (by omega)];simp only [Bq0];rw [YB (by omega)]
 ·unfold ZnH;dsimp only;rw [ZR,Cq0,List.take_of_length_le (Nat.le_refl _)];exact e1
def J7 (p:Int) (n:Nat):Prop:=0 <=p∧p < (n:Int)
instance (p:Int) (n:Nat):Decidable (J7 p n):=by unfold J7;infer_instance
def Ask (w:Zb) (s:ZH):Prop:=
 (s.act=1∧J7 s.a w.qQ.length∧J7 s.b w.Zx.length)∨(s.act=2∧J7 s.a w.Zx.length∧J7 s.b w.qQ.length)∨(s.act=3∧J7 s.a w.Zx.length∧J7 s.b w.Zx.length)∨(s.act=4∧J7 s.a w.Zx.length)∨(s.act=5∧J7 s.a w.qG.length)
instance (w:Zb) (s:ZH):Decidable (Ask w s):=by unfold Ask;infer_instance
theorem ZmP (p:Int) (n:Nat):(decide (p >=0) && decide (p < (n:Int)))=decide (J7 p n):=by
 by_cases h:J7 p n
 ·rw [decide_eq_true h,decide_eq_true h.1,decide_eq_true h.2];rfl
 ·rw [decide_eq_false h,← Bool.not_eq_true];intro z;simp only [Ba0,decide_eq_true_eq] at z;exact h ⟨z.1,z.2⟩
theorem ZC4 (p:Int) (n:Nat):ZhO p (n:Int)=some (decide (J7 p n)):=by unfold ZhO;rw [ZmP]
theorem Zu2 (w:Zb) (s:ZH):Zwf w s=some (decide (Ask w s)):=by
 have e:∀ k:Int,(s.act==k)=decide (s.act=k):=fun k=>Z8 _ _
 unfold Zwf;simp only [ZC4,Bq0,ZmP];by_cases h1:s.act=1
 ·rw [e,decide_eq_true h1,Cq1];by_cases a:J7 s.a w.qQ.length
  ·by_cases b:J7 s.b w.Zx.length
   ·simp [Ask,h1,a,b,gd]
   ·simp [Ask,h1,a,b,gd]
  ·simp [Ask,h1,a,gd]
 rw [e 1,decide_eq_false h1,Cq0];by_cases h2:s.act=2
 ·rw [e,decide_eq_true h2,Cq1];by_cases a:J7 s.a w.Zx.length
  ·by_cases b:J7 s.b w.qQ.length
   ·simp [Ask,h2,a,b,gd]
   ·simp [Ask,h2,a,b,gd]
  ·simp [Ask,h2,a,gd]
 rw [e 2,decide_eq_false h2,Cq0];by_cases h3:s.act=3
 ·rw [e,decide_eq_true h3,Cq1];by_cases a:J7 s.a w.Zx.length
  ·by_cases b:J7 s.b w.Zx.length
   ·simp [Ask,h3,a,b,gd]
   ·simp [Ask,h3,a,b,gd]
  ·simp [Ask,h3,a,gd]
 rw [e 3,decide_eq_false h3,Cq0];by_cases h4:s.act=4
 ·rw [e,decide_eq_true h4,Cq1];by_cases a:J7 s.a w.Zx.length
  ·simp [Ask,h4,a]
  ·simp [Ask,h4,a]
 rw [e 4,decide_eq_false h4,Cq0];by_cases h5:s.act=5
 ·rw [e,decide_eq_true h5,Cq1];by_cases a:J7 s.a w.qG.length
  ·simp [Ask,h5,a]
  ·simp [Ask,h5,a]
 rw [e 5,decide_eq_false h5,Cq0];simp [Ask,h1,h2,h3,h4,h5]
theorem ZqJ (w:Zb) (s:ZH):Zwd w s=some (decide (Ask w s)):=by
 have e:∀ k:Int,(s.act==k)=decide (s.act=k):=fun k=>Z8 _ _
 unfold Zwd ZnS Zj2;simp only [ZmP];by_cases h1:s.act=1
 ·rw [e,decide_eq_true h1,Cq1];by_cases a:J7 s.a w.qQ.length
  ·by_cases b:J7 s.b w.Zx.length
   ·simp [Ask,h1,a,b]
   ·simp [Ask,h1,a,b]
  ·simp [Ask,h1,a]
 rw [e 1,decide_eq_false h1,Cq0];by_cases h2:s.act=2
 ·rw [e,decide_eq_true h2,Cq1];by_cases a:J7 s.a w.Zx.length
  ·by_cases b:J7 s.b w.qQ.length
   ·simp [Ask,h2,a,b]
   ·simp [Ask,h2,a,b]
  ·simp [Ask,h2,a]
 rw [e 2,decide_eq_false h2,Cq0];by_cases h3:s.act=3
 ·rw [e,decide_eq_true h3,Cq1];by_cases a:J7 s.a w.Zx.length
  ·by_cases b:J7 s.b w.Zx.length
   ·simp [Ask,h3,a,b]
   ·simp [Ask,h3,a,b]
  ·by_cases b:J7 s.b w.Zx.length
   ·simp [Ask,h3,a,b]
   ·simp [Ask,h3,a,b]
 rw [e 3,decide_eq_false h3,Cq0];by_cases h4:s.act=4
 ·rw [e,decide_eq_true h4,Cq1];by_cases a:J7 s.a w.Zx.length
  ·simp [Ask,h4,a]
  ·simp [Ask,h4,a]
 rw [e 4,decide_eq_false h4,Cq0];by_cases h5:s.act=5
 ·rw [e,decide_eq_true h5,Cq1];by_cases a:J7 s.a w.qG.length
  ·simp [Ask,h5,a]
  ·simp [Ask,h5,a]
 rw [e 5,decide_eq_false h5,Cq0];simp [Ask,h1,h2,h3,h4,h5]
def Wth (w:Zb) (p x:Nat):Prop:=∃ j,up w j (x:Int)= (p:Int)
theorem Wth.bound {w:Zb} (hi:Inn w) {p x:Nat} (hx:x < w.Zx.length) (h:Wth w p x):∃ j,j < w.Zx.length∧up w j (x:Int)= (p:Int):=by
 obtain⟨j,e⟩:=h;refine⟨j,Classical.byContradiction fun q=>?_,e⟩;have:=J3 (hi.acy x hx) (show w.Zx.length <=j by omega);omega
def Zve (w:Zb) (p x:Nat):Bool:= (List.range w.Zx.length).any fun j=>up w j (x:Int)== (p:Int)
theorem ZaC {w:Zb} (hi:Inn w) {p x:Nat} (hx:x < w.Zx.length):Zve w p x=true↔Wth w p x:=by
 unfold Zve;rw [List.any_eq_true]
 constructor
 ·rintro⟨j,_,e⟩;exact⟨j,beq_iff_eq.1 e⟩
 ·intro h;obtain⟨j,hj,e⟩:=h.bound hi hx;exact⟨j,List.mem_range.2 hj,beq_iff_eq.2 e⟩
def ZaE (w:Zb) (p k:Nat):List Int:= ((List.range k).filter (Zve w p)).map Int.ofNat
def Yf (w:Zb) (p:Nat):List Int:=ZaE w p w.Zx.length
theorem Zrn (w:Zb) (p k:Nat):ZaE w p (k + 1)=ZaE w p k ++ (if Zve w p k then [(k:Int)] else []):=by
 unfold ZaE;rw [List.range_succ,List.filter_append,List.map_append];congr 1;by_cases h:Zve w p k=true
 ·rw [if_pos h,List.filter_cons,if_pos h];rfl
 ·rw [if_neg h,List.filter_cons,if_neg h];rfl
theorem U3 (w:Zb) (p k:Nat):(ZaE w p k).length <=k:=by
 unfold ZaE;rw [List.length_map];have:=List.length_filter_le (Zve w p) (List.range k)
 rwa [List.length_range] at this
theorem ZfP {w:Zb} (hi:Inn w) {p:Nat} {y:Int}:y ∈ Yf w p↔∃ x:Nat,y= (x:Int)∧x < w.Zx.length∧Wth w p x:=by
 unfold Yf ZaE;rw [List.mem_map]
 constructor
 ·rintro⟨x,h1,rfl⟩;obtain⟨h2,h3⟩:=List.mem_filter.1 h1;have:=List.mem_range.1 h2;exact⟨x,rfl,this,(ZaC hi this).1 h3⟩
 ·rintro⟨x,rfl,h1,h2⟩;exact⟨x,List.mem_filter.2 ⟨List.mem_range.2 h1,(ZaC hi h1).2 h2⟩,rfl⟩
theorem ZeF (w:Zb) (p:Nat):(Yf w p).Pairwise (· <=·):=by
 unfold Yf ZaE;rw [List.pairwise_map];exact(List.pairwise_lt_range.filter _).imp fun{a b} h=>by show(a:Int) <= (b:Int);omega
theorem Wx (w:Zb) (p:Nat):(Yf w p).Nodup:=by
 unfold Yf ZaE;exact List.Pairwise.map _ (fun a b h q=>h (by have:((a:Nat):Int)= ((b:Nat):Int):=q;omega)) (List.nodup_range.filter _)
theorem ZdW {F:Nat} (hF:1000 <=F) {w:Zb} (hi:Inn w) (h8:w.Zx.length <=8) {p:Nat} (hp:p < w.Zx.length):Zqi F w.Zx (p:Int)=some (Yf w p):=by
 unfold Zqi;refine Yh (fun k=>(ZaE w p k,(k:Int))) rfl (n:=w.Zx.length) (by omega) (fun k hk next=>?_) (fun next=>?_)
 ·have hlen:=U3 w p k;unfold ZnG;dsimp only;rw [ZJ hk,Cq1,Zrn];obtain⟨m,hm,hc,hlt⟩:=Qb (c:=fun j=>up w j (k:Int)= (p:Int)∨up w j (k:Int) < 0) (.inr (hi.acy k hk));have hok:∀ j,okN w (up w j (k:Int)):=fun j=>hi.up ⟨by omega,by omega⟩ j
  refine Yh (fun j=>(ZaE w p k,up w j (k:Int),(j:Int))) rfl (n:=m) (by omega) (fun j hj nx=>?_) (fun nx=>?_)
  ·have hnc:=hlt j hj;have h1:¬ up w j (k:Int)= (p:Int):=fun q=>hnc (.inl q)
   have h2:¬ up w j (k:Int) < 0:=fun q=>hnc (.inr q)
   have h3:= (hok j).2;unfold ZnF;dsimp only;rw [decide_eq_true (show(j:Int) <= (w.Zx.length:Int) by omega),decide_eq_true (show up w j (k:Int) >=0 by omega),decide_eq_true h3];simp only [Bool.and_self,Cq1];rw [Z8,decide_eq_false h1,Cq0];obtain⟨q,e,hq⟩:=JP (hok j) h2;rw [Qn,if_neg h2,e,Xe hq];simp only [Bq0];rw [YB (by omega)]
  ·unfold ZnF ZjO;dsimp only;rw [YB (by omega)];rcases hc with h1 | h1
   ·rw [h1,decide_eq_true (show(m:Int) <= (w.Zx.length:Int) by omega),decide_eq_true (show(p:Int) >=0 by omega),decide_eq_true (show(p:Int) < (w.Zx.length:Int) by omega)];simp only [Bool.and_self,Cq1];rw [Z8,decide_eq_true rfl,Cq1,ZqM (by rw [List.length_singleton];omega)];simp only [Bq0];rw [if_pos ((ZaC hi hk).2 ⟨m,h1⟩)]
   ·rw [decide_eq_false (show ¬ up w m (k:Int) >=0 by omega)];simp only [Bool.and_false,Bool.false_and,Cq0]
    have hn:¬ Wth w p k:=by
     rintro⟨j,e⟩;by_cases hj:j < m
     ·exact hlt j hj (.inl e)
     ·have:=J3 h1 (show m <=j by omega);omega
    rw [if_neg (fun q=>hn ((ZaC hi hk).1 q)),List.append_nil]
 ·unfold ZnG;dsimp only;rw [ZR];rfl
def desc (w:Zb):Nat ->Nat ->List Int
 | 0,_=>[]
 | d + 1,v=>(v:Int)::(List.range w.Zx.length).flatMap fun k:Nat=>if inn w (k:Int)= (v:Int) then desc w d k else []
def ZfE (w:Zb) (d v:Nat):Prop:=∀ k,k < w.Zx.length ->∀ j,d <=j ->up w j (k:Int) ≠ (v:Int)
theorem ZfE.all {w:Zb} (hi:Inn w) {v:Nat}:ZfE w w.Zx.length v:=fun k hk j hj q=>by
 have:=J3 (hi.acy k hk) hj;omega
theorem ZeJ {w:Zb} {x k v j:Nat} (h1:up w j (x:Int)= (k:Int)) (h2:inn w (k:Int)= (v:Int)):up w (j + 1) (x:Int)= (v:Int):=by
 rw [Qn,h1,if_neg (by omega),h2]
theorem ZfE.kid {w:Zb} {d v k:Nat} (h:ZfE w (d + 1) v) (h2:inn w (k:Int)= (v:Int)):ZfE w d k:=fun x hx j hj q=>h x hx (j + 1) (by omega) (ZeJ q h2)
theorem Zfp {w:Zb} (hi:Inn w):∀ d v,v < w.Zx.length ->ZfE w d v ->∀ y:Int,y ∈ desc w d v↔∃ x:Nat,y= (x:Int)∧x < w.Zx.length∧Wth w v x:=by
 intro d
 induction d with
 | zero=>intro v hv hs;exact absurd rfl (hs v hv 0 (Nat.le_refl _))
 | succ d ih=>
   intro v hv hs y;unfold desc;rw [List.mem_cons,List.mem_flatMap]
   constructor
   ·rintro(h | ⟨k,hk,h⟩)
    ·exact⟨v,h,hv,0,rfl⟩
    ·by_cases e:inn w (k:Int)= (v:Int)
     ·rw [if_pos e] at h;obtain⟨x,h1,h2,j,h3⟩:= (ih k (List.mem_range.1 hk) (hs.kid e) y).1 h;exact⟨x,h1,h2,j + 1,ZeJ h3 e⟩
     ·rw [if_neg e] at h;cases h
   ·rintro⟨x,rfl,hx,j,hj⟩;cases j with
    | zero=>exact .inl hj
    | succ j=>
      right;rw [Qn] at hj;by_cases hn:up w j (x:Int) < 0
      ·rw [if_pos hn] at hj;omega
      ·rw [if_neg hn] at hj;obtain⟨k,e,hk⟩:=JP (hi.up (q:= (x:Int)) ⟨by omega,by omega⟩ j) hn;rw [e] at hj;refine⟨k,List.mem_range.2 hk,?_⟩;rw [if_pos hj];exact(ih k hk (hs.kid hj) _).2 ⟨x,rfl,hx,j,e⟩
theorem ZiU {w:Zb} (hi:Inn w) {v j:Nat} (hv:v < w.Zx.length) (hj:0 < j):up w j (v:Int) ≠ (v:Int):=by
 intro e
 have h:∀ m,up w (m * j) (v:Int)= (v:Int):=by
  intro m
  induction m with
  | zero=>rw [Nat.zero_mul];rfl
  | succ m ih=>rw [Nat.succ_mul,up_add,ih,e]
 have:=h w.Zx.length;have h2:=J3 (hi.acy v hv) (show w.Zx.length <=w.Zx.length * j from Nat.le_mul_of_pos_right _ hj);omega
theorem ZsO {w:Zb} (hi:Inn w):∀ d v,v < w.Zx.length ->ZfE w d v ->(desc w d v).Nodup:=by
 intro d
 induction d with
 | zero=>intro v hv hs;exact absurd rfl (hs v hv 0 (Nat.le_refl _))
 | succ d ih=>
   intro v hv hs;unfold desc;rw [List.nodup_cons];refine⟨fun h=>?_,?_⟩
   ·obtain⟨k,hk,h⟩:=List.mem_flatMap.1 h;by_cases e:inn w (k:Int)= (v:Int)
    ·rw [if_pos e] at h;obtain⟨x,h1,h2,j,h3⟩:= (Zfp hi d k (List.mem_range.1 hk) (hs.kid e) _).1 h;have:x=v:=by omega
     subst this;exact ZiU hi hv (Nat.succ_pos j) (ZeJ h3 e)
    ·rw [if_neg e] at h;cases h
   ·unfold List.Nodup;rw [List.pairwise_flatMap];refine⟨fun k hk=>?_,?_⟩
    ·by_cases e:inn w (k:Int)= (v:Int)
     ·rw [if_pos e];exact ih k (List.mem_range.1 hk) (hs.kid e)
     ·rw [if_neg e];exact List.Pairwise.nil
    ·refine List.Pairwise.imp_of_mem (R:= (· < ·)) (fun{a b} ha hb hab y hy z hz e=>?_) List.pairwise_lt_range;subst e;by_cases ea:inn w (a:Int)= (v:Int)
     ·rw [if_pos ea] at hy;by_cases eb:inn w (b:Int)= (v:Int)
      ·rw [if_pos eb] at hz;obtain⟨x,h1,h2,j1,h3⟩:= (Zfp hi d a (List.mem_range.1 ha) (hs.kid ea) _).1 hy;obtain⟨x',h1',h2',j2,h4⟩:= (Zfp hi d b (List.mem_range.1 hb) (hs.kid eb) _).1 hz;have:x=x':=by omega
       subst this;have u1:=ZeJ h3 ea;have u2:=ZeJ h4 eb;rcases Nat.lt_trichotomy j1 j2 with q | q | q
       ·rw [show j2 + 1= (j1 + 1) + (j2 - j1) by omega,up_add,u1] at u2;exact ZiU hi hv (by omega) u2
       ·subst q;rw [h3] at h4;omega
       ·rw [show j1 + 1= (j2 + 1) + (j1 - j2) by omega,up_add,u2] at u1;exact ZiU hi hv (by omega) u1
      ·rw [if_neg eb] at hz;cases hz
     ·rw [if_neg ea] at hy;cases hy
theorem Zdx {w:Zb} (hi:Inn w) {v:Nat} (hv:v < w.Zx.length):(desc w w.Zx.length v).Perm (Yf w v):=
 (List.perm_ext_iff_of_nodup (ZsO hi _ v hv (ZfE.all hi)) (Wx w v)).2 fun a=>by rw [Zfp hi _ v hv (ZfE.all hi),ZfP hi]
theorem Zwm {w:Zb} (hi:Inn w) {v:Nat} (hv:v < w.Zx.length):Uo (desc w w.Zx.length v)=Yf w v:=ZdK (Zdx hi hv) (ZeF w v)
theorem Zki {w:Zb} (hi:Inn w) {v:Nat} (hv:v < w.Zx.length):(desc w w.Zx.length v).length <=w.Zx.length:=by
 rw [(Zdx hi hv).length_eq];exact U3 _ _ _
def kids (w:Zb) (d v k:Nat):List Int:= (List.range k).flatMap fun k:Nat=>if inn w (k:Int)= (v:Int) then desc w d k else []
theorem Zgc (w:Zb) (d v k:Nat):kids w d v (k + 1)=kids w d v k ++ (if inn w (k:Int)= (v:Int) then desc w d k else []):=by
 unfold kids;rw [List.range_succ,List.flatMap_append];simp
theorem ZDe {w:Zb} {d v a b:Nat} (h:a <=b):(kids w d v a).length <= (kids w d v b).length:=by
 obtain⟨c,rfl⟩:∃ c,b=a + c:= ⟨b - a,by omega⟩
 induction c with
 | zero=>exact Nat.le_refl _
 | succ c ih=>
   rw [show a + (c + 1)= (a + c) + 1 by omega,Zgc,List.length_append];have:=ih (by omega);omega
theorem gather {F:Nat} (hF:1000 <=F) {w:Zb} (h8:w.Zx.length <=8)
 {B:Int ->(Int×List Int ->Option (Bool×List Int)) ->Int×List Int ->(Int×List Int ->Option (Bool×List Int)) ->Option (Bool×List Int)}
 {R:Int×List Int ->(Int×List Int ->Option (Bool×List Int)) ->Option (Bool×List Int)}
 (hR:∀ v l next,R (v,l) next= (app 8 l [v]).bind fun z=>loop F (B v next) (0,z))
 (hB:∀ v next k l nx,B v next (k,l) nx=bif decide (k < (w.Zx.length:Int)) then(ZK w.Zx k).bind fun x=>(bif x==v then(next (k,l)).bind fun p=>(bif !p.1 then some (false,p.2) else nx (Y2 (k + 1),p.2)) else nx (Y2 (k + 1),l)) else some (true,l)):
 ∀ d v l F',d < F' ->v < w.Zx.length ->ZfE w d v ->l.length + (desc w d v).length <=800000 ->loop F' R ((v:Int),l)=some (true,l ++ desc w d v):=by
 intro d
 induction d with
 | zero=>intro v l F' _ hv hs;exact absurd rfl (hs v hv 0 (Nat.le_refl _))
 | succ d ih=>
   intro v l F' hF' hv hs hlen;have ed:desc w (d + 1) v= (v:Int)::kids w d v w.Zx.length:=rfl;rw [ed,List.length_cons] at hlen;cases F' with
   | zero=>omega
   | succ F'=>
     rw [Zdm,hR,ZqM (by rw [List.length_singleton];omega)];simp only [Bq0];refine Yh (fun k=>((k:Int),l ++ [(v:Int)] ++ kids w d v k)) (by simp [kids]) (n:=w.Zx.length) (by omega) (fun k hk next=>?_) (fun next=>?_)
     ·have hle:=ZDe (w:=w) (d:=d) (v:=v) (show k + 1 <=w.Zx.length by omega);rw [Zgc] at hle ⊢;rw [hB,ZJ hk,Cq1,Xe hk];simp only [Bq0];by_cases e:inn w (k:Int)= (v:Int)
      ·rw [Z8,decide_eq_true e,Cq1,if_pos e];rw [if_pos e,List.length_append] at hle;rw [ih k _ F' (by omega) hk (hs.kid e) (by simp only [List.length_append,List.length_singleton];omega)];simp only [Bq0,Bool.not_true,Cq0];rw [YB (by omega),← List.append_assoc]
      ·rw [Z8,decide_eq_false e,Cq0,if_neg e,List.append_nil,YB (by omega)]
     ·rw [hB,ZR,Cq0,ed,List.append_assoc];rfl
def old (w:Zb) (q:Int):Bool:=decide ((sp w q.toNat).age >=30)
def lim (w:Zb) (s:ZH):Bool:=if s.act=1 then decide (w.said >=40) else if s.act=2 then(Yf w s.a.toNat).any (old w) else false
def Alw (w:Zb) (s:ZH):Prop:=
 (s.act=2 ->(sp w s.a.toNat).here=true∧(sp w s.a.toNat).machine ≠ s.b)∧
 (s.act=3 ->s.b ∉ Yf w s.a.toNat∧inn w s.a=-1∧(sp w s.a.toNat).here=true∧(sp w s.b.toNat).here=true∧(sp w s.a.toNat).machine= (sp w s.b.toNat).machine)∧
 (s.act=4 ->(sp w s.a.toNat).here=true∧inn w s.a ≠ -1)
instance (w:Zb) (s:ZH):Decidable (Alw w s):=by unfold Alw;infer_instance
def ZdF (w:Zb) (s:ZH):Int:=if lim w s then 3 else if Alw w s then 0 else 7
section
variable {F:Nat} {w:Zb}
theorem J7.nat {p:Int} {n:Nat} (h:J7 p n):∃ k:Nat,p= (k:Int)∧k < n:= ⟨p.toNat,by have:=h.1;omega,by have h1:=h.1;have h2:=h.2;omega⟩
theorem ZvH (hF:1000 <=F) (h:Wd w) (sm:UQ 900 w) {s:ZH} (ha:Ask w s):ZBd F w s=some (lim w s):=by
 have e:∀ k:Int,(s.act==k)=decide (s.act=k):=fun k=>Z8 _ _
 unfold ZBd Zgt lim;by_cases h1:s.act=1
 ·rw [e,decide_eq_true h1,Cq1,if_pos h1]
 rw [e 1,decide_eq_false h1,Cq0,if_neg h1];by_cases h2:s.act=2
 ·rw [e,decide_eq_true h2,Cq1,if_pos h2]
  have hin:J7 s.a w.Zx.length:=by
   rcases ha with q | q | q | q | q
   ·omega
   ·exact q.2.1
   ·omega
   ·omega
   ·omega
  obtain⟨p,ep,hp⟩:=hin.nat;have h8:=h.shr.Ko.p2;rw [ep,ZdW hF h.shr.inn h8 hp,Int.toNat_natCast];simp only [Bq0];have hw:=U3 w p w.Zx.length;have hlen:(Yf w p).length <=8:=by unfold Yf;omega
  have:=Zpz (F:=F) (body:=ZjS F w (Yf w p)) (r1:=some true) (r2:=some false) (fun k=>(k:Int)) (fun k=>old w ((Yf w p).getD k 0)) (n:= (Yf w p).length) (by omega) (fun k hk next=>?_) (fun next=>?_)
  ·refine this.trans ?_
   have e2:(List.range (Yf w p).length).any (fun k=>old w ((Yf w p).getD k 0))= (Yf w p).any (old w):=by
    rw [Bool.eq_iff_iff,List.any_eq_true,List.any_eq_true]
    constructor
    ·rintro⟨k,hk,q⟩;exact⟨_,YL (List.mem_range.1 hk),q⟩
    ·rintro⟨x,hx,q⟩;obtain⟨k,hk,rfl⟩:=List.getElem_of_mem hx;exact⟨k,List.mem_range.2 hk,by rw [List.getD_eq_getElem?_getD,List.getElem?_eq_getElem hk];exact q⟩
   rw [e2];cases (Yf w p).any (old w) <;> rfl
  ·have hm:=YL (d:= (0:Int)) hk;obtain⟨x,ex,hx,_⟩:= (ZfP h.shr.inn).1 hm;unfold ZjS;rw [ZJ hk,Cq1,YM 0 hk];simp only [Bq0];rw [ex,Zds hF h sm hx];simp only [Bq0];rw [YB (by omega)];unfold old;rw [Int.toNat_natCast,← Zg6 h.shr.two];rfl
  ·unfold ZjS Zgt;rw [ZR];rfl
 rw [e 2,decide_eq_false h2,Cq0,if_neg h2]
theorem ZEW (h:Wd w) (p:Nat):(U4 w p).at_= (sp w p).machine:=by rw [← Zg6 h.shr.two];rfl
theorem ZDf (h:Wd w) (p:Nat):(U4 w p).is= (sp w p).here:=by rw [← Zg6 h.shr.two];rfl
theorem ZqT (hF:1000 <=F) (h:Wd w) (sm:UQ 900 w) {s:ZH} (ha:Ask w s):ZBc F w s=some (decide (Alw w s)):=by
 have e:∀ k:Int,(s.act==k)=decide (s.act=k):=fun k=>Z8 _ _
 unfold ZBc;by_cases h2:s.act=2
 ·have hin:J7 s.a w.Zx.length:=by
   rcases ha with q | q | q | q | q
   ·omega
   ·exact q.2.1
   ·omega
   ·omega
   ·omega
  obtain⟨p,ep,hp⟩:=hin.nat;rw [e,decide_eq_true h2,Cq1,ep,Zds hF h sm hp];simp only [Bq0];rw [ZDf h,ZEW h,Qy];congr 1;rw [Bool.eq_iff_iff];simp only [Ba0,decide_eq_true_eq];unfold Alw;rw [ep,Int.toNat_natCast];exact⟨fun q=>⟨fun _=>q,fun z=>by omega,fun z=>by omega⟩,fun q=>q.1 h2⟩
 rw [e 2,decide_eq_false h2,Cq0];by_cases h3:s.act=3
 ·have hin:J7 s.a w.Zx.length∧J7 s.b w.Zx.length:=by
   rcases ha with q | q | q | q | q
   ·omega
   ·omega
   ·exact q.2
   ·omega
   ·omega
  obtain⟨p,ep,hp⟩:=hin.1.nat;obtain⟨r,er,hr⟩:=hin.2.nat;have h8:=h.shr.Ko.p2;have hw:=U3 w p w.Zx.length;have hlen:(Yf w p).length <=8:=by unfold Yf;omega
  rw [e,decide_eq_true h3,Cq1,ep,er,Zds hF h sm hp,Zds hF h sm hr];simp only [Bq0];rw [ZdW hF h.shr.inn h8 hp];simp only [Bq0]
  have hend:∃ b,loop F (Zgs w s (U4 w p,true) (U4 w r,true) (Yf w p)) 0=some b∧(b=true↔Alw w s):=by
   refine JR false (some ((((inn w s.a==-1) && (U4 w p).is) && (U4 w r).is) && ((U4 w p).at_== (U4 w r).at_))) (fun k=>(k:Int)) rfl (fun k=>(Yf w p).getD k 0=s.b) (n:= (Yf w p).length) (by omega) (fun k hk=>?_) (fun next=>?_) (fun k hk hc=>?_) (fun hno=>⟨_,rfl,?_⟩)
   ·have hb:∀ next,Zgs w s (U4 w p,true) (U4 w r,true) (Yf w p) (k:Int) next=bif decide ((Yf w p).getD k 0=s.b) then some false else next ((k + 1:Nat):Int):=fun next=>by
     unfold Zgs;dsimp only;rw [ZJ hk,Cq1,YM 0 hk];simp only [Bq0];rw [Z8,YB (by omega)]
    by_cases q:(Yf w p).getD k 0=s.b
    ·exact .inl ⟨fun next=>by rw [hb,decide_eq_true q];rfl,q⟩
    ·exact .inr ⟨fun next=>by rw [hb,decide_eq_false q];rfl,q⟩
   ·unfold Zgs;dsimp only;rw [ZR,Cq0,ep,Xe hp];rfl
   ·simp only [Bool.false_eq_true,false_iff];intro z;have:= (z.2.1 h3).1;rw [ep,Int.toNat_natCast,← hc] at this;exact this (YL hk)
   ·have hnm:s.b ∉ Yf w p:=fun z=>by
     obtain⟨k,hk,q⟩:=List.getElem_of_mem z;exact hno k hk (by rw [List.getD_eq_getElem?_getD,List.getElem?_eq_getElem hk];exact q)
    simp only [Ba0,beq_iff_eq];rw [ZDf h,ZDf h,ZEW h,ZEW h];unfold Alw;rw [ep,er,Int.toNat_natCast,Int.toNat_natCast];rw [er] at hnm;exact⟨fun q=>⟨fun z=>by omega,fun _=>⟨hnm,q.1.1.1,q.1.1.2,q.1.2,q.2⟩,fun z=>by omega⟩,fun q=>⟨⟨⟨(q.2.1 h3).2.1,(q.2.1 h3).2.2.1⟩,(q.2.1 h3).2.2.2.1⟩,(q.2.1 h3).2.2.2.2⟩⟩
  obtain⟨b,e1,e2⟩:=hend;rw [e1];congr 1;rw [Bool.eq_iff_iff,e2,decide_eq_true_eq]
 rw [e 3,decide_eq_false h3,Cq0];by_cases h4:s.act=4
 ·have hin:J7 s.a w.Zx.length:=by
   rcases ha with q | q | q | q | q
   ·omega
   ·omega
   ·omega
   ·exact q.2
   ·omega
  obtain⟨p,ep,hp⟩:=hin.nat;have hok:=h.shr.inn.rng p hp;rw [e,decide_eq_true h4,Cq1,ep,Zds hF h sm hp];simp only [Bq0];rw [ZDf h]
  have hA:Alw w s↔(sp w p).here=true∧inn w (p:Int) ≠ -1:=by
   unfold Alw;rw [ep,Int.toNat_natCast];exact⟨fun q=>q.2.2 h4,fun q=>⟨fun z=>by omega,fun z=>by omega,fun _=>q⟩⟩
  cases hh:(sp w p).here with
  | true=>
    rw [Yu,Xe hp];simp only [Bq0,Bool.true_and];congr 1;rw [Bool.eq_iff_iff,decide_eq_true_eq,decide_eq_true_eq,hA];have:=hok.1;exact⟨fun q=>⟨hh,by omega⟩,fun q=>by have:=q.2;omega⟩
  | false=>
    simp only [Xx,Bq0,Bool.false_and];congr 1;rw [Bool.eq_iff_iff,decide_eq_true_eq,hA,hh];simp
 rw [e 4,decide_eq_false h4,Cq0];congr 1;rw [Bool.eq_iff_iff,decide_eq_true_eq];exact⟨fun _=>⟨fun z=>absurd z h2,fun z=>absurd z h3,fun z=>absurd z h4⟩,fun _=>rfl⟩
end
end Go.Proofs.YtbmbbcaaimehkaaGreat
end
section
namespace Go.Proofs.YtbmbbcaaimehkaaGreat
open Go.Lf
section
variable {F:Nat} {w:Zb}
theorem Zk3 (w:Zb) (f:Int ->Bool) (d v k:Nat):(kids w d v (k + 1)).any f= ((kids w d v k).any f || (if inn w (k:Int)= (v:Int) then(desc w d k).any f else false)):=by
 rw [Zgc,List.any_append];by_cases e:inn w (k:Int)= (v:Int)
 ·rw [if_pos e,if_pos e]
 ·rw [if_neg e,if_neg e];rfl
theorem oldest (hF:1000 <=F) (hM:F <=1000000) (h:Wd w) (sm:UQ 900 w):∀ d v (x:Int) F',d < F' ->v < w.Zx.length ->ZfE w d v ->loop F' (ZcV F w) ((v:Int),x,false)=some (if(desc w d v).any (old w) then(false,3,true) else(true,x,false)):=by
 have h8:=h.shr.Ko.p2;intro d
 induction d with
 | zero=>intro v x F' _ hv hs;exact absurd rfl (hs v hv 0 (Nat.le_refl _))
 | succ d ih=>
   intro v x F' hF' hv hs;have ed:(desc w (d + 1) v).any (old w)= (old w (v:Int) || (kids w d v w.Zx.length).any (old w)):=rfl;rw [ed];cases F' with
   | zero=>omega
   | succ F'=>
     rw [Zdm];unfold ZcV;dsimp only;rw [Cq0,ZaF hF hM h sm hv];simp only [Bq0];have eo:old w (v:Int)=decide ((sp w v).age >=30):=rfl;by_cases ho:(sp w v).age >=30
     ·rw [eo,decide_eq_true ho,Cq1,Bool.not_false,Cq1,Bool.true_or];rfl
     ·rw [eo,decide_eq_false ho,Cq0,Bool.not_true,Cq0,Bool.false_or]
      change loop F (Zej w (v:Int) (loop F' (ZcV F w))) (0,x,false)=_
      have step:∀ k,k < w.Zx.length ->∀ nx,Zej w (v:Int) (loop F' (ZcV F w)) ((k:Int),x,false) nx=bif(if inn w (k:Int)= (v:Int) then(desc w d k).any (old w) else false) then some (false,3,true) else nx (((k + 1:Nat):Int),x,false):=fun k hk nx=>by
       unfold Zej;dsimp only;rw [ZJ hk,Cq1,Xe hk];simp only [Bq0];by_cases e:inn w (k:Int)= (v:Int)
       ·rw [Z8,decide_eq_true e,Cq1,if_pos e,ih k x F' (by omega) hk (hs.kid e)];simp only [Bq0];cases (desc w d k).any (old w) with
        | true=>rfl
        | false=>
          simp only [Bool.false_eq_true,if_false,Bool.not_true,Cq0];rw [YB (by omega)]
       ·rw [Z8,decide_eq_false e,Cq0,if_neg e,Cq0,YB (by omega)]
      have:=Zpz (F:=F) (body:=Zej w (v:Int) (loop F' (ZcV F w))) (r1:=some (false,3,true)) (r2:=some (true,x,false)) (fun k=>((k:Int),x,false)) (fun k=>if inn w (k:Int)= (v:Int) then(desc w d k).any (old w) else false) (n:=w.Zx.length) (by omega) step (fun next=>by unfold Zej;dsimp only;rw [ZR];rfl);refine this.trans ?_
      have e2:∀ n,(List.range n).any (fun k:Nat=>if inn w (k:Int)= (v:Int) then(desc w d k).any (old w) else false)= (kids w d v n).any (old w):=by
       intro n
       induction n with
       | zero=>rfl
       | succ n ihn=>rw [List.range_succ,List.any_append,ihn,Zk3];simp
      rw [e2];cases (kids w d v w.Zx.length).any (old w) <;> rfl
theorem ZBT {α:Type} {l l':List α} (h:l.Perm l') (f:α ->Bool):l.any f=l'.any f:=by
 rw [Bool.eq_iff_iff,List.any_eq_true,List.any_eq_true];exact⟨fun⟨x,a,b⟩=>⟨x,h.mem_iff.1 a,b⟩,fun⟨x,a,b⟩=>⟨x,h.mem_iff.2 a,b⟩⟩
theorem Zpf (hF:1000 <=F) (hM:F <=1000000) (h:Wd w) (sm:UQ 900 w) {s:ZH} (ha:Ask w s):Zwc F w s=some (ZdF w s):=by
 have e:∀ k:Int,(s.act==k)=decide (s.act=k):=fun k=>Z8 _ _
 have h8:=h.shr.Ko.p2;unfold Zwc ZdF;by_cases h1:s.act=1
 ·rw [e,decide_eq_true h1,Cq1];have hA:Alw w s:= ⟨fun z=>by omega,fun z=>by omega,fun z=>by omega⟩
  unfold lim;rw [if_pos h1,if_pos hA];by_cases q:w.said >=40
  ·rw [decide_eq_true q];rfl
  ·rw [decide_eq_false q];rfl
 rw [e 1,decide_eq_false h1,Cq0];by_cases h2:s.act=2
 ·have hin:J7 s.a w.Zx.length:=by
   rcases ha with q | q | q | q | q
   ·omega
   ·exact q.2.1
   ·omega
   ·omega
   ·omega
  obtain⟨p,ep,hp⟩:=hin.nat;rw [e,decide_eq_true h2,Cq1,ep,oldest hF hM h sm w.Zx.length p 0 F (by omega) hp (ZfE.all h.shr.inn),ZBT (Zdx h.shr.inn hp)];unfold lim;rw [if_neg h1,if_pos h2,ep,Int.toNat_natCast];cases (Yf w p).any (old w) with
  | true=>rfl
  | false=>
    simp only [Bool.false_eq_true,if_false,Bq0];unfold ZnR;dsimp only;rw [Cq0,ep,ZaF hF hM h sm hp];simp only [Bq0]
    have hA:Alw w s↔(sp w p).here=true∧(sp w p).machine ≠ s.b:=by
     unfold Alw;rw [ep,Int.toNat_natCast];exact⟨fun q=>q.1 h2,fun q=>⟨fun _=>q,fun z=>by omega,fun z=>by omega⟩⟩
    cases hh:(sp w p).here with
    | true=>
      by_cases q:(sp w p).machine=s.b
      ·rw [Z8,decide_eq_true q,if_neg (fun z=>(hA.1 z).2 q)];rfl
      ·rw [Z8,decide_eq_false q,if_pos (hA.2 ⟨hh,q⟩)];rfl
    | false=>
      rw [if_neg (fun z=>by have:= (hA.1 z).1;rw [hh] at this;cases this)];rfl
 have hl:lim w s=false:=by unfold lim;rw [if_neg h1,if_neg h2]
 rw [e 2,decide_eq_false h2,Cq0,hl];simp only [Bool.false_eq_true,if_false];by_cases h3:s.act=3
 ·have hin:J7 s.a w.Zx.length∧J7 s.b w.Zx.length:=by
   rcases ha with q | q | q | q | q
   ·omega
   ·omega
   ·exact q.2
   ·omega
   ·omega
  obtain⟨p,ep,hp⟩:=hin.1.nat;obtain⟨r,er,hr⟩:=hin.2.nat
  have hA:Alw w s↔s.b ∉ Yf w p∧inn w (p:Int)=-1∧(sp w p).here=true∧(sp w r).here=true∧(sp w p).machine= (sp w r).machine:=by
   unfold Alw;rw [ep,er,Int.toNat_natCast,Int.toNat_natCast];exact⟨fun q=>q.2.1 h3,fun q=>⟨fun z=>by omega,fun _=>q,fun z=>by omega⟩⟩
  rw [e,decide_eq_true h3,Cq1,ep,er,ZaF hF hM h sm hp,ZaF hF hM h sm hr];simp only [Bq0];rw [Xe hp];simp only [Bq0];by_cases g:inn w (p:Int)=-1∧(sp w p).here=true∧(sp w r).here=true∧(sp w p).machine= (sp w r).machine
  ·obtain⟨g1,g2,g3,g4⟩:=g;rw [g1,g2,g3,g4,XZ,XZ];simp only [Bool.not_true,Bool.or_self,Bool.not_false,Cq1];unfold ZnP;simp only [Bq0]
   have hg:loop F (Zj1 F w) (s.a,[])=some (true,desc w w.Zx.length p):=by
    rw [ep];have hdl:=Zki h.shr.inn hp;exact gather hF h8 (B:=fun v next=>ZsE w v next) (R:=Zj1 F w) (fun v l next=>rfl) (fun v next k l nx=>rfl) w.Zx.length p [] F (by omega) hp (ZfE.all h.shr.inn) (by simp;omega)
   unfold ZnO;rw [hg];simp only [Bq0];unfold ZnQ;simp only [Bq0];have hdl:=Zki h.shr.inn hp;obtain⟨b,eb,ib⟩:=Zaz (F:=F) hF (l:=desc w w.Zx.length p) (by omega) s.b;rw [er] at eb;rw [eb];simp only [Bq0];have hm:s.b ∈ desc w w.Zx.length p↔s.b ∈ Yf w p:= (Zdx h.shr.inn hp).mem_iff;cases b with
   | true=>rw [if_neg (fun z=>(hA.1 z).1 (hm.1 (ib.1 rfl)))];rfl
   | false=>
     rw [if_pos (hA.2 ⟨fun z=>(by have:=ib.2 (hm.2 z);cases this),g1,g2,g3,g4⟩)];rfl
  ·have:(((inn w (p:Int) != (-1)) || !(sp w p).here) || !(sp w r).here || ((sp w p).machine != (sp w r).machine))=true:=by
    rw [← Bool.not_eq_false];intro z;simp only [Bool.or_eq_false_iff,bne_eq_false_iff_eq,Bool.not_eq_false'] at z;exact g ⟨z.1.1.1,z.1.1.2,z.1.2,z.2⟩
   rw [this,Bool.not_true,Cq0,if_neg (fun z=>g (hA.1 z).2)]
 rw [e 3,decide_eq_false h3,Cq0];by_cases h4:s.act=4
 ·have hin:J7 s.a w.Zx.length:=by
   rcases ha with q | q | q | q | q
   ·omega
   ·omega
   ·omega
   ·exact q.2
   ·omega
  obtain⟨p,ep,hp⟩:=hin.nat
  have hA:Alw w s↔(sp w p).here=true∧inn w (p:Int) ≠ -1:=by
   unfold Alw;rw [ep,Int.toNat_natCast];exact⟨fun q=>q.2.2 h4,fun q=>⟨fun z=>by omega,fun z=>by omega,fun _=>q⟩⟩
  rw [e,decide_eq_true h4,Cq1,ep,ZaF hF hM h sm hp];simp only [Bq0];cases hh:(sp w p).here with
  | true=>
    simp only [Bool.not_true,Bool.not_false,Yu,Bool.false_or];rw [Xe hp];simp only [Bq0];by_cases q:inn w (p:Int)=-1
    ·rw [Z8,decide_eq_true q,if_neg (fun z=>(hA.1 z).2 q)];rfl
    ·rw [Z8,decide_eq_false q,if_pos (hA.2 ⟨hh,q⟩)];rfl
  | false=>
    rw [if_neg (fun z=>by have:= (hA.1 z).1;rw [hh] at this;cases this)];rfl
 rw [e 4,decide_eq_false h4,Cq0,if_pos (show Alw w s from⟨fun z=>absurd z h2,fun z=>absurd z h3,fun z=>absurd z h4⟩)]
end
end Go.Proofs.YtbmbbcaaimehkaaGreat
end
